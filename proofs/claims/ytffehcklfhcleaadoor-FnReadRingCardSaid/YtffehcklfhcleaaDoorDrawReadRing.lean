/-
  The draws of a ring for a text, and of a text that is mostly a ring's.
  No condition.
-/
import Derived.Deep.RegionWith
import Derived.Deep.DeepCutAuto
import Derived.Test.YtffehcklfhcleaaDoorRG
import Derived.Test.YtffehcklfhcleaaDoorDrawRing0
import Derived.Test.YtffehcklfhcleaaDoorRingText
namespace Go.Proofs.YtffehcklfhcleaaDoor
open Go.RowKit Go.Sort base
/- some numbers, from a code -/
def FreshInts (w : World) (L : Nat) (e : Ending) (w' : World) : Prop := (∃ v zs, e = .returned v ∧ Own w' w.heap.size v zs ∧ zs.length ≤ L) ∧ Below w.heap.size w w'
set_option maxHeartbeats 1000000 in
theorem drawRingText_b (A : Option Addr) (n c : Nat) (zs : List Int) (w : World) (h : IRk .u8 w A n zs) (hz : ∀ z ∈ zs, (Lit.int .u8 z).wf = true) (hc : n ≤ c) :
    Calls Tryd.prog 10 #[.slice A n c] w (FreshInts w 13) := by
  have H := hide h
  have HZ := hide hz
  clear h hz
  go_enter Tryd.func10, Tryd.ntmps10
  go_wp2_with fail
  refine (open_b A n c zs _ H.out HZ.out hc).mono ?_
  rintro e w1 ⟨R, rfl, hR, hr, hb⟩
  have H1 := hide hr
  have B1 := hide hb
  have hRl := hr.lt
  clear hr hb
  go_wp2_with fail
  refine (l20Long_any R 0 _ H1.out (by omega)).mono ?_
  rintro e w2 ⟨k, rfl, k1, k2, hr, hg⟩
  have H2 := hide hr
  have B2 := hide (B1.out.grown hg B1.out.size (by simp; omega))
  clear hr hg
  go_wp2_with fail
  refine (l20Ring_any R 1 k 6 _ H2.out (by omega) (by omega) ⟨by omega, by omega⟩).mono ?_
  rintro e w3 ⟨v, zs, rfl, ho, hl, hr, hg⟩
  have HO := hide (show Own w3 w.heap.size v zs from ho.base_le B2.out.size)
  have HL := Lib.hid hl
  have B3 := hide (B2.out.grown hg B2.out.size (by simp; omega))
  clear ho hr hg hl
  go_wp2_with fail
  go_ret
  exact ⟨⟨v, zs, rfl, HO.out, HL.out⟩, B3.out⟩
/-- 's[:k]', 's[k:]' -/
theorem run_strTake (S : ByteArray) (k : Nat) (h : k ≤ S.size) : ∃ T : ByteArray, T.size ≤ S.size ∧ ∀ wx : World, (Instr.slice 9 (.string S) none (some (.int .i64 (k : Int))) none).run Tryd.prog wx = .ok (.string T) wx := by
  have h1 : (0 : Int) ≤ (k : Int) := by omega
  have h2 : (k : Int) ≤ (S.size : Int) := by omega
  refine ⟨S.extract 0 k, by rw [ByteArray.size_extract]; omega, fun wx => ?_⟩
  simp [Instr.slice, run_underlying Tryd.underlying9, Instr.sliceBounds, run_sliceBound _ _ _ _ h1 h2, go_sem]
  exact fun h => absurd h (by omega)
theorem run_strDrop (S : ByteArray) (k : Nat) (h : k ≤ S.size) : ∃ T : ByteArray, T.size ≤ S.size ∧ ∀ wx : World, (Instr.slice 9 (.string S) (some (.int .i64 (k : Int))) none none).run Tryd.prog wx = .ok (.string T) wx := by
  have h1 : (0 : Int) ≤ (k : Int) := by omega
  have h2 : (k : Int) ≤ (S.size : Int) := by omega
  refine ⟨S.extract k S.size, by rw [ByteArray.size_extract]; omega, fun wx => ?_⟩
  simp [Instr.slice, run_underlying Tryd.underlying9, Instr.sliceBounds, run_sliceBound _ _ _ _ h1 h2, go_sem]
  try omega
/- some text -/
def FreshStr (w : World) (L : Nat) (e : Ending) (w' : World) : Prop := (∃ S : ByteArray, e = .returned (.string S) ∧ S.size ≤ L) ∧ Below w.heap.size w w'
/-- a text of at most n letters -/
def IsStr (n : Nat) (v : Value) : Prop := ∃ T : ByteArray, v = .string T ∧ T.size ≤ n
/-- a literal of five texts of the call's own; the address of one -/
def IsLitS (B n : Nat) (wx : World) (v : Value) : Prop := ∃ b : Nat, v = .slice (some ⟨b, 0, none⟩) n n ∧ B ≤ b ∧ ∀ t, t < n → ∃ z : ByteArray, wx.cell? ⟨b, t, none⟩ = some (.string z) ∧ z.size ≤ 1
def IsCellS (B : Nat) (wx : World) (v : Value) : Prop := ∃ (b t : Nat) (z : ByteArray), v = .pointer (some ⟨b, t, none⟩) ∧ B ≤ b ∧ wx.cell? ⟨b, t, none⟩ = some (.string z) ∧ z.size ≤ 1
theorem IsLitS.grown {B n : Nat} {wx wy : World} {v : Value} {row : Option Nat} (h : IsLitS B n wx v) (hg : wx.grownBy wy row) (hrow : ∀ x, row = some x → x < B) : IsLitS B n wy v := by
  obtain ⟨b, e, l, hc⟩ := h
  exact ⟨b, e, l, fun t ht => by obtain ⟨z, hz, hs⟩ := hc t ht; exact ⟨z, hg.cell hz (fun e => by have := hrow b e.symm; omega), hs⟩⟩
theorem IsCellS.grown {B : Nat} {wx wy : World} {v : Value} {row : Option Nat} (h : IsCellS B wx v) (hg : wx.grownBy wy row) (hrow : ∀ x, row = some x → x < B) : IsCellS B wy v := by
  obtain ⟨b, t, z, e, l, hz, hs⟩ := h
  exact ⟨b, t, z, e, l, hg.cell hz (fun e => by have := hrow b e.symm; omega), hs⟩
theorem IsLitS.made (w : World) (cs : List ByteArray) (B : Nat) (hB : B ≤ w.heap.size) (hs : ∀ x ∈ cs, x.size ≤ 1) : IsLitS B cs.length (w.alloc (.cells (cs.map Value.string).toArray 9)) (.slice (some ⟨w.heap.size, 0, none⟩) cs.length cs.length) :=
  ⟨_, rfl, hB, fun t ht => ⟨cs[t], cell_at (by simp [ht]) rfl, hs _ (List.getElem_mem ht)⟩⟩
structure JR (w : World) (R P : Nat) (S : ByteArray) (k : Nat) (L : Nat → Bool) (x25 x26 x27 x28 x29 x30 x31 x32 x33 x34 x35 x36 x37 x38 x2 : Value) (wx : World) : Prop where
  h0 : L 0 = true → x25 = .string S
  h1 : L 1 = true → x26 = .int .i64 (k : Nat)
  h2 : L 2 = true → IsStr 100 x27
  h3 : L 3 = true → IsLitS w.heap.size 5 wx x28
  h4 : L 4 = true → x29 = .pointer (some ⟨R, 0, none⟩)
  h5 : L 5 = true → ∃ t : Nat, x30 = .int .i64 t ∧ t < 5
  h6 : L 6 = true → IsCellS w.heap.size wx x31
  h7 : L 7 = true → IsStr 1 x32
  h8 : L 8 = true → IsStr 101 x33
  h9 : L 9 = true → x34 = .string S
  h10 : L 10 = true → x35 = .int .i64 (k : Nat)
  h11 : L 11 = true → x36 = .int .i64 ((k : Nat) + 1)
  h12 : L 12 = true → IsStr 100 x37
  h13 : L 13 = true → IsStr 201 x38
  h14 : L 14 = true → IsStr 201 x2
  s0 : L 5 = false → RG w R P wx
  s1 : RG w R (P + 1) wx
theorem JR.start {w : World} {R P : Nat} {S : ByteArray} {k : Nat} {wx : World} {x25 x26 x27 x28 x29 x30 x31 x32 x33 x34 x35 x36 x37 x38 x2 : Value} (hs : RG w R P wx) : JR w R P S k (fun _ => false) x25 x26 x27 x28 x29 x30 x31 x32 x33 x34 x35 x36 x37 x38 x2 wx :=
  ⟨(fun h => by cases h), (fun h => by cases h), (fun h => by cases h), (fun h => by cases h), (fun h => by cases h), (fun h => by cases h), (fun h => by cases h), (fun h => by cases h), (fun h => by cases h), (fun h => by cases h), (fun h => by cases h), (fun h => by cases h), (fun h => by cases h), (fun h => by cases h), (fun h => by cases h), fun _ => hs, hs.mono (by omega)⟩
theorem JR.p0 {w : World} {R P : Nat} {S : ByteArray} {k : Nat} {wx : World} {L : Nat → Bool} {x25 x26 x27 x28 x29 x30 x31 x32 x33 x34 x35 x36 x37 x38 x2 : Value} (h : JR w R P S k L x25 x26 x27 x28 x29 x30 x31 x32 x33 x34 x35 x36 x37 x38 x2 wx) {v : Value} (hv : v = .string S) : JR w R P S k (upd L 0) v x26 x27 x28 x29 x30 x31 x32 x33 x34 x35 x36 x37 x38 x2 wx :=
  ⟨fun _ => hv, fun e => h.h1 (upd_ne e rfl), fun e => h.h2 (upd_ne e rfl), fun e => h.h3 (upd_ne e rfl), fun e => h.h4 (upd_ne e rfl), fun e => h.h5 (upd_ne e rfl), fun e => h.h6 (upd_ne e rfl), fun e => h.h7 (upd_ne e rfl), fun e => h.h8 (upd_ne e rfl), fun e => h.h9 (upd_ne e rfl), fun e => h.h10 (upd_ne e rfl), fun e => h.h11 (upd_ne e rfl), fun e => h.h12 (upd_ne e rfl), fun e => h.h13 (upd_ne e rfl), fun e => h.h14 (upd_ne e rfl), fun e => h.s0 (upd_f e), h.s1⟩
theorem JR.p1 {w : World} {R P : Nat} {S : ByteArray} {k : Nat} {wx : World} {L : Nat → Bool} {x25 x26 x27 x28 x29 x30 x31 x32 x33 x34 x35 x36 x37 x38 x2 : Value} (h : JR w R P S k L x25 x26 x27 x28 x29 x30 x31 x32 x33 x34 x35 x36 x37 x38 x2 wx) {v : Value} (hv : v = .int .i64 (k : Nat)) : JR w R P S k (upd L 1) x25 v x27 x28 x29 x30 x31 x32 x33 x34 x35 x36 x37 x38 x2 wx :=
  ⟨fun e => h.h0 (upd_ne e rfl), fun _ => hv, fun e => h.h2 (upd_ne e rfl), fun e => h.h3 (upd_ne e rfl), fun e => h.h4 (upd_ne e rfl), fun e => h.h5 (upd_ne e rfl), fun e => h.h6 (upd_ne e rfl), fun e => h.h7 (upd_ne e rfl), fun e => h.h8 (upd_ne e rfl), fun e => h.h9 (upd_ne e rfl), fun e => h.h10 (upd_ne e rfl), fun e => h.h11 (upd_ne e rfl), fun e => h.h12 (upd_ne e rfl), fun e => h.h13 (upd_ne e rfl), fun e => h.h14 (upd_ne e rfl), fun e => h.s0 (upd_f e), h.s1⟩
theorem JR.p2 {w : World} {R P : Nat} {S : ByteArray} {k : Nat} {wx : World} {L : Nat → Bool} {x25 x26 x27 x28 x29 x30 x31 x32 x33 x34 x35 x36 x37 x38 x2 : Value} (h : JR w R P S k L x25 x26 x27 x28 x29 x30 x31 x32 x33 x34 x35 x36 x37 x38 x2 wx) {v : Value} (hv : IsStr 100 v) : JR w R P S k (upd L 2) x25 x26 v x28 x29 x30 x31 x32 x33 x34 x35 x36 x37 x38 x2 wx :=
  ⟨fun e => h.h0 (upd_ne e rfl), fun e => h.h1 (upd_ne e rfl), fun _ => hv, fun e => h.h3 (upd_ne e rfl), fun e => h.h4 (upd_ne e rfl), fun e => h.h5 (upd_ne e rfl), fun e => h.h6 (upd_ne e rfl), fun e => h.h7 (upd_ne e rfl), fun e => h.h8 (upd_ne e rfl), fun e => h.h9 (upd_ne e rfl), fun e => h.h10 (upd_ne e rfl), fun e => h.h11 (upd_ne e rfl), fun e => h.h12 (upd_ne e rfl), fun e => h.h13 (upd_ne e rfl), fun e => h.h14 (upd_ne e rfl), fun e => h.s0 (upd_f e), h.s1⟩
theorem JR.p4 {w : World} {R P : Nat} {S : ByteArray} {k : Nat} {wx : World} {L : Nat → Bool} {x25 x26 x27 x28 x29 x30 x31 x32 x33 x34 x35 x36 x37 x38 x2 : Value} (h : JR w R P S k L x25 x26 x27 x28 x29 x30 x31 x32 x33 x34 x35 x36 x37 x38 x2 wx) {v : Value} (hv : v = .pointer (some ⟨R, 0, none⟩)) : JR w R P S k (upd L 4) x25 x26 x27 x28 v x30 x31 x32 x33 x34 x35 x36 x37 x38 x2 wx :=
  ⟨fun e => h.h0 (upd_ne e rfl), fun e => h.h1 (upd_ne e rfl), fun e => h.h2 (upd_ne e rfl), fun e => h.h3 (upd_ne e rfl), fun _ => hv, fun e => h.h5 (upd_ne e rfl), fun e => h.h6 (upd_ne e rfl), fun e => h.h7 (upd_ne e rfl), fun e => h.h8 (upd_ne e rfl), fun e => h.h9 (upd_ne e rfl), fun e => h.h10 (upd_ne e rfl), fun e => h.h11 (upd_ne e rfl), fun e => h.h12 (upd_ne e rfl), fun e => h.h13 (upd_ne e rfl), fun e => h.h14 (upd_ne e rfl), fun e => h.s0 (upd_f e), h.s1⟩
theorem JR.p6 {w : World} {R P : Nat} {S : ByteArray} {k : Nat} {wx : World} {L : Nat → Bool} {x25 x26 x27 x28 x29 x30 x31 x32 x33 x34 x35 x36 x37 x38 x2 : Value} (h : JR w R P S k L x25 x26 x27 x28 x29 x30 x31 x32 x33 x34 x35 x36 x37 x38 x2 wx) {v : Value} (hv : IsCellS w.heap.size wx v) : JR w R P S k (upd L 6) x25 x26 x27 x28 x29 x30 v x32 x33 x34 x35 x36 x37 x38 x2 wx :=
  ⟨fun e => h.h0 (upd_ne e rfl), fun e => h.h1 (upd_ne e rfl), fun e => h.h2 (upd_ne e rfl), fun e => h.h3 (upd_ne e rfl), fun e => h.h4 (upd_ne e rfl), fun e => h.h5 (upd_ne e rfl), fun _ => hv, fun e => h.h7 (upd_ne e rfl), fun e => h.h8 (upd_ne e rfl), fun e => h.h9 (upd_ne e rfl), fun e => h.h10 (upd_ne e rfl), fun e => h.h11 (upd_ne e rfl), fun e => h.h12 (upd_ne e rfl), fun e => h.h13 (upd_ne e rfl), fun e => h.h14 (upd_ne e rfl), fun e => h.s0 (upd_f e), h.s1⟩
theorem JR.p7 {w : World} {R P : Nat} {S : ByteArray} {k : Nat} {wx : World} {L : Nat → Bool} {x25 x26 x27 x28 x29 x30 x31 x32 x33 x34 x35 x36 x37 x38 x2 : Value} (h : JR w R P S k L x25 x26 x27 x28 x29 x30 x31 x32 x33 x34 x35 x36 x37 x38 x2 wx) {v : Value} (hv : IsStr 1 v) : JR w R P S k (upd L 7) x25 x26 x27 x28 x29 x30 x31 v x33 x34 x35 x36 x37 x38 x2 wx :=
  ⟨fun e => h.h0 (upd_ne e rfl), fun e => h.h1 (upd_ne e rfl), fun e => h.h2 (upd_ne e rfl), fun e => h.h3 (upd_ne e rfl), fun e => h.h4 (upd_ne e rfl), fun e => h.h5 (upd_ne e rfl), fun e => h.h6 (upd_ne e rfl), fun _ => hv, fun e => h.h8 (upd_ne e rfl), fun e => h.h9 (upd_ne e rfl), fun e => h.h10 (upd_ne e rfl), fun e => h.h11 (upd_ne e rfl), fun e => h.h12 (upd_ne e rfl), fun e => h.h13 (upd_ne e rfl), fun e => h.h14 (upd_ne e rfl), fun e => h.s0 (upd_f e), h.s1⟩
theorem JR.p8 {w : World} {R P : Nat} {S : ByteArray} {k : Nat} {wx : World} {L : Nat → Bool} {x25 x26 x27 x28 x29 x30 x31 x32 x33 x34 x35 x36 x37 x38 x2 : Value} (h : JR w R P S k L x25 x26 x27 x28 x29 x30 x31 x32 x33 x34 x35 x36 x37 x38 x2 wx) {v : Value} (hv : IsStr 101 v) : JR w R P S k (upd L 8) x25 x26 x27 x28 x29 x30 x31 x32 v x34 x35 x36 x37 x38 x2 wx :=
  ⟨fun e => h.h0 (upd_ne e rfl), fun e => h.h1 (upd_ne e rfl), fun e => h.h2 (upd_ne e rfl), fun e => h.h3 (upd_ne e rfl), fun e => h.h4 (upd_ne e rfl), fun e => h.h5 (upd_ne e rfl), fun e => h.h6 (upd_ne e rfl), fun e => h.h7 (upd_ne e rfl), fun _ => hv, fun e => h.h9 (upd_ne e rfl), fun e => h.h10 (upd_ne e rfl), fun e => h.h11 (upd_ne e rfl), fun e => h.h12 (upd_ne e rfl), fun e => h.h13 (upd_ne e rfl), fun e => h.h14 (upd_ne e rfl), fun e => h.s0 (upd_f e), h.s1⟩
theorem JR.p9 {w : World} {R P : Nat} {S : ByteArray} {k : Nat} {wx : World} {L : Nat → Bool} {x25 x26 x27 x28 x29 x30 x31 x32 x33 x34 x35 x36 x37 x38 x2 : Value} (h : JR w R P S k L x25 x26 x27 x28 x29 x30 x31 x32 x33 x34 x35 x36 x37 x38 x2 wx) {v : Value} (hv : v = .string S) : JR w R P S k (upd L 9) x25 x26 x27 x28 x29 x30 x31 x32 x33 v x35 x36 x37 x38 x2 wx :=
  ⟨fun e => h.h0 (upd_ne e rfl), fun e => h.h1 (upd_ne e rfl), fun e => h.h2 (upd_ne e rfl), fun e => h.h3 (upd_ne e rfl), fun e => h.h4 (upd_ne e rfl), fun e => h.h5 (upd_ne e rfl), fun e => h.h6 (upd_ne e rfl), fun e => h.h7 (upd_ne e rfl), fun e => h.h8 (upd_ne e rfl), fun _ => hv, fun e => h.h10 (upd_ne e rfl), fun e => h.h11 (upd_ne e rfl), fun e => h.h12 (upd_ne e rfl), fun e => h.h13 (upd_ne e rfl), fun e => h.h14 (upd_ne e rfl), fun e => h.s0 (upd_f e), h.s1⟩
theorem JR.p10 {w : World} {R P : Nat} {S : ByteArray} {k : Nat} {wx : World} {L : Nat → Bool} {x25 x26 x27 x28 x29 x30 x31 x32 x33 x34 x35 x36 x37 x38 x2 : Value} (h : JR w R P S k L x25 x26 x27 x28 x29 x30 x31 x32 x33 x34 x35 x36 x37 x38 x2 wx) {v : Value} (hv : v = .int .i64 (k : Nat)) : JR w R P S k (upd L 10) x25 x26 x27 x28 x29 x30 x31 x32 x33 x34 v x36 x37 x38 x2 wx :=
  ⟨fun e => h.h0 (upd_ne e rfl), fun e => h.h1 (upd_ne e rfl), fun e => h.h2 (upd_ne e rfl), fun e => h.h3 (upd_ne e rfl), fun e => h.h4 (upd_ne e rfl), fun e => h.h5 (upd_ne e rfl), fun e => h.h6 (upd_ne e rfl), fun e => h.h7 (upd_ne e rfl), fun e => h.h8 (upd_ne e rfl), fun e => h.h9 (upd_ne e rfl), fun _ => hv, fun e => h.h11 (upd_ne e rfl), fun e => h.h12 (upd_ne e rfl), fun e => h.h13 (upd_ne e rfl), fun e => h.h14 (upd_ne e rfl), fun e => h.s0 (upd_f e), h.s1⟩
theorem JR.p11 {w : World} {R P : Nat} {S : ByteArray} {k : Nat} {wx : World} {L : Nat → Bool} {x25 x26 x27 x28 x29 x30 x31 x32 x33 x34 x35 x36 x37 x38 x2 : Value} (h : JR w R P S k L x25 x26 x27 x28 x29 x30 x31 x32 x33 x34 x35 x36 x37 x38 x2 wx) {v : Value} (hv : v = .int .i64 ((k : Nat) + 1)) : JR w R P S k (upd L 11) x25 x26 x27 x28 x29 x30 x31 x32 x33 x34 x35 v x37 x38 x2 wx :=
  ⟨fun e => h.h0 (upd_ne e rfl), fun e => h.h1 (upd_ne e rfl), fun e => h.h2 (upd_ne e rfl), fun e => h.h3 (upd_ne e rfl), fun e => h.h4 (upd_ne e rfl), fun e => h.h5 (upd_ne e rfl), fun e => h.h6 (upd_ne e rfl), fun e => h.h7 (upd_ne e rfl), fun e => h.h8 (upd_ne e rfl), fun e => h.h9 (upd_ne e rfl), fun e => h.h10 (upd_ne e rfl), fun _ => hv, fun e => h.h12 (upd_ne e rfl), fun e => h.h13 (upd_ne e rfl), fun e => h.h14 (upd_ne e rfl), fun e => h.s0 (upd_f e), h.s1⟩
theorem JR.p12 {w : World} {R P : Nat} {S : ByteArray} {k : Nat} {wx : World} {L : Nat → Bool} {x25 x26 x27 x28 x29 x30 x31 x32 x33 x34 x35 x36 x37 x38 x2 : Value} (h : JR w R P S k L x25 x26 x27 x28 x29 x30 x31 x32 x33 x34 x35 x36 x37 x38 x2 wx) {v : Value} (hv : IsStr 100 v) : JR w R P S k (upd L 12) x25 x26 x27 x28 x29 x30 x31 x32 x33 x34 x35 x36 v x38 x2 wx :=
  ⟨fun e => h.h0 (upd_ne e rfl), fun e => h.h1 (upd_ne e rfl), fun e => h.h2 (upd_ne e rfl), fun e => h.h3 (upd_ne e rfl), fun e => h.h4 (upd_ne e rfl), fun e => h.h5 (upd_ne e rfl), fun e => h.h6 (upd_ne e rfl), fun e => h.h7 (upd_ne e rfl), fun e => h.h8 (upd_ne e rfl), fun e => h.h9 (upd_ne e rfl), fun e => h.h10 (upd_ne e rfl), fun e => h.h11 (upd_ne e rfl), fun _ => hv, fun e => h.h13 (upd_ne e rfl), fun e => h.h14 (upd_ne e rfl), fun e => h.s0 (upd_f e), h.s1⟩
theorem JR.p13 {w : World} {R P : Nat} {S : ByteArray} {k : Nat} {wx : World} {L : Nat → Bool} {x25 x26 x27 x28 x29 x30 x31 x32 x33 x34 x35 x36 x37 x38 x2 : Value} (h : JR w R P S k L x25 x26 x27 x28 x29 x30 x31 x32 x33 x34 x35 x36 x37 x38 x2 wx) {v : Value} (hv : IsStr 201 v) : JR w R P S k (upd L 13) x25 x26 x27 x28 x29 x30 x31 x32 x33 x34 x35 x36 x37 v x2 wx :=
  ⟨fun e => h.h0 (upd_ne e rfl), fun e => h.h1 (upd_ne e rfl), fun e => h.h2 (upd_ne e rfl), fun e => h.h3 (upd_ne e rfl), fun e => h.h4 (upd_ne e rfl), fun e => h.h5 (upd_ne e rfl), fun e => h.h6 (upd_ne e rfl), fun e => h.h7 (upd_ne e rfl), fun e => h.h8 (upd_ne e rfl), fun e => h.h9 (upd_ne e rfl), fun e => h.h10 (upd_ne e rfl), fun e => h.h11 (upd_ne e rfl), fun e => h.h12 (upd_ne e rfl), fun _ => hv, fun e => h.h14 (upd_ne e rfl), fun e => h.s0 (upd_f e), h.s1⟩
theorem JR.p14 {w : World} {R P : Nat} {S : ByteArray} {k : Nat} {wx : World} {L : Nat → Bool} {x25 x26 x27 x28 x29 x30 x31 x32 x33 x34 x35 x36 x37 x38 x2 : Value} (h : JR w R P S k L x25 x26 x27 x28 x29 x30 x31 x32 x33 x34 x35 x36 x37 x38 x2 wx) {v : Value} (hv : IsStr 201 v) : JR w R P S k (upd L 14) x25 x26 x27 x28 x29 x30 x31 x32 x33 x34 x35 x36 x37 x38 v wx :=
  ⟨fun e => h.h0 (upd_ne e rfl), fun e => h.h1 (upd_ne e rfl), fun e => h.h2 (upd_ne e rfl), fun e => h.h3 (upd_ne e rfl), fun e => h.h4 (upd_ne e rfl), fun e => h.h5 (upd_ne e rfl), fun e => h.h6 (upd_ne e rfl), fun e => h.h7 (upd_ne e rfl), fun e => h.h8 (upd_ne e rfl), fun e => h.h9 (upd_ne e rfl), fun e => h.h10 (upd_ne e rfl), fun e => h.h11 (upd_ne e rfl), fun e => h.h12 (upd_ne e rfl), fun e => h.h13 (upd_ne e rfl), fun _ => hv, fun e => h.s0 (upd_f e), h.s1⟩
theorem JR.new {w : World} {R P : Nat} {S : ByteArray} {k : Nat} {wx : World} {L : Nat → Bool} {x25 x26 x27 x28 x29 x30 x31 x32 x33 x34 x35 x36 x37 x38 x2 : Value} (h : JR w R P S k L x25 x26 x27 x28 x29 x30 x31 x32 x33 x34 x35 x36 x37 x38 x2 wx)  : JR w R P S k (upd L 3) x25 x26 x27 (.slice (some ⟨wx.heap.size, 0, none⟩) 5 5) x29 x30 x31 x32 x33 x34 x35 x36 x37 x38 x2 (wx.alloc (.cells #[.string ⟨#[]⟩, .string ⟨#[48]⟩, .string ⟨#[50]⟩, .string ⟨#[47]⟩, .string ⟨#[97]⟩] 9)) := by
  exact ⟨fun e => h.h0 (upd_ne e rfl), fun e => h.h1 (upd_ne e rfl), fun e => h.h2 (upd_ne e rfl), fun _ => IsLitS.made wx [⟨#[]⟩, ⟨#[48]⟩, ⟨#[50]⟩, ⟨#[47]⟩, ⟨#[97]⟩] _ h.s1.size (by decide), fun e => h.h4 (upd_ne e rfl), fun e => h.h5 (upd_ne e rfl), fun e => (h.h6 (upd_ne e rfl)).grown (World.grownBy_alloc _ _ none) (fun x hx => by cases hx), fun e => h.h7 (upd_ne e rfl), fun e => h.h8 (upd_ne e rfl), fun e => h.h9 (upd_ne e rfl), fun e => h.h10 (upd_ne e rfl), fun e => h.h11 (upd_ne e rfl), fun e => h.h12 (upd_ne e rfl), fun e => h.h13 (upd_ne e rfl), fun e => h.h14 (upd_ne e rfl), fun e => (h.s0 (upd_f e)).alloc _, h.s1.alloc _⟩
theorem JR.pick {w : World} {R P : Nat} {S : ByteArray} {k : Nat} {wx : World} {L : Nat → Bool} {x25 x26 x27 x28 x29 x30 x31 x32 x33 x34 x35 x36 x37 x38 x2 : Value} (h : JR w R P S k L x25 x26 x27 x28 x29 x30 x31 x32 x33 x34 x35 x36 x37 x38 x2 wx) (hL : L 5 = false) {t : Nat} (ht : t < 5) {wy : World} (hr : RdB wy R (P + 1)) (hg : wx.grownBy wy (some R)) : JR w R P S k (upd L 5) x25 x26 x27 x28 x29 (.int .i64 (t : Nat)) x31 x32 x33 x34 x35 x36 x37 x38 x2 wy := by
  have hl := h.s1.lo
  have hR : ∀ x, some R = some x → x < w.heap.size := fun x hx => by simp at hx; omega
  exact ⟨fun e => h.h0 (upd_ne e rfl), fun e => h.h1 (upd_ne e rfl), fun e => h.h2 (upd_ne e rfl), fun e => (h.h3 (upd_ne e rfl)).grown hg hR, fun e => h.h4 (upd_ne e rfl), fun _ => ⟨t, rfl, ht⟩, fun e => (h.h6 (upd_ne e rfl)).grown hg hR, fun e => h.h7 (upd_ne e rfl), fun e => h.h8 (upd_ne e rfl), fun e => h.h9 (upd_ne e rfl), fun e => h.h10 (upd_ne e rfl), fun e => h.h11 (upd_ne e rfl), fun e => h.h12 (upd_ne e rfl), fun e => h.h13 (upd_ne e rfl), fun e => h.h14 (upd_ne e rfl), fun e => by simp [upd] at e, (h.s0 hL).pick hr hg⟩
set_option maxRecDepth 100000 in
set_option maxHeartbeats 4000000 in
theorem drawReadRing_b (A : Option Addr) (n c : Nat) (zs : List Int) (w : World) (h : IRk .u8 w A n zs) (hz : ∀ z ∈ zs, (Lit.int .u8 z).wf = true) (hc : n ≤ c) :
    Calls Tryd.prog 15 #[.slice A n c] w (FreshStr w 201) := by
  have H := hide h
  have HZ := hide hz
  clear h hz
  go_enter Tryd.func15, Tryd.ntmps15
  go_wp2_with fail
  refine (open_b A n c zs _ H.out HZ.out hc).mono ?_
  rintro e w1 ⟨R, rfl, hR, hr, hb⟩
  have H1 := hide hr
  have B1 := hide hb
  have hRl := hr.lt
  clear hr hb
  go_wp2_with fail
  refine (l20Long_any R 0 _ H1.out (by omega)).mono ?_
  rintro e w2 ⟨k, rfl, k1, k2, hr, hg⟩
  have H2 := hide hr
  have B2 := hide (B1.out.grown hg B1.out.size (by simp; omega))
  clear hr hg
  go_wp2_with fail
  refine (l20Ring_0 R 1 k _ H2.out (by omega) (by omega)).mono ?_
  rintro e w3 ⟨v, zs, rfl, ho, hl, hr, hg⟩
  have HO := hide ho
  have H3 := hide hr
  have HL := Lib.hid hl
  have B3 := hide (B2.out.grown hg B2.out.size (by simp; omega))
  clear ho hr hg hl
  obtain ⟨Az, nz, cz, rfl, hrz⟩ := HO.out.slice'
  have HRZ := hide hrz
  clear hrz
  go_wp2_with fail
  refine (sRingText_any _ _ _ _ _ HRZ.out).mono ?_
  rintro e w4 ⟨rfl, hb⟩
  have H4 := hide (H3.out.below hb)
  have B4 := hide (bseq B3.out hb)
  clear hb
  obtain ⟨S, hS⟩ : ∃ S, ringStr zs = S := ⟨_, rfl⟩
  have hSs : S.size ≤ 50 := by
    rw [← hS]; unfold ringStr; have := HL.out
    split
    · show (digs zs).toArray.size ≤ 50; simp [digs]; omega
    · show (#[] : Array UInt8).size ≤ 50; simp
  rw [hS]
  clear hS
  go_wp2_with fail
  refine (pick_b R 15 3 _ H4.out (by omega) (by omega)).mono ?_
  rintro e w5 ⟨r5, rfl, a5, b5, _, hr, hg⟩
  have H5 := hide hr
  have B5 := hide (B4.out.grown hg B4.out.size (by simp; omega))
  clear hr hg b5
  by_cases h0 : r5 = 0 ∧ 0 < S.size
  · obtain ⟨rfl, hSp⟩ := h0
    have RG5 := hide (RG.start H5.out)
    go_wp2_with fail
    refine (pick_b R 16 _ _ H5.out (by omega) (by omega)).mono ?_
    rintro e w6 ⟨r6, rfl, a6, b6, _, hr, hg⟩
    have S6 := hide (RG5.out.pick hr hg)
    have c6 := b6 (by omega)
    obtain ⟨k, rfl⟩ := Int.eq_ofNat_of_zero_le a6
    have hk : k < S.size := by omega
    clear hr hg b6
    obtain ⟨T1, hT1, hsl1⟩ := run_strTake S k (by omega)
    obtain ⟨T2, hT2, hsl2⟩ := run_strDrop S (k + 1) (by omega)
    have hsl2' : ∀ wx : World, (Instr.slice 9 (.string S) (some (.int .i64 ((k : Int) + 1))) none none).run Tryd.prog wx = .ok (.string T2) wx := hsl2
    clear hsl2
    go_upto_region 5 with fail

    refine wp_frame fun a0 ha0 => ?_
    have HA := Lib.hid ha0
    clear ha0
    refine wp_region_inv (fun L a wx => ∃ x25 x26 x27 x28 x29 x30 x31 x32 x33 x34 x35 x36 x37 x38 x2, a = putL a0 [(25, x25), (26, x26), (27, x27), (28, x28), (29, x29), (30, x30), (31, x31), (32, x32), (33, x33), (34, x34), (35, x35), (36, x36), (37, x37), (38, x38), (2, x2)] ∧ Hid (JR w5 R 17 S k L x25 x26 x27 x28 x29 x30 x31 x32 x33 x34 x35 x36 x37 x38 x2 wx)) (by kernel_rfl) (by kernel_rfl) ?_ ?_ ?_
    · exact ⟨_, _, _, _, _, _, _, _, _, _, _, _, _, _, _, putL_self a0 [25, 26, 27, 28, 29, 30, 31, 32, 33, 34, 35, 36, 37, 38, 2], hide (JR.start (S6.out.drew))⟩
    · refine ⟨?_, ?_, ?_, ?_, ?_, ?_, ?_, ?_, ?_, ?_, ?_, ?_, ?_, ?_, ?_, trivial⟩
      · intro L a wx hL0 hd
        rintro ⟨x25, x26, x27, x28, x29, x30, x31, x32, x33, x34, x35, x36, x37, x38, x2, rfl, HJ⟩
        have hD := hd
        try simp [deps, Region.binds] at hD
        clear hD hd
        rw [← HA.out]
        simp only [putL, List.setIfInBounds_toArray, List.set_cons_succ, List.set_cons_zero]
        go_wp2_with fail
        refine ⟨_, _, _, _, _, _, _, _, _, _, _, _, _, _, _, ?_, hide (HJ.out.p0 rfl)⟩
        · try rw [← HA.out]
          try simp only [putL, List.setIfInBounds_toArray, List.set_cons_succ, List.set_cons_zero]
      · intro L a wx hL0 hd
        rintro ⟨x25, x26, x27, x28, x29, x30, x31, x32, x33, x34, x35, x36, x37, x38, x2, rfl, HJ⟩
        have hD := hd
        try simp [deps, Region.binds] at hD
        clear hD hd
        rw [← HA.out]
        simp only [putL, List.setIfInBounds_toArray, List.set_cons_succ, List.set_cons_zero]
        go_wp2_with fail
        refine ⟨_, _, _, _, _, _, _, _, _, _, _, _, _, _, _, ?_, hide (HJ.out.p1 rfl)⟩
        · try rw [← HA.out]
          try simp only [putL, List.setIfInBounds_toArray, List.set_cons_succ, List.set_cons_zero]
      · intro L a wx hL0 hd
        rintro ⟨x25, x26, x27, x28, x29, x30, x31, x32, x33, x34, x35, x36, x37, x38, x2, rfl, HJ⟩
        have hD := hd
        try simp [deps, Region.binds] at hD
        obtain rfl := HJ.out.h0 (by simp [hD])
        obtain rfl := HJ.out.h1 (by simp [hD])
        clear hD hd
        rw [← HA.out]
        simp only [putL, List.setIfInBounds_toArray, List.set_cons_succ, List.set_cons_zero]
        go_wp2_with fail
        refine ⟨_, _, _, _, _, _, _, _, _, _, _, _, _, _, _, ?_, hide (HJ.out.p2 ⟨T1, rfl, by omega⟩)⟩
        · try rw [← HA.out]
          try simp only [putL, List.setIfInBounds_toArray, List.set_cons_succ, List.set_cons_zero]
      · intro L a wx hL0 hd
        rintro ⟨x25, x26, x27, x28, x29, x30, x31, x32, x33, x34, x35, x36, x37, x38, x2, rfl, HJ⟩
        have hD := hd
        try simp [deps, Region.binds] at hD
        clear hD hd
        rw [← HA.out]
        simp only [putL, List.setIfInBounds_toArray, List.set_cons_succ, List.set_cons_zero]
        go_wp2_with fail
        refine ⟨_, _, _, _, _, _, _, _, _, _, _, _, _, _, _, ?_, hide (HJ.out.new)⟩
        · try rw [← HA.out]
          try simp only [putL, List.setIfInBounds_toArray, List.set_cons_succ, List.set_cons_zero]
      · intro L a wx hL0 hd
        rintro ⟨x25, x26, x27, x28, x29, x30, x31, x32, x33, x34, x35, x36, x37, x38, x2, rfl, HJ⟩
        have hD := hd
        try simp [deps, Region.binds] at hD
        clear hD hd
        rw [← HA.out]
        simp only [putL, List.setIfInBounds_toArray, List.set_cons_succ, List.set_cons_zero]
        go_wp2_with fail
        refine ⟨_, _, _, _, _, _, _, _, _, _, _, _, _, _, _, ?_, hide (HJ.out.p4 rfl)⟩
        · try rw [← HA.out]
          try simp only [putL, List.setIfInBounds_toArray, List.set_cons_succ, List.set_cons_zero]
      · intro L a wx hL0 hd
        rintro ⟨x25, x26, x27, x28, x29, x30, x31, x32, x33, x34, x35, x36, x37, x38, x2, rfl, HJ⟩
        have hD := hd
        try simp [deps, Region.binds] at hD
        obtain rfl := HJ.out.h4 (by simp [hD])
        clear hD hd
        rw [← HA.out]
        simp only [putL, List.setIfInBounds_toArray, List.set_cons_succ, List.set_cons_zero]
        go_wp2_with fail
        refine (pick_b R 17 5 _ (HJ.out.s0 hL0).rd (by omega) (by omega)).mono ?_
        rintro e w1 ⟨r, rfl, r1, r2, _, hr, hg⟩
        obtain ⟨t, rfl⟩ := Int.eq_ofNat_of_zero_le r1
        have HJ2 := hide (HJ.out.pick hL0 (t := t) (by have := r2 (by omega); omega) hr hg)
        clear hr hg r1 r2
        go_wp2_with fail
        refine ⟨_, _, _, _, _, _, _, _, _, _, _, _, _, _, _, ?_, hide (HJ2.out)⟩
        · try rw [← HA.out]
          try simp only [putL, List.setIfInBounds_toArray, List.set_cons_succ, List.set_cons_zero]
      · intro L a wx hL0 hd
        rintro ⟨x25, x26, x27, x28, x29, x30, x31, x32, x33, x34, x35, x36, x37, x38, x2, rfl, HJ⟩
        have hD := hd
        try simp [deps, Region.binds] at hD
        obtain ⟨b, rfl, l1, hc⟩ := HJ.out.h3 (by simp [hD])
        obtain ⟨t, rfl, ht⟩ := HJ.out.h5 (by simp [hD])
        have HC := hide (hc t ht)
        clear hc
        clear hD hd
        rw [← HA.out]
        simp only [putL, List.setIfInBounds_toArray, List.set_cons_succ, List.set_cons_zero]
        go_wp2_with fail
        obtain ⟨z, hz, hzs⟩ := HC.out
        refine ⟨_, _, _, _, _, _, _, _, _, _, _, _, _, _, _, ?_, hide (HJ.out.p6 ⟨b, t, z, rfl, l1, hz, hzs⟩)⟩
        · try rw [← HA.out]
          try simp only [putL, List.setIfInBounds_toArray, List.set_cons_succ, List.set_cons_zero]
      · intro L a wx hL0 hd
        rintro ⟨x25, x26, x27, x28, x29, x30, x31, x32, x33, x34, x35, x36, x37, x38, x2, rfl, HJ⟩
        have hD := hd
        try simp [deps, Region.binds] at hD
        obtain ⟨b, t, z, rfl, l1, hz, hzs⟩ := HJ.out.h6 (by simp [hD])
        clear hD hd
        rw [← HA.out]
        simp only [putL, List.setIfInBounds_toArray, List.set_cons_succ, List.set_cons_zero]
        go_wp2_with fail
        refine ⟨_, _, _, _, _, _, _, _, _, _, _, _, _, _, _, ?_, hide (HJ.out.p7 ⟨z, rfl, hzs⟩)⟩
        · try rw [← HA.out]
          try simp only [putL, List.setIfInBounds_toArray, List.set_cons_succ, List.set_cons_zero]
      · intro L a wx hL0 hd
        rintro ⟨x25, x26, x27, x28, x29, x30, x31, x32, x33, x34, x35, x36, x37, x38, x2, rfl, HJ⟩
        have hD := hd
        try simp [deps, Region.binds] at hD
        obtain ⟨T, rfl, hTs⟩ := HJ.out.h2 (by simp [hD])
        obtain ⟨U, rfl, hUs⟩ := HJ.out.h7 (by simp [hD])
        clear hD hd
        rw [← HA.out]
        simp only [putL, List.setIfInBounds_toArray, List.set_cons_succ, List.set_cons_zero]
        go_wp2_with fail
        refine ⟨_, _, _, _, _, _, _, _, _, _, _, _, _, _, _, ?_, hide (HJ.out.p8 ⟨T ++ U, rfl, by rw [ByteArray.size_append]; omega⟩)⟩
        · try rw [← HA.out]
          try simp only [putL, List.setIfInBounds_toArray, List.set_cons_succ, List.set_cons_zero]
      · intro L a wx hL0 hd
        rintro ⟨x25, x26, x27, x28, x29, x30, x31, x32, x33, x34, x35, x36, x37, x38, x2, rfl, HJ⟩
        have hD := hd
        try simp [deps, Region.binds] at hD
        clear hD hd
        rw [← HA.out]
        simp only [putL, List.setIfInBounds_toArray, List.set_cons_succ, List.set_cons_zero]
        go_wp2_with fail
        refine ⟨_, _, _, _, _, _, _, _, _, _, _, _, _, _, _, ?_, hide (HJ.out.p9 rfl)⟩
        · try rw [← HA.out]
          try simp only [putL, List.setIfInBounds_toArray, List.set_cons_succ, List.set_cons_zero]
      · intro L a wx hL0 hd
        rintro ⟨x25, x26, x27, x28, x29, x30, x31, x32, x33, x34, x35, x36, x37, x38, x2, rfl, HJ⟩
        have hD := hd
        try simp [deps, Region.binds] at hD
        clear hD hd
        rw [← HA.out]
        simp only [putL, List.setIfInBounds_toArray, List.set_cons_succ, List.set_cons_zero]
        go_wp2_with fail
        refine ⟨_, _, _, _, _, _, _, _, _, _, _, _, _, _, _, ?_, hide (HJ.out.p10 rfl)⟩
        · try rw [← HA.out]
          try simp only [putL, List.setIfInBounds_toArray, List.set_cons_succ, List.set_cons_zero]
      · intro L a wx hL0 hd
        rintro ⟨x25, x26, x27, x28, x29, x30, x31, x32, x33, x34, x35, x36, x37, x38, x2, rfl, HJ⟩
        have hD := hd
        try simp [deps, Region.binds] at hD
        obtain rfl := HJ.out.h10 (by simp [hD])
        clear hD hd
        rw [← HA.out]
        simp only [putL, List.setIfInBounds_toArray, List.set_cons_succ, List.set_cons_zero]
        go_wp2_with fail
        refine ⟨_, _, _, _, _, _, _, _, _, _, _, _, _, _, _, ?_, hide (HJ.out.p11 rfl)⟩
        · try rw [← HA.out]
          try simp only [putL, List.setIfInBounds_toArray, List.set_cons_succ, List.set_cons_zero]
      · intro L a wx hL0 hd
        rintro ⟨x25, x26, x27, x28, x29, x30, x31, x32, x33, x34, x35, x36, x37, x38, x2, rfl, HJ⟩
        have hD := hd
        try simp [deps, Region.binds] at hD
        obtain rfl := HJ.out.h9 (by simp [hD])
        obtain rfl := HJ.out.h11 (by simp [hD])
        clear hD hd
        rw [← HA.out]
        simp only [putL, List.setIfInBounds_toArray, List.set_cons_succ, List.set_cons_zero]
        go_wp2_with fail
        refine ⟨_, _, _, _, _, _, _, _, _, _, _, _, _, _, _, ?_, hide (HJ.out.p12 ⟨T2, rfl, by omega⟩)⟩
        · try rw [← HA.out]
          try simp only [putL, List.setIfInBounds_toArray, List.set_cons_succ, List.set_cons_zero]
      · intro L a wx hL0 hd
        rintro ⟨x25, x26, x27, x28, x29, x30, x31, x32, x33, x34, x35, x36, x37, x38, x2, rfl, HJ⟩
        have hD := hd
        try simp [deps, Region.binds] at hD
        obtain ⟨T, rfl, hTs⟩ := HJ.out.h8 (by simp [hD])
        obtain ⟨U, rfl, hUs⟩ := HJ.out.h12 (by simp [hD])
        clear hD hd
        rw [← HA.out]
        simp only [putL, List.setIfInBounds_toArray, List.set_cons_succ, List.set_cons_zero]
        go_wp2_with fail
        refine ⟨_, _, _, _, _, _, _, _, _, _, _, _, _, _, _, ?_, hide (HJ.out.p13 ⟨T ++ U, rfl, by rw [ByteArray.size_append]; omega⟩)⟩
        · try rw [← HA.out]
          try simp only [putL, List.setIfInBounds_toArray, List.set_cons_succ, List.set_cons_zero]
      · intro L a wx hL0 hd
        rintro ⟨x25, x26, x27, x28, x29, x30, x31, x32, x33, x34, x35, x36, x37, x38, x2, rfl, HJ⟩
        have hD := hd
        try simp [deps, Region.binds] at hD
        obtain ⟨T, rfl, hTs⟩ := HJ.out.h13 (by simp [hD])
        clear hD hd
        rw [← HA.out]
        simp only [putL, List.setIfInBounds_toArray, List.set_cons_succ, List.set_cons_zero]
        go_wp2_with fail
        refine ⟨_, _, _, _, _, _, _, _, _, _, _, _, _, _, _, ?_, hide (HJ.out.p14 ⟨T, rfl, hTs⟩)⟩
        · try rw [← HA.out]
          try simp only [putL, List.setIfInBounds_toArray, List.set_cons_succ, List.set_cons_zero]
    · intro L a wx hall
      rintro ⟨x25, x26, x27, x28, x29, x30, x31, x32, x33, x34, x35, x36, x37, x38, x2, rfl, HJ⟩
      rw [← HA.out]
      simp only [putL, List.setIfInBounds_toArray, List.set_cons_succ, List.set_cons_zero]
      obtain ⟨T, rfl, hTs⟩ := HJ.out.h14 (hall 14 (by decide))
      have B7 := hide (B5.out.grown HJ.out.s1.gr B5.out.size (by simp; omega))
      go_wp2_with fail
      go_ret
      exact ⟨⟨T, rfl, hTs⟩, B7.out⟩
  · by_cases h1 : r5 = 0
    · subst h1
      have hS0 : S.size = 0 := by omega
      go_wp2_with fail
      go_ret
      exact ⟨⟨S, rfl, by omega⟩, B5.out⟩
    · have e1 : (r5 == 0) = false := by simpa using h1
      go_wp2_with fail
      go_ret
      exact ⟨⟨S, rfl, by omega⟩, B5.out⟩
end Go.Proofs.YtffehcklfhcleaaDoor
