/-
  The draw of a text that is mostly a function's.
  No condition.
-/
import Derived.Deep.RegionWith
import Derived.Deep.DeepCutAuto
import Derived.Test.YtokcappgaokeaaaDoorRG
import Derived.Test.YtokcappgaokeaaaDoorDrawFunc
import Derived.Test.YtokcappgaokeaaaDoorFuncText
namespace Go.Proofs.YtokcappgaokeaaaDoor
open Go.RowKit Go.Sort base
/-- 's[:k]', 's[k:]' -/
theorem run_strTake (S : ByteArray) (k : Nat) (h : k ≤ S.size) : ∃ T : ByteArray, T.size ≤ S.size ∧ ∀ wx : World, (Instr.slice 9 (.string S) none (some (.int .i64 (k : Int))) none).run Tryd.prog wx = .ok (.string T) wx := by
  have h1 : (0 : Int) ≤ (k : Int) := by omega
  have h2 : (k : Int) ≤ (S.size : Int) := by omega
  refine ⟨S.extract 0 k, by rw [ByteArray.size_extract]; omega, fun wx => ?_⟩
  simp [Instr.slice, run_underlying Tryd.underlying9, Instr.sliceBounds, run_sliceBound _ _ _ _ h1 h2, go_sem]
  exact fun h => absurd h (by omega)
theorem run_strDrop (S : ByteArray) (k : Nat) (h : k ≤ S.size) : ∃ T : ByteArray, T.size ≤ S.size ∧ ∀ wx : World, (Instr.slice 9 (.string S) (some (.int .i64 (k : Int))) none none).run Tryd.prog wx = .ok (.string T) wx := by
  have h1 : (0 : Int) ≤ (k : Int) := by omega
  have h2 : (k : Int) ≤ (S.size : Int) := by omega
  refine ⟨S.extract k S.size, by rw [ByteArray.size_extract]; omega, fun wx => ?_⟩
  simp [Instr.slice, run_underlying Tryd.underlying9, Instr.sliceBounds, run_sliceBound _ _ _ _ h1 h2, go_sem]
  try omega
/- some text -/
def FreshStr2 (w : World) (L : Nat) (e : Ending) (w' : World) : Prop := (∃ (i o : Int) (S : ByteArray), e = .returned (.tuple #[.int .i64 i, .int .i64 o, .string S]) ∧ S.size ≤ L) ∧ Below w.heap.size w w'
/-- a text of at most n letters -/
def IsStr (n : Nat) (v : Value) : Prop := ∃ T : ByteArray, v = .string T ∧ T.size ≤ n
/-- a literal of five texts of the call's own; the address of one -/
def IsLitS (B n : Nat) (wx : World) (v : Value) : Prop := ∃ b : Nat, v = .slice (some ⟨b, 0, none⟩) n n ∧ B ≤ b ∧ ∀ t, t < n → ∃ z : ByteArray, wx.cell? ⟨b, t, none⟩ = some (.string z) ∧ z.size ≤ 1
def IsCellS (B : Nat) (wx : World) (v : Value) : Prop := ∃ (b t : Nat) (z : ByteArray), v = .pointer (some ⟨b, t, none⟩) ∧ B ≤ b ∧ wx.cell? ⟨b, t, none⟩ = some (.string z) ∧ z.size ≤ 1
theorem IsLitS.grown {B n : Nat} {wx wy : World} {v : Value} {row : Option Nat} (h : IsLitS B n wx v) (hg : wx.grownBy wy row) (hrow : ∀ x, row = some x → x < B) : IsLitS B n wy v := by
  obtain ⟨b, e, l, hc⟩ := h
  exact ⟨b, e, l, fun t ht => by obtain ⟨z, hz, hs⟩ := hc t ht; exact ⟨z, hg.cell hz (fun e => by have := hrow b e.symm; omega), hs⟩⟩
theorem IsCellS.grown {B : Nat} {wx wy : World} {v : Value} {row : Option Nat} (h : IsCellS B wx v) (hg : wx.grownBy wy row) (hrow : ∀ x, row = some x → x < B) : IsCellS B wy v := by
  obtain ⟨b, t, z, e, l, hz, hs⟩ := h
  exact ⟨b, t, z, e, l, hg.cell hz (fun e => by have := hrow b e.symm; omega), hs⟩
theorem IsLitS.made (w : World) (cs : List ByteArray) (B : Nat) (hB : B ≤ w.heap.size) (hs : ∀ x ∈ cs, x.size ≤ 1) : IsLitS B cs.length (w.alloc (.cells (cs.map Value.string).toArray 9)) (.slice (some ⟨w.heap.size, 0, none⟩) cs.length cs.length) :=
  ⟨_, rfl, hB, fun t ht => ⟨cs[t], cell_at (by simp [ht]) rfl, hs _ (List.getElem_mem ht)⟩⟩
structure JF (w : World) (R P : Nat) (S : ByteArray) (k : Nat) (i o : Int) (L : Nat → Bool) (x35 x36 x37 x38 x39 x40 x41 x42 x43 x44 x45 x46 x47 x48 x49 x50 x2 x3 x4 : Value) (wx : World) : Prop where
  h0 : L 0 = true → x35 = .int .i64 i
  h1 : L 1 = true → x36 = .int .i64 o
  h2 : L 2 = true → x37 = .string S
  h3 : L 3 = true → x38 = .int .i64 (k : Nat)
  h4 : L 4 = true → IsStr 400 x39
  h5 : L 5 = true → IsLitS w.heap.size 4 wx x40
  h6 : L 6 = true → x41 = .pointer (some ⟨R, 0, none⟩)
  h7 : L 7 = true → ∃ t : Nat, x42 = .int .i64 t ∧ t < 4
  h8 : L 8 = true → IsCellS w.heap.size wx x43
  h9 : L 9 = true → IsStr 1 x44
  h10 : L 10 = true → IsStr 401 x45
  h11 : L 11 = true → x46 = .string S
  h12 : L 12 = true → x47 = .int .i64 (k : Nat)
  h13 : L 13 = true → x48 = .int .i64 ((k : Nat) + 1)
  h14 : L 14 = true → IsStr 400 x49
  h15 : L 15 = true → IsStr 801 x50
  h16 : L 16 = true → x2 = .int .i64 i
  h17 : L 17 = true → x3 = .int .i64 o
  h18 : L 18 = true → IsStr 801 x4
  s0 : L 7 = false → RG w R P wx
  s1 : RG w R (P + 1) wx
theorem JF.start {w : World} {R P : Nat} {S : ByteArray} {k : Nat} {i o : Int} {wx : World} {x35 x36 x37 x38 x39 x40 x41 x42 x43 x44 x45 x46 x47 x48 x49 x50 x2 x3 x4 : Value} (hs : RG w R P wx) : JF w R P S k i o (fun _ => false) x35 x36 x37 x38 x39 x40 x41 x42 x43 x44 x45 x46 x47 x48 x49 x50 x2 x3 x4 wx :=
  ⟨(fun h => by cases h), (fun h => by cases h), (fun h => by cases h), (fun h => by cases h), (fun h => by cases h), (fun h => by cases h), (fun h => by cases h), (fun h => by cases h), (fun h => by cases h), (fun h => by cases h), (fun h => by cases h), (fun h => by cases h), (fun h => by cases h), (fun h => by cases h), (fun h => by cases h), (fun h => by cases h), (fun h => by cases h), (fun h => by cases h), (fun h => by cases h), fun _ => hs, hs.mono (by omega)⟩
theorem JF.p0 {w : World} {R P : Nat} {S : ByteArray} {k : Nat} {i o : Int} {wx : World} {L : Nat → Bool} {x35 x36 x37 x38 x39 x40 x41 x42 x43 x44 x45 x46 x47 x48 x49 x50 x2 x3 x4 : Value} (h : JF w R P S k i o L x35 x36 x37 x38 x39 x40 x41 x42 x43 x44 x45 x46 x47 x48 x49 x50 x2 x3 x4 wx) {v : Value} (hv : v = .int .i64 i) : JF w R P S k i o (upd L 0) v x36 x37 x38 x39 x40 x41 x42 x43 x44 x45 x46 x47 x48 x49 x50 x2 x3 x4 wx :=
  ⟨fun _ => hv, fun e => h.h1 (upd_ne e rfl), fun e => h.h2 (upd_ne e rfl), fun e => h.h3 (upd_ne e rfl), fun e => h.h4 (upd_ne e rfl), fun e => h.h5 (upd_ne e rfl), fun e => h.h6 (upd_ne e rfl), fun e => h.h7 (upd_ne e rfl), fun e => h.h8 (upd_ne e rfl), fun e => h.h9 (upd_ne e rfl), fun e => h.h10 (upd_ne e rfl), fun e => h.h11 (upd_ne e rfl), fun e => h.h12 (upd_ne e rfl), fun e => h.h13 (upd_ne e rfl), fun e => h.h14 (upd_ne e rfl), fun e => h.h15 (upd_ne e rfl), fun e => h.h16 (upd_ne e rfl), fun e => h.h17 (upd_ne e rfl), fun e => h.h18 (upd_ne e rfl), fun e => h.s0 (upd_f e), h.s1⟩
theorem JF.p1 {w : World} {R P : Nat} {S : ByteArray} {k : Nat} {i o : Int} {wx : World} {L : Nat → Bool} {x35 x36 x37 x38 x39 x40 x41 x42 x43 x44 x45 x46 x47 x48 x49 x50 x2 x3 x4 : Value} (h : JF w R P S k i o L x35 x36 x37 x38 x39 x40 x41 x42 x43 x44 x45 x46 x47 x48 x49 x50 x2 x3 x4 wx) {v : Value} (hv : v = .int .i64 o) : JF w R P S k i o (upd L 1) x35 v x37 x38 x39 x40 x41 x42 x43 x44 x45 x46 x47 x48 x49 x50 x2 x3 x4 wx :=
  ⟨fun e => h.h0 (upd_ne e rfl), fun _ => hv, fun e => h.h2 (upd_ne e rfl), fun e => h.h3 (upd_ne e rfl), fun e => h.h4 (upd_ne e rfl), fun e => h.h5 (upd_ne e rfl), fun e => h.h6 (upd_ne e rfl), fun e => h.h7 (upd_ne e rfl), fun e => h.h8 (upd_ne e rfl), fun e => h.h9 (upd_ne e rfl), fun e => h.h10 (upd_ne e rfl), fun e => h.h11 (upd_ne e rfl), fun e => h.h12 (upd_ne e rfl), fun e => h.h13 (upd_ne e rfl), fun e => h.h14 (upd_ne e rfl), fun e => h.h15 (upd_ne e rfl), fun e => h.h16 (upd_ne e rfl), fun e => h.h17 (upd_ne e rfl), fun e => h.h18 (upd_ne e rfl), fun e => h.s0 (upd_f e), h.s1⟩
theorem JF.p2 {w : World} {R P : Nat} {S : ByteArray} {k : Nat} {i o : Int} {wx : World} {L : Nat → Bool} {x35 x36 x37 x38 x39 x40 x41 x42 x43 x44 x45 x46 x47 x48 x49 x50 x2 x3 x4 : Value} (h : JF w R P S k i o L x35 x36 x37 x38 x39 x40 x41 x42 x43 x44 x45 x46 x47 x48 x49 x50 x2 x3 x4 wx) {v : Value} (hv : v = .string S) : JF w R P S k i o (upd L 2) x35 x36 v x38 x39 x40 x41 x42 x43 x44 x45 x46 x47 x48 x49 x50 x2 x3 x4 wx :=
  ⟨fun e => h.h0 (upd_ne e rfl), fun e => h.h1 (upd_ne e rfl), fun _ => hv, fun e => h.h3 (upd_ne e rfl), fun e => h.h4 (upd_ne e rfl), fun e => h.h5 (upd_ne e rfl), fun e => h.h6 (upd_ne e rfl), fun e => h.h7 (upd_ne e rfl), fun e => h.h8 (upd_ne e rfl), fun e => h.h9 (upd_ne e rfl), fun e => h.h10 (upd_ne e rfl), fun e => h.h11 (upd_ne e rfl), fun e => h.h12 (upd_ne e rfl), fun e => h.h13 (upd_ne e rfl), fun e => h.h14 (upd_ne e rfl), fun e => h.h15 (upd_ne e rfl), fun e => h.h16 (upd_ne e rfl), fun e => h.h17 (upd_ne e rfl), fun e => h.h18 (upd_ne e rfl), fun e => h.s0 (upd_f e), h.s1⟩
theorem JF.p3 {w : World} {R P : Nat} {S : ByteArray} {k : Nat} {i o : Int} {wx : World} {L : Nat → Bool} {x35 x36 x37 x38 x39 x40 x41 x42 x43 x44 x45 x46 x47 x48 x49 x50 x2 x3 x4 : Value} (h : JF w R P S k i o L x35 x36 x37 x38 x39 x40 x41 x42 x43 x44 x45 x46 x47 x48 x49 x50 x2 x3 x4 wx) {v : Value} (hv : v = .int .i64 (k : Nat)) : JF w R P S k i o (upd L 3) x35 x36 x37 v x39 x40 x41 x42 x43 x44 x45 x46 x47 x48 x49 x50 x2 x3 x4 wx :=
  ⟨fun e => h.h0 (upd_ne e rfl), fun e => h.h1 (upd_ne e rfl), fun e => h.h2 (upd_ne e rfl), fun _ => hv, fun e => h.h4 (upd_ne e rfl), fun e => h.h5 (upd_ne e rfl), fun e => h.h6 (upd_ne e rfl), fun e => h.h7 (upd_ne e rfl), fun e => h.h8 (upd_ne e rfl), fun e => h.h9 (upd_ne e rfl), fun e => h.h10 (upd_ne e rfl), fun e => h.h11 (upd_ne e rfl), fun e => h.h12 (upd_ne e rfl), fun e => h.h13 (upd_ne e rfl), fun e => h.h14 (upd_ne e rfl), fun e => h.h15 (upd_ne e rfl), fun e => h.h16 (upd_ne e rfl), fun e => h.h17 (upd_ne e rfl), fun e => h.h18 (upd_ne e rfl), fun e => h.s0 (upd_f e), h.s1⟩
theorem JF.p4 {w : World} {R P : Nat} {S : ByteArray} {k : Nat} {i o : Int} {wx : World} {L : Nat → Bool} {x35 x36 x37 x38 x39 x40 x41 x42 x43 x44 x45 x46 x47 x48 x49 x50 x2 x3 x4 : Value} (h : JF w R P S k i o L x35 x36 x37 x38 x39 x40 x41 x42 x43 x44 x45 x46 x47 x48 x49 x50 x2 x3 x4 wx) {v : Value} (hv : IsStr 400 v) : JF w R P S k i o (upd L 4) x35 x36 x37 x38 v x40 x41 x42 x43 x44 x45 x46 x47 x48 x49 x50 x2 x3 x4 wx :=
  ⟨fun e => h.h0 (upd_ne e rfl), fun e => h.h1 (upd_ne e rfl), fun e => h.h2 (upd_ne e rfl), fun e => h.h3 (upd_ne e rfl), fun _ => hv, fun e => h.h5 (upd_ne e rfl), fun e => h.h6 (upd_ne e rfl), fun e => h.h7 (upd_ne e rfl), fun e => h.h8 (upd_ne e rfl), fun e => h.h9 (upd_ne e rfl), fun e => h.h10 (upd_ne e rfl), fun e => h.h11 (upd_ne e rfl), fun e => h.h12 (upd_ne e rfl), fun e => h.h13 (upd_ne e rfl), fun e => h.h14 (upd_ne e rfl), fun e => h.h15 (upd_ne e rfl), fun e => h.h16 (upd_ne e rfl), fun e => h.h17 (upd_ne e rfl), fun e => h.h18 (upd_ne e rfl), fun e => h.s0 (upd_f e), h.s1⟩
theorem JF.p6 {w : World} {R P : Nat} {S : ByteArray} {k : Nat} {i o : Int} {wx : World} {L : Nat → Bool} {x35 x36 x37 x38 x39 x40 x41 x42 x43 x44 x45 x46 x47 x48 x49 x50 x2 x3 x4 : Value} (h : JF w R P S k i o L x35 x36 x37 x38 x39 x40 x41 x42 x43 x44 x45 x46 x47 x48 x49 x50 x2 x3 x4 wx) {v : Value} (hv : v = .pointer (some ⟨R, 0, none⟩)) : JF w R P S k i o (upd L 6) x35 x36 x37 x38 x39 x40 v x42 x43 x44 x45 x46 x47 x48 x49 x50 x2 x3 x4 wx :=
  ⟨fun e => h.h0 (upd_ne e rfl), fun e => h.h1 (upd_ne e rfl), fun e => h.h2 (upd_ne e rfl), fun e => h.h3 (upd_ne e rfl), fun e => h.h4 (upd_ne e rfl), fun e => h.h5 (upd_ne e rfl), fun _ => hv, fun e => h.h7 (upd_ne e rfl), fun e => h.h8 (upd_ne e rfl), fun e => h.h9 (upd_ne e rfl), fun e => h.h10 (upd_ne e rfl), fun e => h.h11 (upd_ne e rfl), fun e => h.h12 (upd_ne e rfl), fun e => h.h13 (upd_ne e rfl), fun e => h.h14 (upd_ne e rfl), fun e => h.h15 (upd_ne e rfl), fun e => h.h16 (upd_ne e rfl), fun e => h.h17 (upd_ne e rfl), fun e => h.h18 (upd_ne e rfl), fun e => h.s0 (upd_f e), h.s1⟩
theorem JF.p8 {w : World} {R P : Nat} {S : ByteArray} {k : Nat} {i o : Int} {wx : World} {L : Nat → Bool} {x35 x36 x37 x38 x39 x40 x41 x42 x43 x44 x45 x46 x47 x48 x49 x50 x2 x3 x4 : Value} (h : JF w R P S k i o L x35 x36 x37 x38 x39 x40 x41 x42 x43 x44 x45 x46 x47 x48 x49 x50 x2 x3 x4 wx) {v : Value} (hv : IsCellS w.heap.size wx v) : JF w R P S k i o (upd L 8) x35 x36 x37 x38 x39 x40 x41 x42 v x44 x45 x46 x47 x48 x49 x50 x2 x3 x4 wx :=
  ⟨fun e => h.h0 (upd_ne e rfl), fun e => h.h1 (upd_ne e rfl), fun e => h.h2 (upd_ne e rfl), fun e => h.h3 (upd_ne e rfl), fun e => h.h4 (upd_ne e rfl), fun e => h.h5 (upd_ne e rfl), fun e => h.h6 (upd_ne e rfl), fun e => h.h7 (upd_ne e rfl), fun _ => hv, fun e => h.h9 (upd_ne e rfl), fun e => h.h10 (upd_ne e rfl), fun e => h.h11 (upd_ne e rfl), fun e => h.h12 (upd_ne e rfl), fun e => h.h13 (upd_ne e rfl), fun e => h.h14 (upd_ne e rfl), fun e => h.h15 (upd_ne e rfl), fun e => h.h16 (upd_ne e rfl), fun e => h.h17 (upd_ne e rfl), fun e => h.h18 (upd_ne e rfl), fun e => h.s0 (upd_f e), h.s1⟩
theorem JF.p9 {w : World} {R P : Nat} {S : ByteArray} {k : Nat} {i o : Int} {wx : World} {L : Nat → Bool} {x35 x36 x37 x38 x39 x40 x41 x42 x43 x44 x45 x46 x47 x48 x49 x50 x2 x3 x4 : Value} (h : JF w R P S k i o L x35 x36 x37 x38 x39 x40 x41 x42 x43 x44 x45 x46 x47 x48 x49 x50 x2 x3 x4 wx) {v : Value} (hv : IsStr 1 v) : JF w R P S k i o (upd L 9) x35 x36 x37 x38 x39 x40 x41 x42 x43 v x45 x46 x47 x48 x49 x50 x2 x3 x4 wx :=
  ⟨fun e => h.h0 (upd_ne e rfl), fun e => h.h1 (upd_ne e rfl), fun e => h.h2 (upd_ne e rfl), fun e => h.h3 (upd_ne e rfl), fun e => h.h4 (upd_ne e rfl), fun e => h.h5 (upd_ne e rfl), fun e => h.h6 (upd_ne e rfl), fun e => h.h7 (upd_ne e rfl), fun e => h.h8 (upd_ne e rfl), fun _ => hv, fun e => h.h10 (upd_ne e rfl), fun e => h.h11 (upd_ne e rfl), fun e => h.h12 (upd_ne e rfl), fun e => h.h13 (upd_ne e rfl), fun e => h.h14 (upd_ne e rfl), fun e => h.h15 (upd_ne e rfl), fun e => h.h16 (upd_ne e rfl), fun e => h.h17 (upd_ne e rfl), fun e => h.h18 (upd_ne e rfl), fun e => h.s0 (upd_f e), h.s1⟩
theorem JF.p10 {w : World} {R P : Nat} {S : ByteArray} {k : Nat} {i o : Int} {wx : World} {L : Nat → Bool} {x35 x36 x37 x38 x39 x40 x41 x42 x43 x44 x45 x46 x47 x48 x49 x50 x2 x3 x4 : Value} (h : JF w R P S k i o L x35 x36 x37 x38 x39 x40 x41 x42 x43 x44 x45 x46 x47 x48 x49 x50 x2 x3 x4 wx) {v : Value} (hv : IsStr 401 v) : JF w R P S k i o (upd L 10) x35 x36 x37 x38 x39 x40 x41 x42 x43 x44 v x46 x47 x48 x49 x50 x2 x3 x4 wx :=
  ⟨fun e => h.h0 (upd_ne e rfl), fun e => h.h1 (upd_ne e rfl), fun e => h.h2 (upd_ne e rfl), fun e => h.h3 (upd_ne e rfl), fun e => h.h4 (upd_ne e rfl), fun e => h.h5 (upd_ne e rfl), fun e => h.h6 (upd_ne e rfl), fun e => h.h7 (upd_ne e rfl), fun e => h.h8 (upd_ne e rfl), fun e => h.h9 (upd_ne e rfl), fun _ => hv, fun e => h.h11 (upd_ne e rfl), fun e => h.h12 (upd_ne e rfl), fun e => h.h13 (upd_ne e rfl), fun e => h.h14 (upd_ne e rfl), fun e => h.h15 (upd_ne e rfl), fun e => h.h16 (upd_ne e rfl), fun e => h.h17 (upd_ne e rfl), fun e => h.h18 (upd_ne e rfl), fun e => h.s0 (upd_f e), h.s1⟩
theorem JF.p11 {w : World} {R P : Nat} {S : ByteArray} {k : Nat} {i o : Int} {wx : World} {L : Nat → Bool} {x35 x36 x37 x38 x39 x40 x41 x42 x43 x44 x45 x46 x47 x48 x49 x50 x2 x3 x4 : Value} (h : JF w R P S k i o L x35 x36 x37 x38 x39 x40 x41 x42 x43 x44 x45 x46 x47 x48 x49 x50 x2 x3 x4 wx) {v : Value} (hv : v = .string S) : JF w R P S k i o (upd L 11) x35 x36 x37 x38 x39 x40 x41 x42 x43 x44 x45 v x47 x48 x49 x50 x2 x3 x4 wx :=
  ⟨fun e => h.h0 (upd_ne e rfl), fun e => h.h1 (upd_ne e rfl), fun e => h.h2 (upd_ne e rfl), fun e => h.h3 (upd_ne e rfl), fun e => h.h4 (upd_ne e rfl), fun e => h.h5 (upd_ne e rfl), fun e => h.h6 (upd_ne e rfl), fun e => h.h7 (upd_ne e rfl), fun e => h.h8 (upd_ne e rfl), fun e => h.h9 (upd_ne e rfl), fun e => h.h10 (upd_ne e rfl), fun _ => hv, fun e => h.h12 (upd_ne e rfl), fun e => h.h13 (upd_ne e rfl), fun e => h.h14 (upd_ne e rfl), fun e => h.h15 (upd_ne e rfl), fun e => h.h16 (upd_ne e rfl), fun e => h.h17 (upd_ne e rfl), fun e => h.h18 (upd_ne e rfl), fun e => h.s0 (upd_f e), h.s1⟩
theorem JF.p12 {w : World} {R P : Nat} {S : ByteArray} {k : Nat} {i o : Int} {wx : World} {L : Nat → Bool} {x35 x36 x37 x38 x39 x40 x41 x42 x43 x44 x45 x46 x47 x48 x49 x50 x2 x3 x4 : Value} (h : JF w R P S k i o L x35 x36 x37 x38 x39 x40 x41 x42 x43 x44 x45 x46 x47 x48 x49 x50 x2 x3 x4 wx) {v : Value} (hv : v = .int .i64 (k : Nat)) : JF w R P S k i o (upd L 12) x35 x36 x37 x38 x39 x40 x41 x42 x43 x44 x45 x46 v x48 x49 x50 x2 x3 x4 wx :=
  ⟨fun e => h.h0 (upd_ne e rfl), fun e => h.h1 (upd_ne e rfl), fun e => h.h2 (upd_ne e rfl), fun e => h.h3 (upd_ne e rfl), fun e => h.h4 (upd_ne e rfl), fun e => h.h5 (upd_ne e rfl), fun e => h.h6 (upd_ne e rfl), fun e => h.h7 (upd_ne e rfl), fun e => h.h8 (upd_ne e rfl), fun e => h.h9 (upd_ne e rfl), fun e => h.h10 (upd_ne e rfl), fun e => h.h11 (upd_ne e rfl), fun _ => hv, fun e => h.h13 (upd_ne e rfl), fun e => h.h14 (upd_ne e rfl), fun e => h.h15 (upd_ne e rfl), fun e => h.h16 (upd_ne e rfl), fun e => h.h17 (upd_ne e rfl), fun e => h.h18 (upd_ne e rfl), fun e => h.s0 (upd_f e), h.s1⟩
theorem JF.p13 {w : World} {R P : Nat} {S : ByteArray} {k : Nat} {i o : Int} {wx : World} {L : Nat → Bool} {x35 x36 x37 x38 x39 x40 x41 x42 x43 x44 x45 x46 x47 x48 x49 x50 x2 x3 x4 : Value} (h : JF w R P S k i o L x35 x36 x37 x38 x39 x40 x41 x42 x43 x44 x45 x46 x47 x48 x49 x50 x2 x3 x4 wx) {v : Value} (hv : v = .int .i64 ((k : Nat) + 1)) : JF w R P S k i o (upd L 13) x35 x36 x37 x38 x39 x40 x41 x42 x43 x44 x45 x46 x47 v x49 x50 x2 x3 x4 wx :=
  ⟨fun e => h.h0 (upd_ne e rfl), fun e => h.h1 (upd_ne e rfl), fun e => h.h2 (upd_ne e rfl), fun e => h.h3 (upd_ne e rfl), fun e => h.h4 (upd_ne e rfl), fun e => h.h5 (upd_ne e rfl), fun e => h.h6 (upd_ne e rfl), fun e => h.h7 (upd_ne e rfl), fun e => h.h8 (upd_ne e rfl), fun e => h.h9 (upd_ne e rfl), fun e => h.h10 (upd_ne e rfl), fun e => h.h11 (upd_ne e rfl), fun e => h.h12 (upd_ne e rfl), fun _ => hv, fun e => h.h14 (upd_ne e rfl), fun e => h.h15 (upd_ne e rfl), fun e => h.h16 (upd_ne e rfl), fun e => h.h17 (upd_ne e rfl), fun e => h.h18 (upd_ne e rfl), fun e => h.s0 (upd_f e), h.s1⟩
theorem JF.p14 {w : World} {R P : Nat} {S : ByteArray} {k : Nat} {i o : Int} {wx : World} {L : Nat → Bool} {x35 x36 x37 x38 x39 x40 x41 x42 x43 x44 x45 x46 x47 x48 x49 x50 x2 x3 x4 : Value} (h : JF w R P S k i o L x35 x36 x37 x38 x39 x40 x41 x42 x43 x44 x45 x46 x47 x48 x49 x50 x2 x3 x4 wx) {v : Value} (hv : IsStr 400 v) : JF w R P S k i o (upd L 14) x35 x36 x37 x38 x39 x40 x41 x42 x43 x44 x45 x46 x47 x48 v x50 x2 x3 x4 wx :=
  ⟨fun e => h.h0 (upd_ne e rfl), fun e => h.h1 (upd_ne e rfl), fun e => h.h2 (upd_ne e rfl), fun e => h.h3 (upd_ne e rfl), fun e => h.h4 (upd_ne e rfl), fun e => h.h5 (upd_ne e rfl), fun e => h.h6 (upd_ne e rfl), fun e => h.h7 (upd_ne e rfl), fun e => h.h8 (upd_ne e rfl), fun e => h.h9 (upd_ne e rfl), fun e => h.h10 (upd_ne e rfl), fun e => h.h11 (upd_ne e rfl), fun e => h.h12 (upd_ne e rfl), fun e => h.h13 (upd_ne e rfl), fun _ => hv, fun e => h.h15 (upd_ne e rfl), fun e => h.h16 (upd_ne e rfl), fun e => h.h17 (upd_ne e rfl), fun e => h.h18 (upd_ne e rfl), fun e => h.s0 (upd_f e), h.s1⟩
theorem JF.p15 {w : World} {R P : Nat} {S : ByteArray} {k : Nat} {i o : Int} {wx : World} {L : Nat → Bool} {x35 x36 x37 x38 x39 x40 x41 x42 x43 x44 x45 x46 x47 x48 x49 x50 x2 x3 x4 : Value} (h : JF w R P S k i o L x35 x36 x37 x38 x39 x40 x41 x42 x43 x44 x45 x46 x47 x48 x49 x50 x2 x3 x4 wx) {v : Value} (hv : IsStr 801 v) : JF w R P S k i o (upd L 15) x35 x36 x37 x38 x39 x40 x41 x42 x43 x44 x45 x46 x47 x48 x49 v x2 x3 x4 wx :=
  ⟨fun e => h.h0 (upd_ne e rfl), fun e => h.h1 (upd_ne e rfl), fun e => h.h2 (upd_ne e rfl), fun e => h.h3 (upd_ne e rfl), fun e => h.h4 (upd_ne e rfl), fun e => h.h5 (upd_ne e rfl), fun e => h.h6 (upd_ne e rfl), fun e => h.h7 (upd_ne e rfl), fun e => h.h8 (upd_ne e rfl), fun e => h.h9 (upd_ne e rfl), fun e => h.h10 (upd_ne e rfl), fun e => h.h11 (upd_ne e rfl), fun e => h.h12 (upd_ne e rfl), fun e => h.h13 (upd_ne e rfl), fun e => h.h14 (upd_ne e rfl), fun _ => hv, fun e => h.h16 (upd_ne e rfl), fun e => h.h17 (upd_ne e rfl), fun e => h.h18 (upd_ne e rfl), fun e => h.s0 (upd_f e), h.s1⟩
theorem JF.p16 {w : World} {R P : Nat} {S : ByteArray} {k : Nat} {i o : Int} {wx : World} {L : Nat → Bool} {x35 x36 x37 x38 x39 x40 x41 x42 x43 x44 x45 x46 x47 x48 x49 x50 x2 x3 x4 : Value} (h : JF w R P S k i o L x35 x36 x37 x38 x39 x40 x41 x42 x43 x44 x45 x46 x47 x48 x49 x50 x2 x3 x4 wx) {v : Value} (hv : v = .int .i64 i) : JF w R P S k i o (upd L 16) x35 x36 x37 x38 x39 x40 x41 x42 x43 x44 x45 x46 x47 x48 x49 x50 v x3 x4 wx :=
  ⟨fun e => h.h0 (upd_ne e rfl), fun e => h.h1 (upd_ne e rfl), fun e => h.h2 (upd_ne e rfl), fun e => h.h3 (upd_ne e rfl), fun e => h.h4 (upd_ne e rfl), fun e => h.h5 (upd_ne e rfl), fun e => h.h6 (upd_ne e rfl), fun e => h.h7 (upd_ne e rfl), fun e => h.h8 (upd_ne e rfl), fun e => h.h9 (upd_ne e rfl), fun e => h.h10 (upd_ne e rfl), fun e => h.h11 (upd_ne e rfl), fun e => h.h12 (upd_ne e rfl), fun e => h.h13 (upd_ne e rfl), fun e => h.h14 (upd_ne e rfl), fun e => h.h15 (upd_ne e rfl), fun _ => hv, fun e => h.h17 (upd_ne e rfl), fun e => h.h18 (upd_ne e rfl), fun e => h.s0 (upd_f e), h.s1⟩
theorem JF.p17 {w : World} {R P : Nat} {S : ByteArray} {k : Nat} {i o : Int} {wx : World} {L : Nat → Bool} {x35 x36 x37 x38 x39 x40 x41 x42 x43 x44 x45 x46 x47 x48 x49 x50 x2 x3 x4 : Value} (h : JF w R P S k i o L x35 x36 x37 x38 x39 x40 x41 x42 x43 x44 x45 x46 x47 x48 x49 x50 x2 x3 x4 wx) {v : Value} (hv : v = .int .i64 o) : JF w R P S k i o (upd L 17) x35 x36 x37 x38 x39 x40 x41 x42 x43 x44 x45 x46 x47 x48 x49 x50 x2 v x4 wx :=
  ⟨fun e => h.h0 (upd_ne e rfl), fun e => h.h1 (upd_ne e rfl), fun e => h.h2 (upd_ne e rfl), fun e => h.h3 (upd_ne e rfl), fun e => h.h4 (upd_ne e rfl), fun e => h.h5 (upd_ne e rfl), fun e => h.h6 (upd_ne e rfl), fun e => h.h7 (upd_ne e rfl), fun e => h.h8 (upd_ne e rfl), fun e => h.h9 (upd_ne e rfl), fun e => h.h10 (upd_ne e rfl), fun e => h.h11 (upd_ne e rfl), fun e => h.h12 (upd_ne e rfl), fun e => h.h13 (upd_ne e rfl), fun e => h.h14 (upd_ne e rfl), fun e => h.h15 (upd_ne e rfl), fun e => h.h16 (upd_ne e rfl), fun _ => hv, fun e => h.h18 (upd_ne e rfl), fun e => h.s0 (upd_f e), h.s1⟩
theorem JF.p18 {w : World} {R P : Nat} {S : ByteArray} {k : Nat} {i o : Int} {wx : World} {L : Nat → Bool} {x35 x36 x37 x38 x39 x40 x41 x42 x43 x44 x45 x46 x47 x48 x49 x50 x2 x3 x4 : Value} (h : JF w R P S k i o L x35 x36 x37 x38 x39 x40 x41 x42 x43 x44 x45 x46 x47 x48 x49 x50 x2 x3 x4 wx) {v : Value} (hv : IsStr 801 v) : JF w R P S k i o (upd L 18) x35 x36 x37 x38 x39 x40 x41 x42 x43 x44 x45 x46 x47 x48 x49 x50 x2 x3 v wx :=
  ⟨fun e => h.h0 (upd_ne e rfl), fun e => h.h1 (upd_ne e rfl), fun e => h.h2 (upd_ne e rfl), fun e => h.h3 (upd_ne e rfl), fun e => h.h4 (upd_ne e rfl), fun e => h.h5 (upd_ne e rfl), fun e => h.h6 (upd_ne e rfl), fun e => h.h7 (upd_ne e rfl), fun e => h.h8 (upd_ne e rfl), fun e => h.h9 (upd_ne e rfl), fun e => h.h10 (upd_ne e rfl), fun e => h.h11 (upd_ne e rfl), fun e => h.h12 (upd_ne e rfl), fun e => h.h13 (upd_ne e rfl), fun e => h.h14 (upd_ne e rfl), fun e => h.h15 (upd_ne e rfl), fun e => h.h16 (upd_ne e rfl), fun e => h.h17 (upd_ne e rfl), fun _ => hv, fun e => h.s0 (upd_f e), h.s1⟩
theorem JF.new {w : World} {R P : Nat} {S : ByteArray} {k : Nat} {i o : Int} {wx : World} {L : Nat → Bool} {x35 x36 x37 x38 x39 x40 x41 x42 x43 x44 x45 x46 x47 x48 x49 x50 x2 x3 x4 : Value} (h : JF w R P S k i o L x35 x36 x37 x38 x39 x40 x41 x42 x43 x44 x45 x46 x47 x48 x49 x50 x2 x3 x4 wx)  : JF w R P S k i o (upd L 5) x35 x36 x37 x38 x39 (.slice (some ⟨wx.heap.size, 0, none⟩) 4 4) x41 x42 x43 x44 x45 x46 x47 x48 x49 x50 x2 x3 x4 (wx.alloc (.cells #[.string ⟨#[]⟩, .string ⟨#[48]⟩, .string ⟨#[44]⟩, .string ⟨#[57]⟩] 9)) := by
  exact ⟨fun e => h.h0 (upd_ne e rfl), fun e => h.h1 (upd_ne e rfl), fun e => h.h2 (upd_ne e rfl), fun e => h.h3 (upd_ne e rfl), fun e => h.h4 (upd_ne e rfl), fun _ => IsLitS.made wx [⟨#[]⟩, ⟨#[48]⟩, ⟨#[44]⟩, ⟨#[57]⟩] _ h.s1.size (by decide), fun e => h.h6 (upd_ne e rfl), fun e => h.h7 (upd_ne e rfl), fun e => (h.h8 (upd_ne e rfl)).grown (World.grownBy_alloc _ _ none) (fun x hx => by cases hx), fun e => h.h9 (upd_ne e rfl), fun e => h.h10 (upd_ne e rfl), fun e => h.h11 (upd_ne e rfl), fun e => h.h12 (upd_ne e rfl), fun e => h.h13 (upd_ne e rfl), fun e => h.h14 (upd_ne e rfl), fun e => h.h15 (upd_ne e rfl), fun e => h.h16 (upd_ne e rfl), fun e => h.h17 (upd_ne e rfl), fun e => h.h18 (upd_ne e rfl), fun e => (h.s0 (upd_f e)).alloc _, h.s1.alloc _⟩
theorem JF.pick {w : World} {R P : Nat} {S : ByteArray} {k : Nat} {i o : Int} {wx : World} {L : Nat → Bool} {x35 x36 x37 x38 x39 x40 x41 x42 x43 x44 x45 x46 x47 x48 x49 x50 x2 x3 x4 : Value} (h : JF w R P S k i o L x35 x36 x37 x38 x39 x40 x41 x42 x43 x44 x45 x46 x47 x48 x49 x50 x2 x3 x4 wx) (hL : L 7 = false) {t : Nat} (ht : t < 4) {wy : World} (hr : RdB wy R (P + 1)) (hg : wx.grownBy wy (some R)) : JF w R P S k i o (upd L 7) x35 x36 x37 x38 x39 x40 x41 (.int .i64 (t : Nat)) x43 x44 x45 x46 x47 x48 x49 x50 x2 x3 x4 wy := by
  have hl := h.s1.lo
  have hR : ∀ x, some R = some x → x < w.heap.size := fun x hx => by simp at hx; omega
  exact ⟨fun e => h.h0 (upd_ne e rfl), fun e => h.h1 (upd_ne e rfl), fun e => h.h2 (upd_ne e rfl), fun e => h.h3 (upd_ne e rfl), fun e => h.h4 (upd_ne e rfl), fun e => (h.h5 (upd_ne e rfl)).grown hg hR, fun e => h.h6 (upd_ne e rfl), fun _ => ⟨t, rfl, ht⟩, fun e => (h.h8 (upd_ne e rfl)).grown hg hR, fun e => h.h9 (upd_ne e rfl), fun e => h.h10 (upd_ne e rfl), fun e => h.h11 (upd_ne e rfl), fun e => h.h12 (upd_ne e rfl), fun e => h.h13 (upd_ne e rfl), fun e => h.h14 (upd_ne e rfl), fun e => h.h15 (upd_ne e rfl), fun e => h.h16 (upd_ne e rfl), fun e => h.h17 (upd_ne e rfl), fun e => h.h18 (upd_ne e rfl), fun e => by simp [upd] at e, (h.s0 hL).pick hr hg⟩
set_option maxRecDepth 100000 in
set_option maxHeartbeats 4000000 in
theorem drawReadFunc_b (A : Option Addr) (n c : Nat) (zs : List Int) (w : World) (h : IRk .u8 w A n zs) (hz : ∀ z ∈ zs, (Lit.int .u8 z).wf = true) (hc : n ≤ c) :
    Calls Tryd.prog 18 #[.slice A n c] w (FreshStr2 w 801) := by
  have H := hide h
  have HZ := hide hz
  clear h hz
  go_enter Tryd.func18, Tryd.ntmps18
  go_wp2_with fail
  refine (open_b A n c zs _ H.out HZ.out hc).mono ?_
  rintro e w1 ⟨R, rfl, hR, hr, hb⟩
  have H1 := hide hr
  have B1 := hide hb
  have hRl := hr.lt
  clear hr hb
  go_wp2_with fail
  refine (l20Funced_any R 0 14 _ H1.out (by omega) (by omega)).mono ?_
  rintro e w3 ⟨i, o, v, f, rfl, ho, hl, hio, hr, hg⟩
  have HO := hide ho
  have H3 := hide hr
  have B3 := hide (B1.out.grown hg B1.out.size (by simp; omega))
  clear ho hr hg hl
  obtain ⟨Az, nz, cz, rfl, hrz⟩ := HO.out.slice'
  have HRZ := hide hrz
  clear hrz
  go_wp2_with fail
  refine (sFuncText_any i o _ _ _ f _ HRZ.out).mono ?_
  rintro e w4 ⟨rfl, hb⟩
  have H4 := hide (H3.out.below hb)
  have B4 := hide (bseq B3.out hb)
  clear hb
  obtain ⟨S, hS⟩ : ∃ S, funcStr i o f = S := ⟨_, rfl⟩
  have hSs : S.size ≤ 400 := by
    rw [← hS]; unfold funcStr
    split
    · have h1 := joinZ_size f (fn_wf (by assumption)); have h2 := (fn_num (i := i) (o := o) (f := f) (by assumption)).1; omega
    · show (#[] : Array UInt8).size ≤ 400; simp
  rw [hS]
  clear hS
  go_wp2_with fail
  refine (pick_b R 24 3 _ H4.out (by omega) (by omega)).mono ?_
  rintro e w5 ⟨r5, rfl, a5, b5, _, hr, hg⟩
  have H5 := hide hr
  have B5 := hide (B4.out.grown hg B4.out.size (by simp; omega))
  clear hr hg b5
  by_cases h0 : r5 = 0 ∧ 0 < S.size
  · obtain ⟨rfl, hSp⟩ := h0
    have RG5 := hide (RG.start H5.out)
    go_wp2_with fail
    refine (pick_b R 25 _ _ H5.out (by omega) (by omega)).mono ?_
    rintro e w6 ⟨r6, rfl, a6, b6, _, hr, hg⟩
    have S6 := hide (RG5.out.pick hr hg)
    have c6 := b6 (by omega)
    obtain ⟨k, rfl⟩ := Int.eq_ofNat_of_zero_le a6
    have hk : k < S.size := by omega
    clear hr hg b6
    obtain ⟨T1, hT1, hsl1⟩ := run_strTake S k (by omega)
    obtain ⟨T2, hT2, hsl2⟩ := run_strDrop S (k + 1) (by omega)
    have hsl2' : ∀ wx : World, (Instr.slice 9 (.string S) (some (.int .i64 ((k : Int) + 1))) none none).run Tryd.prog wx = .ok (.string T2) wx := hsl2
    clear hsl2
    go_upto_region 6 with fail

    refine wp_frame fun a0 ha0 => ?_
    have HA := Lib.hid ha0
    clear ha0
    refine wp_region_inv (fun L a wx => ∃ x35 x36 x37 x38 x39 x40 x41 x42 x43 x44 x45 x46 x47 x48 x49 x50 x2 x3 x4, a = putL a0 [(35, x35), (36, x36), (37, x37), (38, x38), (39, x39), (40, x40), (41, x41), (42, x42), (43, x43), (44, x44), (45, x45), (46, x46), (47, x47), (48, x48), (49, x49), (50, x50), (2, x2), (3, x3), (4, x4)] ∧ Hid (JF w5 R 26 S k i o L x35 x36 x37 x38 x39 x40 x41 x42 x43 x44 x45 x46 x47 x48 x49 x50 x2 x3 x4 wx)) (by kernel_rfl) (by kernel_rfl) ?_ ?_ ?_
    · exact ⟨_, _, _, _, _, _, _, _, _, _, _, _, _, _, _, _, _, _, _, putL_self a0 [35, 36, 37, 38, 39, 40, 41, 42, 43, 44, 45, 46, 47, 48, 49, 50, 2, 3, 4], hide (JF.start (S6.out.drew))⟩
    · refine ⟨?_, ?_, ?_, ?_, ?_, ?_, ?_, ?_, ?_, ?_, ?_, ?_, ?_, ?_, ?_, ?_, ?_, ?_, ?_, trivial⟩
      · intro L a wx hL0 hd
        rintro ⟨x35, x36, x37, x38, x39, x40, x41, x42, x43, x44, x45, x46, x47, x48, x49, x50, x2, x3, x4, rfl, HJ⟩
        have hD := hd
        try simp [deps, Region.binds] at hD
        clear hD hd
        rw [← HA.out]
        simp only [putL, List.setIfInBounds_toArray, List.set_cons_succ, List.set_cons_zero]
        go_wp2_with fail
        refine ⟨_, _, _, _, _, _, _, _, _, _, _, _, _, _, _, _, _, _, _, ?_, hide (HJ.out.p0 rfl)⟩
        · try rw [← HA.out]
          try simp only [putL, List.setIfInBounds_toArray, List.set_cons_succ, List.set_cons_zero]
      · intro L a wx hL0 hd
        rintro ⟨x35, x36, x37, x38, x39, x40, x41, x42, x43, x44, x45, x46, x47, x48, x49, x50, x2, x3, x4, rfl, HJ⟩
        have hD := hd
        try simp [deps, Region.binds] at hD
        clear hD hd
        rw [← HA.out]
        simp only [putL, List.setIfInBounds_toArray, List.set_cons_succ, List.set_cons_zero]
        go_wp2_with fail
        refine ⟨_, _, _, _, _, _, _, _, _, _, _, _, _, _, _, _, _, _, _, ?_, hide (HJ.out.p1 rfl)⟩
        · try rw [← HA.out]
          try simp only [putL, List.setIfInBounds_toArray, List.set_cons_succ, List.set_cons_zero]
      · intro L a wx hL0 hd
        rintro ⟨x35, x36, x37, x38, x39, x40, x41, x42, x43, x44, x45, x46, x47, x48, x49, x50, x2, x3, x4, rfl, HJ⟩
        have hD := hd
        try simp [deps, Region.binds] at hD
        clear hD hd
        rw [← HA.out]
        simp only [putL, List.setIfInBounds_toArray, List.set_cons_succ, List.set_cons_zero]
        go_wp2_with fail
        refine ⟨_, _, _, _, _, _, _, _, _, _, _, _, _, _, _, _, _, _, _, ?_, hide (HJ.out.p2 rfl)⟩
        · try rw [← HA.out]
          try simp only [putL, List.setIfInBounds_toArray, List.set_cons_succ, List.set_cons_zero]
      · intro L a wx hL0 hd
        rintro ⟨x35, x36, x37, x38, x39, x40, x41, x42, x43, x44, x45, x46, x47, x48, x49, x50, x2, x3, x4, rfl, HJ⟩
        have hD := hd
        try simp [deps, Region.binds] at hD
        clear hD hd
        rw [← HA.out]
        simp only [putL, List.setIfInBounds_toArray, List.set_cons_succ, List.set_cons_zero]
        go_wp2_with fail
        refine ⟨_, _, _, _, _, _, _, _, _, _, _, _, _, _, _, _, _, _, _, ?_, hide (HJ.out.p3 rfl)⟩
        · try rw [← HA.out]
          try simp only [putL, List.setIfInBounds_toArray, List.set_cons_succ, List.set_cons_zero]
      · intro L a wx hL0 hd
        rintro ⟨x35, x36, x37, x38, x39, x40, x41, x42, x43, x44, x45, x46, x47, x48, x49, x50, x2, x3, x4, rfl, HJ⟩
        have hD := hd
        try simp [deps, Region.binds] at hD
        obtain rfl := HJ.out.h2 (by simp [hD])
        obtain rfl := HJ.out.h3 (by simp [hD])
        clear hD hd
        rw [← HA.out]
        simp only [putL, List.setIfInBounds_toArray, List.set_cons_succ, List.set_cons_zero]
        go_wp2_with fail
        refine ⟨_, _, _, _, _, _, _, _, _, _, _, _, _, _, _, _, _, _, _, ?_, hide (HJ.out.p4 ⟨T1, rfl, by omega⟩)⟩
        · try rw [← HA.out]
          try simp only [putL, List.setIfInBounds_toArray, List.set_cons_succ, List.set_cons_zero]
      · intro L a wx hL0 hd
        rintro ⟨x35, x36, x37, x38, x39, x40, x41, x42, x43, x44, x45, x46, x47, x48, x49, x50, x2, x3, x4, rfl, HJ⟩
        have hD := hd
        try simp [deps, Region.binds] at hD
        clear hD hd
        rw [← HA.out]
        simp only [putL, List.setIfInBounds_toArray, List.set_cons_succ, List.set_cons_zero]
        go_wp2_with fail
        refine ⟨_, _, _, _, _, _, _, _, _, _, _, _, _, _, _, _, _, _, _, ?_, hide (HJ.out.new)⟩
        · try rw [← HA.out]
          try simp only [putL, List.setIfInBounds_toArray, List.set_cons_succ, List.set_cons_zero]
      · intro L a wx hL0 hd
        rintro ⟨x35, x36, x37, x38, x39, x40, x41, x42, x43, x44, x45, x46, x47, x48, x49, x50, x2, x3, x4, rfl, HJ⟩
        have hD := hd
        try simp [deps, Region.binds] at hD
        clear hD hd
        rw [← HA.out]
        simp only [putL, List.setIfInBounds_toArray, List.set_cons_succ, List.set_cons_zero]
        go_wp2_with fail
        refine ⟨_, _, _, _, _, _, _, _, _, _, _, _, _, _, _, _, _, _, _, ?_, hide (HJ.out.p6 rfl)⟩
        · try rw [← HA.out]
          try simp only [putL, List.setIfInBounds_toArray, List.set_cons_succ, List.set_cons_zero]
      · intro L a wx hL0 hd
        rintro ⟨x35, x36, x37, x38, x39, x40, x41, x42, x43, x44, x45, x46, x47, x48, x49, x50, x2, x3, x4, rfl, HJ⟩
        have hD := hd
        try simp [deps, Region.binds] at hD
        obtain rfl := HJ.out.h6 (by simp [hD])
        clear hD hd
        rw [← HA.out]
        simp only [putL, List.setIfInBounds_toArray, List.set_cons_succ, List.set_cons_zero]
        go_wp2_with fail
        refine (pick_b R 26 4 _ (HJ.out.s0 hL0).rd (by omega) (by omega)).mono ?_
        rintro e w1 ⟨r, rfl, r1, r2, _, hr, hg⟩
        obtain ⟨t, rfl⟩ := Int.eq_ofNat_of_zero_le r1
        have HJ2 := hide (HJ.out.pick hL0 (t := t) (by have := r2 (by omega); omega) hr hg)
        clear hr hg r1 r2
        go_wp2_with fail
        refine ⟨_, _, _, _, _, _, _, _, _, _, _, _, _, _, _, _, _, _, _, ?_, hide (HJ2.out)⟩
        · try rw [← HA.out]
          try simp only [putL, List.setIfInBounds_toArray, List.set_cons_succ, List.set_cons_zero]
      · intro L a wx hL0 hd
        rintro ⟨x35, x36, x37, x38, x39, x40, x41, x42, x43, x44, x45, x46, x47, x48, x49, x50, x2, x3, x4, rfl, HJ⟩
        have hD := hd
        try simp [deps, Region.binds] at hD
        obtain ⟨b, rfl, l1, hc⟩ := HJ.out.h5 (by simp [hD])
        obtain ⟨t, rfl, ht⟩ := HJ.out.h7 (by simp [hD])
        have HC := hide (hc t ht)
        clear hc
        clear hD hd
        rw [← HA.out]
        simp only [putL, List.setIfInBounds_toArray, List.set_cons_succ, List.set_cons_zero]
        go_wp2_with fail
        obtain ⟨z, hz, hzs⟩ := HC.out
        refine ⟨_, _, _, _, _, _, _, _, _, _, _, _, _, _, _, _, _, _, _, ?_, hide (HJ.out.p8 ⟨b, t, z, rfl, l1, hz, hzs⟩)⟩
        · try rw [← HA.out]
          try simp only [putL, List.setIfInBounds_toArray, List.set_cons_succ, List.set_cons_zero]
      · intro L a wx hL0 hd
        rintro ⟨x35, x36, x37, x38, x39, x40, x41, x42, x43, x44, x45, x46, x47, x48, x49, x50, x2, x3, x4, rfl, HJ⟩
        have hD := hd
        try simp [deps, Region.binds] at hD
        obtain ⟨b, t, z, rfl, l1, hz, hzs⟩ := HJ.out.h8 (by simp [hD])
        clear hD hd
        rw [← HA.out]
        simp only [putL, List.setIfInBounds_toArray, List.set_cons_succ, List.set_cons_zero]
        go_wp2_with fail
        refine ⟨_, _, _, _, _, _, _, _, _, _, _, _, _, _, _, _, _, _, _, ?_, hide (HJ.out.p9 ⟨z, rfl, hzs⟩)⟩
        · try rw [← HA.out]
          try simp only [putL, List.setIfInBounds_toArray, List.set_cons_succ, List.set_cons_zero]
      · intro L a wx hL0 hd
        rintro ⟨x35, x36, x37, x38, x39, x40, x41, x42, x43, x44, x45, x46, x47, x48, x49, x50, x2, x3, x4, rfl, HJ⟩
        have hD := hd
        try simp [deps, Region.binds] at hD
        obtain ⟨T, rfl, hTs⟩ := HJ.out.h4 (by simp [hD])
        obtain ⟨U, rfl, hUs⟩ := HJ.out.h9 (by simp [hD])
        clear hD hd
        rw [← HA.out]
        simp only [putL, List.setIfInBounds_toArray, List.set_cons_succ, List.set_cons_zero]
        go_wp2_with fail
        refine ⟨_, _, _, _, _, _, _, _, _, _, _, _, _, _, _, _, _, _, _, ?_, hide (HJ.out.p10 ⟨T ++ U, rfl, by rw [ByteArray.size_append]; omega⟩)⟩
        · try rw [← HA.out]
          try simp only [putL, List.setIfInBounds_toArray, List.set_cons_succ, List.set_cons_zero]
      · intro L a wx hL0 hd
        rintro ⟨x35, x36, x37, x38, x39, x40, x41, x42, x43, x44, x45, x46, x47, x48, x49, x50, x2, x3, x4, rfl, HJ⟩
        have hD := hd
        try simp [deps, Region.binds] at hD
        clear hD hd
        rw [← HA.out]
        simp only [putL, List.setIfInBounds_toArray, List.set_cons_succ, List.set_cons_zero]
        go_wp2_with fail
        refine ⟨_, _, _, _, _, _, _, _, _, _, _, _, _, _, _, _, _, _, _, ?_, hide (HJ.out.p11 rfl)⟩
        · try rw [← HA.out]
          try simp only [putL, List.setIfInBounds_toArray, List.set_cons_succ, List.set_cons_zero]
      · intro L a wx hL0 hd
        rintro ⟨x35, x36, x37, x38, x39, x40, x41, x42, x43, x44, x45, x46, x47, x48, x49, x50, x2, x3, x4, rfl, HJ⟩
        have hD := hd
        try simp [deps, Region.binds] at hD
        clear hD hd
        rw [← HA.out]
        simp only [putL, List.setIfInBounds_toArray, List.set_cons_succ, List.set_cons_zero]
        go_wp2_with fail
        refine ⟨_, _, _, _, _, _, _, _, _, _, _, _, _, _, _, _, _, _, _, ?_, hide (HJ.out.p12 rfl)⟩
        · try rw [← HA.out]
          try simp only [putL, List.setIfInBounds_toArray, List.set_cons_succ, List.set_cons_zero]
      · intro L a wx hL0 hd
        rintro ⟨x35, x36, x37, x38, x39, x40, x41, x42, x43, x44, x45, x46, x47, x48, x49, x50, x2, x3, x4, rfl, HJ⟩
        have hD := hd
        try simp [deps, Region.binds] at hD
        obtain rfl := HJ.out.h12 (by simp [hD])
        clear hD hd
        rw [← HA.out]
        simp only [putL, List.setIfInBounds_toArray, List.set_cons_succ, List.set_cons_zero]
        go_wp2_with fail
        refine ⟨_, _, _, _, _, _, _, _, _, _, _, _, _, _, _, _, _, _, _, ?_, hide (HJ.out.p13 rfl)⟩
        · try rw [← HA.out]
          try simp only [putL, List.setIfInBounds_toArray, List.set_cons_succ, List.set_cons_zero]
      · intro L a wx hL0 hd
        rintro ⟨x35, x36, x37, x38, x39, x40, x41, x42, x43, x44, x45, x46, x47, x48, x49, x50, x2, x3, x4, rfl, HJ⟩
        have hD := hd
        try simp [deps, Region.binds] at hD
        obtain rfl := HJ.out.h11 (by simp [hD])
        obtain rfl := HJ.out.h13 (by simp [hD])
        clear hD hd
        rw [← HA.out]
        simp only [putL, List.setIfInBounds_toArray, List.set_cons_succ, List.set_cons_zero]
        go_wp2_with fail
        refine ⟨_, _, _, _, _, _, _, _, _, _, _, _, _, _, _, _, _, _, _, ?_, hide (HJ.out.p14 ⟨T2, rfl, by omega⟩)⟩
        · try rw [← HA.out]
          try simp only [putL, List.setIfInBounds_toArray, List.set_cons_succ, List.set_cons_zero]
      · intro L a wx hL0 hd
        rintro ⟨x35, x36, x37, x38, x39, x40, x41, x42, x43, x44, x45, x46, x47, x48, x49, x50, x2, x3, x4, rfl, HJ⟩
        have hD := hd
        try simp [deps, Region.binds] at hD
        obtain ⟨T, rfl, hTs⟩ := HJ.out.h10 (by simp [hD])
        obtain ⟨U, rfl, hUs⟩ := HJ.out.h14 (by simp [hD])
        clear hD hd
        rw [← HA.out]
        simp only [putL, List.setIfInBounds_toArray, List.set_cons_succ, List.set_cons_zero]
        go_wp2_with fail
        refine ⟨_, _, _, _, _, _, _, _, _, _, _, _, _, _, _, _, _, _, _, ?_, hide (HJ.out.p15 ⟨T ++ U, rfl, by rw [ByteArray.size_append]; omega⟩)⟩
        · try rw [← HA.out]
          try simp only [putL, List.setIfInBounds_toArray, List.set_cons_succ, List.set_cons_zero]
      · intro L a wx hL0 hd
        rintro ⟨x35, x36, x37, x38, x39, x40, x41, x42, x43, x44, x45, x46, x47, x48, x49, x50, x2, x3, x4, rfl, HJ⟩
        have hD := hd
        try simp [deps, Region.binds] at hD
        obtain rfl := HJ.out.h0 (by simp [hD])
        clear hD hd
        rw [← HA.out]
        simp only [putL, List.setIfInBounds_toArray, List.set_cons_succ, List.set_cons_zero]
        go_wp2_with fail
        refine ⟨_, _, _, _, _, _, _, _, _, _, _, _, _, _, _, _, _, _, _, ?_, hide (HJ.out.p16 rfl)⟩
        · try rw [← HA.out]
          try simp only [putL, List.setIfInBounds_toArray, List.set_cons_succ, List.set_cons_zero]
      · intro L a wx hL0 hd
        rintro ⟨x35, x36, x37, x38, x39, x40, x41, x42, x43, x44, x45, x46, x47, x48, x49, x50, x2, x3, x4, rfl, HJ⟩
        have hD := hd
        try simp [deps, Region.binds] at hD
        obtain rfl := HJ.out.h1 (by simp [hD])
        clear hD hd
        rw [← HA.out]
        simp only [putL, List.setIfInBounds_toArray, List.set_cons_succ, List.set_cons_zero]
        go_wp2_with fail
        refine ⟨_, _, _, _, _, _, _, _, _, _, _, _, _, _, _, _, _, _, _, ?_, hide (HJ.out.p17 rfl)⟩
        · try rw [← HA.out]
          try simp only [putL, List.setIfInBounds_toArray, List.set_cons_succ, List.set_cons_zero]
      · intro L a wx hL0 hd
        rintro ⟨x35, x36, x37, x38, x39, x40, x41, x42, x43, x44, x45, x46, x47, x48, x49, x50, x2, x3, x4, rfl, HJ⟩
        have hD := hd
        try simp [deps, Region.binds] at hD
        obtain ⟨T, rfl, hTs⟩ := HJ.out.h15 (by simp [hD])
        clear hD hd
        rw [← HA.out]
        simp only [putL, List.setIfInBounds_toArray, List.set_cons_succ, List.set_cons_zero]
        go_wp2_with fail
        refine ⟨_, _, _, _, _, _, _, _, _, _, _, _, _, _, _, _, _, _, _, ?_, hide (HJ.out.p18 ⟨T, rfl, hTs⟩)⟩
        · try rw [← HA.out]
          try simp only [putL, List.setIfInBounds_toArray, List.set_cons_succ, List.set_cons_zero]
    · intro L a wx hall
      rintro ⟨x35, x36, x37, x38, x39, x40, x41, x42, x43, x44, x45, x46, x47, x48, x49, x50, x2, x3, x4, rfl, HJ⟩
      rw [← HA.out]
      simp only [putL, List.setIfInBounds_toArray, List.set_cons_succ, List.set_cons_zero]
      obtain rfl := HJ.out.h16 (hall 16 (by decide))
      obtain rfl := HJ.out.h17 (hall 17 (by decide))
      obtain ⟨T, rfl, hTs⟩ := HJ.out.h18 (hall 18 (by decide))
      have B7 := hide (B5.out.grown HJ.out.s1.gr B5.out.size (by simp; omega))
      go_wp2_with fail
      go_ret3
      exact ⟨⟨i, o, T, rfl, hTs⟩, B7.out⟩
  · by_cases h1 : r5 = 0
    · subst h1
      have hS0 : S.size = 0 := by omega
      go_wp2_with fail
      go_ret3
      exact ⟨⟨i, o, S, rfl, by omega⟩, B5.out⟩
    · have e1 : (r5 == 0) = false := by simpa using h1
      go_wp2_with fail
      go_ret3
      exact ⟨⟨i, o, S, rfl, by omega⟩, B5.out⟩
end Go.Proofs.YtokcappgaokeaaaDoor
