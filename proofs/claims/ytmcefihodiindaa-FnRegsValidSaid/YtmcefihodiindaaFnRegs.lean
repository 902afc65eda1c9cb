/-
  The law FnRegsValid: the draw of registers, and the law's own walk.
  No condition.
-/
import Derived.Test.YtmcefihodiindaaRegs
import Derived.Test.YtmcefihodiindaaDraw
namespace Go.Proofs.Ytmcefihodiindaa
open Go.RowKit Go.Sort base

/- some numbers in a slice of the call's own, and the reader at most k places farther on -/
def DrawnInts (w : World) (R p L : Nat) (e : Ending) (w' : World) : Prop :=
  ∃ v zs, e = .returned v ∧ Own w' w.heap.size v zs ∧ zs.length ≤ L ∧ RdB w' R p ∧ w.grownBy w' (some R)
theorem grown_trans' {a b c : World} {row : Option Nat} (h : a.grownBy b row) (k : b.grownBy c row) : a.grownBy c row :=
  ⟨k.os.trans h.os, k.tape.trans h.tape, k.output.trans h.output, Nat.le_trans h.size k.size, fun i hi hne => (k.block i (Nat.lt_of_lt_of_le hi h.size) hne).trans (h.block i hi hne)⟩

/- what is written in a new block is nothing to the elder ones -/
theorem grown_new {a b c : World} {row r : Option Nat} (h : a.grownBy b row) (k : b.grownBy c r) (hr : ∀ x, r = some x → a.heap.size ≤ x) : a.grownBy c row :=
  ⟨k.os.trans h.os, k.tape.trans h.tape, k.output.trans h.output, Nat.le_trans h.size k.size, fun i hi hne => (k.block i (Nat.lt_of_lt_of_le hi h.size) (fun e => by have := hr i e.symm; omega)).trans (h.block i hi hne)⟩
set_option maxHeartbeats 1000000 in
theorem l20Regs_any (R p : Nat) (m : Int) (w : World) (h : RdB w R p) (hp : p ≤ 100000) (hm : -1000000 ≤ m ∧ m ≤ 1000000) :
    Calls Try.prog 37 #[.pointer (some ⟨R, 0, none⟩), .int .i64 m] w (DrawnInts w R (p + 8) 4) := by
  obtain ⟨hm1, hm2⟩ := hm
  have H := hide h
  clear h
  go_enter Try.func37, Try.ntmps37
  go_wp2_with fail
  refine (pick_b R p 4 _ H.out (by omega) (by omega)).mono ?_
  rintro e w1 ⟨r1, rfl, a1, b1, _, hr, hg⟩
  have H1 := hide hr
  have G1 := hide hg
  clear hr hg
  go_wp2_with fail
  refine (pick_b R (p + 1) 4 _ H1.out (by omega) (by omega)).mono ?_
  rintro e w2 ⟨r2, rfl, a2, b2, _, hr, hg⟩
  have H2 := hide hr
  have G2 := hide (grown_trans' G1.out hg)
  clear hr hg
  go_wp2_with fail
  refine (pick_b R (p + 1 + 1) 64 _ H2.out (by omega) (by omega)).mono ?_
  rintro e w3 ⟨r3, rfl, a3, b3, _, hr, hg⟩
  have H3 := hide hr
  have G3 := hide (grown_trans' G2.out hg)
  clear hr hg
  go_wp2_with fail
  refine (pick_b R (p + 1 + 1 + 1) 9 _ H3.out (by omega) (by omega)).mono ?_
  rintro e w4 ⟨r4, rfl, a4, b4, _, hr, hg⟩
  have H4 := hide hr
  have G4 := hide (grown_trans' G3.out hg)
  clear hr hg
  go_wp2_with fail
  refine (pick_b R (p + 1 + 1 + 1 + 1) 64 _ H4.out (by omega) (by omega)).mono ?_
  rintro e w5 ⟨r5, rfl, a5, b5, _, hr, hg⟩
  have H5 := hide hr
  have G5 := hide (grown_trans' G4.out hg)
  clear hr hg
  go_wp2_with fail
  have hs5 := G5.out.size
  generalize wrap64 (r4 / 8 * r5) = x
  have O6 := hide (Own.lit w5 w.heap.size [r1, r2, r3, x] hs5 (by simp))
  have H6 := hide (H5.out.below ((Below.refl _ w5).alloc (Nat.le_refl _) (.cells #[.int .i64 r1, .int .i64 r2, .int .i64 r3, .int .i64 x] 3)))
  have G6 := hide (grown_trans' G5.out (World.grownBy_alloc w5 (.cells #[.int .i64 r1, .int .i64 r2, .int .i64 r3, .int .i64 x] 3) (some R)))
  refine (odd_b R _ m _ H6.out (by omega) ⟨hm1, hm2⟩).mono ?_
  rintro e w7 ⟨b, rfl, hr, hg⟩
  have hlt := H.out.lt
  have O7 := hide (O6.out.kept hg (by right; simp [Value.ownBlock]; omega))
  have H7 := hide hr
  have G7 := hide (grown_trans' G6.out hg)
  have hs7 := hg.size
  rw [World.size_alloc] at hs7
  clear hr hg
  cases b
  · go_wp2_with fail
    go_ret
    exact ⟨_, _, rfl, O7.out, by simp, H7.out.mono (by omega), G7.out⟩
  · go_wp2_with fail
    refine (pick_b R _ 2 _ H7.out (by omega) (by omega)).mono ?_
    rintro e w8 ⟨r8, rfl, a8, b8, _, hr, hg⟩
    have O8 := hide (O7.out.kept hg (by right; simp [Value.ownBlock]; omega))
    have H8 := hide hr
    have G8 := hide (grown_trans' G7.out hg)
    have hs8 := hg.size
    clear hr hg
    by_cases h0 : r8 = 0
    · subst h0
      go_wp2_with fail
      go_ret
      exact ⟨_, _, rfl, O8.out.take rfl 3 (by simp), by simp, H8.out.mono (by omega), G8.out⟩
    · have h0' : (r8 == 0) = false := by simpa using h0
      clear h0
      go_wp2_with fail
      have O9 := hide (O8.out.alloc (.cells #[.int .i64 (-1), .int .i64 64] 3))
      have H9 := hide (H8.out.below ((Below.refl _ w8).alloc (Nat.le_refl _) (.cells #[.int .i64 (-1), .int .i64 64] 3)))
      have G9 := hide (grown_trans' G8.out (World.grownBy_alloc w8 (.cells #[.int .i64 (-1), .int .i64 64] 3) (some R)))
      refine (pick_b R _ 2 _ H9.out (by omega) (by omega)).mono ?_
      rintro e w10 ⟨r10, rfl, a10, b10, _, hr, hg⟩
      have b10' := b10 (by omega)
      have ha : w10.cell? ⟨w8.heap.size, 0, none⟩ = some (.int .i64 (-1)) := hg.cell (cell_at rfl rfl) (by simp; omega)
      have hb : w10.cell? ⟨w8.heap.size, 1, none⟩ = some (.int .i64 64) := hg.cell (cell_at rfl rfl) (by simp; omega)
      have O10 := hide (O9.out.kept hg (by right; simp [Value.ownBlock]; omega))
      have H10 := hide hr
      have G10 := hide (grown_trans' G9.out hg)
      have hs10 := hg.size
      rw [World.size_alloc] at hs10
      have c5 := O10.out.cellAt rfl 1 (by simp)
      have f5 := O10.out.frozenAt rfl 1
      clear hr hg b10
      rcases (show r10 = 0 ∨ r10 = 1 by omega) with rfl | rfl
      all_goals
        go_wp2_with fail
        go_ret
      · have := O10.out.stored rfl 1 (-1)
        exact ⟨_, _, rfl, this.1, by simp, (H10.out.grown this.2 (by simp; omega)).mono (by omega), grown_new G10.out this.2 (by simp; omega)⟩
      · have := O10.out.stored rfl 1 64
        exact ⟨_, _, rfl, this.1, by simp, (H10.out.grown this.2 (by simp; omega)).mono (by omega), grown_new G10.out this.2 (by simp; omega)⟩

/- some numbers in a slice of the call's own -/
def FreshInts (w : World) (L : Nat) (e : Ending) (w' : World) : Prop :=
  ∃ v zs, e = .returned v ∧ Own w' w.heap.size v zs ∧ zs.length ≤ L ∧ Below w.heap.size w w'
theorem Own.base_le {w : World} {base base' : Nat} {v : Value} {zs : List Int} (h : Own w base v zs) (hb : base' ≤ base) : Own w base' v zs := by
  refine ⟨h.1, ?_⟩
  rcases h.2 with h | ⟨g, cap, cur, hv, hg, r⟩
  · exact .inl h
  · exact .inr ⟨g, cap, cur, hv, by omega, r⟩

set_option maxHeartbeats 400000 in
theorem drawRegs_any (A : Option Addr) (n c : Nat) (zs : List Int) (w : World) (h : IRk .u8 w A n zs) (hz : ∀ z ∈ zs, (Lit.int .u8 z).wf = true) (hc : n ≤ c) :
    Calls Try.prog 18 #[.slice A n c] w (FreshInts w 4) := by
  have H := hide h
  have HZ := hide hz
  clear h hz
  go_enter Try.func18, Try.ntmps18
  go_wp2_with fail
  refine (open_b A n c zs _ H.out HZ.out hc).mono ?_
  rintro e w1 ⟨R, rfl, hR, hr, hb⟩
  have H1 := hide hr
  have hs1 := hb.size
  clear hr
  go_wp2_with fail
  refine (l20Regs_any R 0 2 _ H1.out (by omega) (by omega)).mono ?_
  rintro e w2 ⟨v, ys, rfl, ho, hl, _, hg⟩
  have O := hide ho
  clear ho
  go_wp2_with fail
  go_ret
  exact ⟨_, ys, rfl, O.out.base_le hs1, hl, hb.grown hg hs1 (by simp; omega)⟩

theorem regsValid_b (b : Bool) (A : Option Addr) (n c : Nat) (zs : List Int) (w : World) (h : IR w A n zs) (hb : regsOk zs = b) :
    Calls Try.prog 13 #[.slice A n c] w fun e w' => e = .returned (.bool b) ∧ w = w' := by
  subst hb; exact regsValid_any A n c zs w h
theorem sRegsValid_b (b : Bool) (A : Option Addr) (n c : Nat) (zs : List Int) (w : World) (h : IR w A n zs) (hb : regsOk zs = b) :
    Calls Try.prog 11 #[.slice A n c] w fun e w' => e = .returned (.bool b) ∧ w = w' := by
  subst hb; exact sRegsValid_any A n c zs w h
theorem regsOk_more (zs : List Int) : regsOk ([] ++ zs ++ [-1]) = false := by
  simp [regsOk, badReg]
theorem regsOk_len {zs : List Int} (h : regsOk zs = true) : zs.length = 4 := by
  simp [regsOk] at h; exact h.1

set_option maxHeartbeats 1000000 in
theorem walk_FnRegsValid (A : Option Addr) (n c : Nat) (zs : List Int) (w : World) (h : IRk .u8 w A n zs) (hz : ∀ z ∈ zs, (Lit.int .u8 z).wf = true) (hc : n ≤ c) :
    Calls Try.prog 5 #[.slice A n c] w fun e w' => e = .returned (.bool true) ∧ Below w.heap.size w w' := by
  have hmax := h.max
  by_cases hbig : 1048576 < n
  · clear h hz
    go_enter Try.func5, Try.ntmps5
    go_wp2_with fail
    go_ret
    exact ⟨rfl, Below.refl _ _⟩
  · have H := hide (drawRegs_any A n c zs w h hz hc)
    clear h hz
    obtain ⟨i0, hi, hz0, hz1, hz2⟩ := info_parts int_info
    go_enter Try.func5, Try.ntmps5
    go_wp2_with fail
    refine H.out.mono ?_
    rintro e w1 ⟨v, ys, rfl, ho, hl, hb1⟩
    obtain ⟨B, d, rfl, hr⟩ := ho.slice
    have R1 := hide hr
    have hs1 := hb1.size
    clear ho hr
    cases hok : regsOk ys
    all_goals
      have HO := Lib.hid hok
      clear hok
      go_wp2_with fail
      refine (regsValid_b _ _ _ _ ys _ R1.out HO.out).mono ?_
      rintro e w' ⟨rfl, rfl⟩
      go_wp2_with fail
      refine (sRegsValid_b _ _ _ _ ys _ R1.out HO.out).mono ?_
      rintro e w' ⟨rfl, rfl⟩
      go_wp2_with (at_make; refine wpList_make_full _ rfl _ _ 22 rfl w.heap.size 3 i0 (.int .i64 0) 1 Try.underlying22 hi hz0 hz1 _ _ _ _ 4 rfl rfl rfl rfl (by rw [hz2]; omega) (by unfold maxLen; omega) hs1 ?_; intro w2 hown hgrow)
      rw [made_ints] at hown
      have R2 := hide (show IR w2 (some ⟨w1.heap.size, 0, none⟩) 4 [0, 0, 0, 0] from Own.reads (base := w.heap.size) (c := 4) hown)
      have hb2 : Below w1.heap.size w1 w2 := (Below.refl _ _).grown hgrow (Nat.le_refl _) (by simp)
      have hs2 := hb2.size
      have R3 := hide (R1.out.below hb2)
      clear hown hgrow
      refine (regsValid_b true _ _ _ [0, 0, 0, 0] _ R2.out (by decide)).mono ?_
      rintro e w' ⟨rfl, rfl⟩
      have O4 : Hid (Own (w2.alloc (.cells #[] 3)) w.heap.size (.slice (some ⟨w2.heap.size, 0, none⟩) 0 0) []) := Own.lit w2 w.heap.size [] (by omega) (by simp)
      have R4 := hide (R3.out.below ((Below.refl _ w2).alloc (Nat.le_refl _) (.cells #[] 3)))
      have hb3 : Below w.heap.size w (w2.alloc (.cells #[] 3)) := (hb1.trans (hb2.mono hs1)).alloc (by omega) _
      go_wp2_with (first | (at_builtin; refine wpList_append_ints O4.out R4.out (.tmp 19) (.tmp 20) (by rfl) rfl rfl rfl (by simp; omega) (by simp; omega) ?_; intro v5 w5 ho5 hg5 hat5; have O5 := hide (ho5.alloc (.cells #[.int .i64 (-1)] 3)); have hs5 := hg5.size; rw [World.size_alloc] at hs5; have R5 : Hid (IR (w5.alloc (.cells #[.int .i64 (-1)] 3)) (some ⟨w5.heap.size, 0, none⟩) 1 [-1]) := (Own.lit w5 w5.heap.size [-1] (Nat.le_refl _) (by simp)).reads; clear ho5 hat5) | (at_builtin; refine wpList_append_ints O5.out R5.out (.tmp 21) (.tmp 22) (by rfl) rfl rfl rfl (by simp; omega) (by simp; omega) ?_; intro v6 w6 ho6 hg6 hat6; obtain ⟨A6, n6, c6, rfl, hr6⟩ := ho6.slice'; have R6 := hide hr6; clear hr6))
      refine (regsValid_b false _ _ _ _ _ R6.out (regsOk_more ys)).mono ?_
      rintro e w' ⟨rfl, rfl⟩
      have hb5 : Below w.heap.size w w5 := hb3.grown hg5 (by simp; omega) (by simp [Value.ownBlock]; omega)
      have hl5 := O5.out.lt
      have hb6 : Below w.heap.size w w6 := (hb5.alloc (by omega) _).grown hg6 (by simp; omega) (fun k hk => (hl5 k hk).1)
      clear hg5 hg6 ho6 hat6 hl5
    · go_wp2_with (go_at_call 19; refine (alive_any _).mono ?_; rintro e w' ⟨rfl, rfl⟩)
      go_ret
      exact ⟨rfl, hb6⟩
    · have h4 : ((ys.length : Int) == 4) = true := by have := regsOk_len HO.out; simp; omega
      go_wp2_with (go_at_call 19; refine (alive_any _).mono ?_; rintro e w' ⟨rfl, rfl⟩)
      go_ret
      exact ⟨rfl, hb6⟩
end Go.Proofs.Ytmcefihodiindaa
