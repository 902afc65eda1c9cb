/-
  The walk of the law FnExactRingText: it returns true at every input, and turns nothing that was there.
  No condition.
-/
import Derived.Test.YtffehcklfhcleaaDoorRingText
namespace Go.Proofs.YtffehcklfhcleaaDoor
open Go.RowKit Go.Sort base
set_option maxHeartbeats 1000000 in
theorem walk_FnExactRingText (Aring : Option Addr) (nring cring : Nat) (ring : List Int) (w : World) (hring : IR w Aring nring ring) (_ : ∀ n ∈ ring, (Lit.int .i64 n).wf = true) (_ : nring ≤ cring) :
    Calls Tryd.prog 3 #[.slice Aring nring cring] w fun e w' => e = .returned (.bool true) ∧ Below w.heap.size w w' := by
  have hmaxring := hring.max
  have hlenring := hring.len
  have Hring := hide hring
  clear hring
  by_cases hbigring : 1048576 < nring
  · go_enter Tryd.func3, Tryd.ntmps3
    go_wp2_with fail
    go_ret
    exact ⟨rfl, Below.refl _ _⟩
  have hlring : nring ≤ 1048576 := by omega
  go_enter Tryd.func3, Tryd.ntmps3
  go_wp2_with fail
  refine (toIntS_any Aring nring cring ring _ (Hring.out) (by omega)).mono ?_
  rintro e w1 ⟨⟨v1, rfl, ho1, rfl⟩, hb1⟩
  have r1 := hide (IR.of_own ho1 hlenring)
  go_wp2_with fail
  refine (sRingText_any _ _ _ ring _ (r1.out)).mono ?_
  rintro e w2 ⟨rfl, hb2⟩
  go_wp2_with fail
  refine (toIntS_any Aring nring cring ring _ (((Hring.out).below hb1).below hb2) (by omega)).mono ?_
  rintro e w3 ⟨⟨v3, rfl, ho3, rfl⟩, hb3⟩
  have r3 := hide (IR.of_own ho3 hlenring)
  go_wp2_with fail
  refine (ringText_any _ _ _ ring _ (r3.out)).mono ?_
  rintro e w4 ⟨rfl, hb4⟩
  go_wp2_with fail
  refine (toIntS_any Aring nring cring ring _ (((((Hring.out).below hb1).below hb2).below hb3).below hb4) (by omega)).mono ?_
  rintro e w5 ⟨⟨v5, rfl, ho5, rfl⟩, hb5⟩
  have r5 := hide (IR.of_own ho5 hlenring)
  go_wp2_with fail
  refine (eqIntS_any _ _ _ _ _ _ ring ring _ (((r3.out).below hb4).below hb5) (r5.out)).mono ?_
  rintro e w6 ⟨rfl, q6, hq6⟩
  have hb6 : Below w5.heap.size w5 w6 := by rw [hq6]; exact below_drewN (Below.refl _ _) _
  clear hq6
  rw [beq_self_eq_true]
  go_wp2_with fail
  go_ret
  exact ⟨rfl, bseq (bseq (bseq (bseq (bseq (bseq (Below.refl w.heap.size w) hb1) hb2) hb3) hb4) hb5) hb6⟩
end Go.Proofs.YtffehcklfhcleaaDoor
