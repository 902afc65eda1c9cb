/-
  The walk of the law FnExactFuncText: it returns true at every input, and turns nothing that was there.
  No condition.
-/
import Derived.Test.YtokcappgaokeaaaDoorFuncText
namespace Go.Proofs.YtokcappgaokeaaaDoor
open Go.RowKit Go.Sort base
set_option maxHeartbeats 1000000 in
theorem walk_FnExactFuncText (i : Int) (o : Int) (Af : Option Addr) (nf cf : Nat) (f : List Int) (w : World) (_ : (Lit.int .i64 i).wf = true) (_ : (Lit.int .i64 o).wf = true) (hf : IR w Af nf f) (_ : ∀ n ∈ f, (Lit.int .i64 n).wf = true) (_ : nf ≤ cf) (ht : Tens w) :
    Calls Tryd.prog 6 #[.int .i64 i, .int .i64 o, .slice Af nf cf] w fun e w' => e = .returned (.bool true) ∧ Below w.heap.size w w' := by
  have hmaxf := hf.max
  have hlenf := hf.len
  have Hf := hide hf
  have HT := hide ht
  clear hf ht
  by_cases hbigf : 1048576 < nf
  · go_enter Tryd.func6, Tryd.ntmps6
    go_wp2_with fail
    go_ret
    exact ⟨rfl, Below.refl _ _⟩
  have hlf : nf ≤ 1048576 := by omega
  go_enter Tryd.func6, Tryd.ntmps6
  go_wp2_with fail
  refine (toIntS_any Af nf cf f _ (Hf.out) (by omega)).mono ?_
  rintro e w1 ⟨⟨v1, rfl, ho1, rfl⟩, hb1⟩
  have r1 := hide (IR.of_own ho1 hlenf)
  go_wp2_with fail
  refine (sFuncText_any i o _ _ _ f _ (r1.out)).mono ?_
  rintro e w2 ⟨rfl, hb2⟩
  go_wp2_with fail
  refine (toIntS_any Af nf cf f _ (((Hf.out).below hb1).below hb2) (by omega)).mono ?_
  rintro e w3 ⟨⟨v3, rfl, ho3, rfl⟩, hb3⟩
  have r3 := hide (IR.of_own ho3 hlenf)
  go_wp2_with fail
  refine (funcText_any i o _ _ _ f _ (r3.out) (((HT.out.below hb1).below hb2).below hb3)).mono ?_
  rintro e w4 ⟨rfl, hb4⟩
  go_wp2_with fail
  refine (toIntS_any Af nf cf f _ (((((Hf.out).below hb1).below hb2).below hb3).below hb4) (by omega)).mono ?_
  rintro e w5 ⟨⟨v5, rfl, ho5, rfl⟩, hb5⟩
  have r5 := hide (IR.of_own ho5 hlenf)
  go_wp2_with fail
  refine (eqIntS_any _ _ _ _ _ _ f f _ (((r3.out).below hb4).below hb5) (r5.out)).mono ?_
  rintro e w6 ⟨rfl, q6, hq6⟩
  have hb6 : Below w5.heap.size w5 w6 := by rw [hq6]; exact below_drewN (Below.refl _ _) _
  clear hq6
  rw [beq_self_eq_true]
  go_wp2_with fail
  go_ret
  exact ⟨rfl, bseq (bseq (bseq (bseq (bseq (bseq (Below.refl w.heap.size w) hb1) hb2) hb3) hb4) hb5) hb6⟩
end Go.Proofs.YtokcappgaokeaaaDoor
