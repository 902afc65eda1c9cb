/-
  The walk of the law FnExactGateMoves: it returns true at every input, and turns nothing that was there.
  No condition.
-/
import Derived.Test.YtefndlmbidiodaaMoves
namespace Go.Proofs.Ytefndlmbidiodaa
open Go.RowKit Go.Sort base
set_option maxHeartbeats 1000000 in
theorem walk_FnExactGateMoves (l gk ga gb gc : Int) (w : World) (_ : (Lit.int .i64 l).wf = true) (_ : (Lit.int .i64 gk).wf = true) (_ : (Lit.int .i64 ga).wf = true) (_ : (Lit.int .i64 gb).wf = true) (_ : (Lit.int .i64 gc).wf = true) :
    Calls Try.prog 5 #[.int .i64 l, .agg #[.int .i64 gk, .int .i64 ga, .int .i64 gb, .int .i64 gc]] w fun e w' => e = .returned (.bool true) ∧ Below w.heap.size w w' := by
  obtain ⟨v, hv⟩ : ∃ v, gateMoves l gk ga gb gc = v := ⟨_, rfl⟩
  have HV := Lib.hid hv
  clear hv
  have e1 : (v != v) = false := by simp
  have e2 : (v == v) = true := by simp
  go_enter Try.func5, Try.ntmps5
  have B0 := hide (show Below w.heap.size w (w.alloc (.cells #[.int .i64 gk, .int .i64 ga, .int .i64 gb, .int .i64 gc] 23)) by go_grown)
  have X0 := hide (Box4.made w gk ga gb gc 23)
  go_wp2_with fail
  refine (toGate_any gk ga gb gc _).mono ?_
  rintro e w1 ⟨rfl, hb1⟩
  have B1 := hide (B0.out.trans (hb1.mono B0.out.size))
  have X1 := hide (X0.out.below hb1)
  clear hb1
  obtain ⟨c0, c1, c2, c3⟩ := X1.out
  go_wp2_with fail
  clear c0 c1 c2 c3
  refine (sGateMoves_any l gk ga gb gc _).mono ?_
  rintro e w2 ⟨rfl, hb2⟩
  have B2 := hide (B1.out.trans (hb2.mono B1.out.size))
  have X2 := hide (X1.out.below hb2)
  clear hb2
  rw [HV.out]
  obtain ⟨c0, c1, c2, c3⟩ := X2.out
  go_wp2_with fail
  clear c0 c1 c2 c3
  refine (toGate_any gk ga gb gc _).mono ?_
  rintro e w3 ⟨rfl, hb3⟩
  have B3 := hide (B2.out.trans (hb3.mono B2.out.size))
  have X3 := hide (X2.out.below hb3)
  clear hb3
  obtain ⟨c0, c1, c2, c3⟩ := X3.out
  go_wp2_with fail
  clear c0 c1 c2 c3
  refine (gateMoves_any l gk ga gb gc _).mono ?_
  rintro e w4 ⟨rfl, hb4⟩
  have B4 := hide (B3.out.trans (hb4.mono B3.out.size))
  have X4 := hide (X3.out.below hb4)
  clear hb4
  rw [HV.out]
  go_wp2_with fail
  go_ret
  exact ⟨rfl, B4.out⟩
end Go.Proofs.Ytefndlmbidiodaa
