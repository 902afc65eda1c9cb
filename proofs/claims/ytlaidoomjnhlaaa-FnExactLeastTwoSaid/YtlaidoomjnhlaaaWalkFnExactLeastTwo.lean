/-
  The walk of the law FnExactLeastTwo: it returns true at every input, and turns nothing that was there.
  No condition.
-/
import Derived.Test.YtlaidoomjnhlaaaSLeast2
import Derived.Test.YtlaidoomjnhlaaaPLeast
namespace Go.Proofs.Ytlaidoomjnhlaaa
open Go.RowKit Go.Sort base
set_option maxHeartbeats 1000000 in
theorem walk_FnExactLeastTwo (At : Option Addr) (nt ct : Nat) (t : List Int) (w : World) (ht : IR w At nt t) (_ : ∀ n ∈ t, (Lit.int .i64 n).wf = true) (_ : nt ≤ ct) :
    Calls Try.prog 3 #[.slice At nt ct] w fun e w' => e = .returned (.bool true) ∧ Below w.heap.size w w' := by
  have hmaxt := ht.max
  have hlent := ht.len
  have Ht := hide ht
  clear ht
  by_cases hbigt : 1048576 < nt
  · go_enter Try.func3, Try.ntmps3
    go_wp2_with fail
    go_ret
    exact ⟨rfl, Below.refl _ _⟩
  have hlt : nt ≤ 1048576 := by omega
  go_enter Try.func3, Try.ntmps3
  go_wp2_with fail
  refine (toIntS_any At nt ct t _ (Ht.out) (by omega)).mono ?_
  rintro e w1 ⟨⟨v1, rfl, ho1, rfl⟩, hb1⟩
  have r1 := hide (IR.of_own ho1 hlent)
  go_wp2_with fail
  refine (sLeast_any _ _ _ t _ (r1.out) (Nat.le_refl _)).mono ?_
  rintro e w2 ⟨rfl, hb2⟩
  go_wp2_with fail
  refine (toIntS_any At nt ct t _ (((Ht.out).below hb1).below hb2) (by omega)).mono ?_
  rintro e w3 ⟨⟨v3, rfl, ho3, rfl⟩, hb3⟩
  have r3 := hide (IR.of_own ho3 hlent)
  go_wp2_with fail
  refine (least_any _ _ _ t _ (r3.out)).mono ?_
  rintro e w4 ⟨rfl, hb4⟩
  go_wp2_with fail
  refine (toIntS_any At nt ct t _ (((((Ht.out).below hb1).below hb2).below hb3).below hb4) (by omega)).mono ?_
  rintro e w5 ⟨⟨v5, rfl, ho5, rfl⟩, hb5⟩
  have r5 := hide (IR.of_own ho5 hlent)
  go_wp2_with fail
  refine (eqIntS_any _ _ _ _ _ _ t t _ (((r3.out).below hb4).below hb5) (r5.out)).mono ?_
  rintro e w6 ⟨rfl, q6, hq6⟩
  have hb6 : Below w5.heap.size w5 w6 := by rw [hq6]; exact below_drewN (Below.refl _ _) _
  clear hq6
  rw [beq_self_eq_true]
  go_wp2_with fail
  go_ret
  exact ⟨rfl, bseq (bseq (bseq (bseq (bseq (bseq (Below.refl w.heap.size w) hb1) hb2) hb3) hb4) hb5) hb6⟩
end Go.Proofs.Ytlaidoomjnhlaaa
