/-
  The walk of the law FnExactEmbeds: it returns true at every input, and turns nothing that was there.
  No condition.
-/
import Derived.Test.YtniikjobchgcjaaEmbeds
namespace Go.Proofs.Ytniikjobchgcjaa
open Go.RowKit Go.Sort base
set_option maxHeartbeats 1000000 in
theorem walk_FnExactEmbeds (l : Int) (At : Option Addr) (nt ct : Nat) (t : List Int) (i : Int) (o : Int) (Af : Option Addr) (nf cf : Nat) (f : List Int) (w : World) (_ : (Lit.int .i64 l).wf = true) (ht : IR w At nt t) (_ : ∀ n ∈ t, (Lit.int .i64 n).wf = true) (_ : nt ≤ ct) (_ : (Lit.int .i64 i).wf = true) (_ : (Lit.int .i64 o).wf = true) (hf : IR w Af nf f) (_ : ∀ n ∈ f, (Lit.int .i64 n).wf = true) (_ : nf ≤ cf) :
    Calls Try.prog 4 #[.int .i64 l, .slice At nt ct, .int .i64 i, .int .i64 o, .slice Af nf cf] w fun e w' => e = .returned (.bool true) ∧ Below w.heap.size w w' := by
  have hmaxt := ht.max
  have hlent := ht.len
  have Ht := hide ht
  have hmaxf := hf.max
  have hlenf := hf.len
  have Hf := hide hf
  clear ht hf
  by_cases hbigt : 1048576 < nt
  · go_enter Try.func4, Try.ntmps4
    go_wp2_with fail
    go_ret
    exact ⟨rfl, Below.refl _ _⟩
  have hlt : nt ≤ 1048576 := by omega
  by_cases hbigf : 1048576 < nf
  · go_enter Try.func4, Try.ntmps4
    go_wp2_with fail
    go_ret
    exact ⟨rfl, Below.refl _ _⟩
  have hlf : nf ≤ 1048576 := by omega
  go_enter Try.func4, Try.ntmps4
  go_wp2_with fail
  refine (toIntS_any At nt ct t _ (Ht.out) (by omega)).mono ?_
  rintro e w1 ⟨⟨v1, rfl, ho1, rfl⟩, hb1⟩
  have r1 := hide (IR.of_own ho1 hlent)
  go_wp2_with fail
  refine (toIntS_any Af nf cf f _ ((Hf.out).below hb1) (by omega)).mono ?_
  rintro e w2 ⟨⟨v2, rfl, ho2, rfl⟩, hb2⟩
  have r2 := hide (IR.of_own ho2 hlenf)
  go_wp2_with fail
  refine (sEmbeds_any l _ _ _ t i o _ _ _ f _ ((r1.out).below hb2) (r2.out) (Nat.le_refl _)).mono ?_
  rintro e w3 ⟨rfl, hb3⟩
  go_wp2_with fail
  refine (toIntS_any At nt ct t _ ((((Ht.out).below hb1).below hb2).below hb3) (by omega)).mono ?_
  rintro e w4 ⟨⟨v4, rfl, ho4, rfl⟩, hb4⟩
  have r4 := hide (IR.of_own ho4 hlent)
  go_wp2_with fail
  refine (toIntS_any Af nf cf f _ (((((Hf.out).below hb1).below hb2).below hb3).below hb4) (by omega)).mono ?_
  rintro e w5 ⟨⟨v5, rfl, ho5, rfl⟩, hb5⟩
  have r5 := hide (IR.of_own ho5 hlenf)
  go_wp2_with fail
  refine (embeds_any l _ _ _ t i o _ _ _ f _ ((r4.out).below hb5) (r5.out)).mono ?_
  rintro e w6 ⟨rfl, hb6⟩
  go_wp2_with fail
  refine (toIntS_any At nt ct t _ (((((((Ht.out).below hb1).below hb2).below hb3).below hb4).below hb5).below hb6) (by omega)).mono ?_
  rintro e w7 ⟨⟨v7, rfl, ho7, rfl⟩, hb7⟩
  have r7 := hide (IR.of_own ho7 hlent)
  go_wp2_with fail
  refine (eqIntS_any _ _ _ _ _ _ t t _ ((((r4.out).below hb5).below hb6).below hb7) (r7.out)).mono ?_
  rintro e w8 ⟨rfl, q8, hq8⟩
  have hb8 : Below w7.heap.size w7 w8 := by rw [hq8]; exact below_drewN (Below.refl _ _) _
  clear hq8
  rw [beq_self_eq_true]
  go_wp2_with fail
  refine (toIntS_any Af nf cf f _ (((((((((Hf.out).below hb1).below hb2).below hb3).below hb4).below hb5).below hb6).below hb7).below hb8) (by omega)).mono ?_
  rintro e w9 ⟨⟨v9, rfl, ho9, rfl⟩, hb9⟩
  have r9 := hide (IR.of_own ho9 hlenf)
  go_wp2_with fail
  refine (eqIntS_any _ _ _ _ _ _ f f _ (((((r5.out).below hb6).below hb7).below hb8).below hb9) (r9.out)).mono ?_
  rintro e w10 ⟨rfl, q10, hq10⟩
  have hb10 : Below w9.heap.size w9 w10 := by rw [hq10]; exact below_drewN (Below.refl _ _) _
  clear hq10
  rw [beq_self_eq_true]
  go_wp2_with fail
  go_ret
  exact ⟨rfl, bseq (bseq (bseq (bseq (bseq (bseq (bseq (bseq (bseq (bseq (Below.refl w.heap.size w) hb1) hb2) hb3) hb4) hb5) hb6) hb7) hb8) hb9) hb10⟩
end Go.Proofs.Ytniikjobchgcjaa
