/-
  The walk of the law FnExactEmbedTable: it returns true at every input, and turns nothing that was there.
  No condition.
-/
import Derived.Test.YtniikjobchgcjaaTellSpec
namespace Go.Proofs.Ytniikjobchgcjaa
open Go.RowKit Go.Sort base
set_option maxHeartbeats 4000000 in
theorem walk_FnExactEmbedTable (i : Int) (o : Int) (Af : Option Addr) (nf cf : Nat) (f : List Int) (w : World) (_ : (Lit.int .i64 i).wf = true) (_ : (Lit.int .i64 o).wf = true) (hf : IR w Af nf f) (_ : ∀ n ∈ f, (Lit.int .i64 n).wf = true) (_ : nf ≤ cf) :
    Calls Try.prog 7 #[.int .i64 i, .int .i64 o, .slice Af nf cf] w fun e w' => e = .returned (.bool true) ∧ Below w.heap.size w w' := by
  have hmaxf := hf.max
  have hlenf := Lib.hid hf.len
  have Hf := hide hf
  clear hf
  by_cases hbigf : 1048576 < nf
  · go_enter Try.func7, Try.ntmps7
    go_wp2_with fail
    go_ret
    exact ⟨rfl, Below.refl _ _⟩
  have hlf : nf ≤ 1048576 := by omega
  go_enter Try.func7, Try.ntmps7
  have B0 := hide (Below.refl w.heap.size w)
  go_wp2_with fail
  refine (toIntS_any Af nf cf f _ Hf.out (by omega)).mono ?_
  rintro e w1 ⟨⟨v1, rfl, ho1, rfl⟩, hb1⟩
  have hs1 := hb1.size
  have B1 := hide (bseq B0.out hb1)
  have Mc1_1 := hide ho1.mine
  have Lc1 := hide (Mc1_1.out.lt)
  clear ho1 hb1
  go_wp2_with fail
  refine (sEmbedTable_any i o _ _ _ f _ Mc1_1.out.ir).mono ?_
  rintro e w2 ⟨⟨vs0, rfl, ms0⟩, hb2⟩
  have Ms0_2 := hide ms0.mine
  have hs2 := hb2.size
  have B2 := hide (bseq B1.out hb2)
  have Mc1_2 := hide (Mc1_1.out.below hb2)
  clear hb2 ms0 
  obtain ⟨As0, ns0, ks0, rfl, ls0⟩ := Ms0_2.out.open
  have bs0 : ns0 ≤ 4000000 := by have := tellTable_len i o f; have := ls0.out; omega
  have Ls0 := hide (Ms0_2.out.lt)
  go_wp2_with fail
  refine (toIntS_any Af nf cf f _ (Hf.out.below B2.out) (by omega)).mono ?_
  rintro e w3 ⟨⟨v3, rfl, ho3, rfl⟩, hb3⟩
  have hs3 := hb3.size
  have B3 := hide (bseq B2.out hb3)
  have Mc1_3 := hide (Mc1_2.out.below hb3)
  have Ms0_3 := hide (Ms0_2.out.below hb3)
  have Mc2_3 := hide ho3.mine
  have Lc2 := hide (Mc2_3.out.lt)
  clear ho3 hb3
  go_wp2_with fail
  refine (embedTable_any i o _ _ _ f _ Mc2_3.out.ir).mono ?_
  rintro e w4 ⟨⟨vg0, rfl, mg0⟩, hb4⟩
  have Mg0_4 := hide mg0.mine
  have hs4 := hb4.size
  have B4 := hide (bseq B3.out hb4)
  have Mc1_4 := hide (Mc1_3.out.below hb4)
  have Ms0_4 := hide (Ms0_3.out.below hb4)
  have Mc2_4 := hide (Mc2_3.out.below hb4)
  clear hb4 mg0 
  obtain ⟨Ag0, ng0, kg0, rfl, lg0⟩ := Mg0_4.out.open
  have bg0 : ng0 ≤ 4000000 := by have := tellTable_len i o f; have := lg0.out; omega
  have Lg0 := hide (Mg0_4.out.lt)
  go_wp2_with fail
  refine (eqIntS_any _ _ _ _ _ _ (tellTable i o f) (tellTable i o f) _ Mg0_4.out.ir Ms0_4.out.ir).mono ?_
  rintro e w5 ⟨rfl, q5, hq5⟩
  have hb5 : Below w4.heap.size w4 w5 := by rw [hq5]; exact below_drewN (Below.refl _ _) _
  clear hq5
  rw [beq_self_eq_true]
  have hs5 := hb5.size
  have B5 := hide (bseq B4.out hb5)
  have Mc1_5 := hide (Mc1_4.out.below hb5)
  have Ms0_5 := hide (Ms0_4.out.below hb5)
  have Mc2_5 := hide (Mc2_4.out.below hb5)
  have Mg0_5 := hide (Mg0_4.out.below hb5)
  clear hb5
  go_wp2_with fail
  refine (toIntS_any Af nf cf f _ (Hf.out.below B5.out) (by omega)).mono ?_
  rintro e w6 ⟨⟨v6, rfl, ho6, rfl⟩, hb6⟩
  have hs6 := hb6.size
  have B6 := hide (bseq B5.out hb6)
  have Mc1_6 := hide (Mc1_5.out.below hb6)
  have Ms0_6 := hide (Ms0_5.out.below hb6)
  have Mc2_6 := hide (Mc2_5.out.below hb6)
  have Mg0_6 := hide (Mg0_5.out.below hb6)
  have Mc3_6 := hide ho6.mine
  have Lc3 := hide (Mc3_6.out.lt)
  clear ho6 hb6
  go_wp2_with fail
  refine (eqIntS_any _ _ _ _ _ _ f f _ Mc2_6.out.ir Mc3_6.out.ir).mono ?_
  rintro e w7 ⟨rfl, q7, hq7⟩
  have hb7 : Below w6.heap.size w6 w7 := by rw [hq7]; exact below_drewN (Below.refl _ _) _
  clear hq7
  rw [beq_self_eq_true]
  have hs7 := hb7.size
  have B7 := hide (bseq B6.out hb7)
  have Mc1_7 := hide (Mc1_6.out.below hb7)
  have Ms0_7 := hide (Ms0_6.out.below hb7)
  have Mc2_7 := hide (Mc2_6.out.below hb7)
  have Mg0_7 := hide (Mg0_6.out.below hb7)
  have Mc3_7 := hide (Mc3_6.out.below hb7)
  clear hb7
  go_wp2_with fail
  refine (markIntS_any _ _ _ _ (1) _ _ Mc2_7.out (by omega) (by omega)).mono ?_
  rintro e w8 ⟨⟨rfl, hm8⟩, hg8⟩
  have hs8 := hg8.size
  have B8 := hide (B7.out.grown hg8 (by omega) (fun k hk => by have := (Lc2.out k hk).1; omega))
  have Mc1_8 := hide (Mc1_7.out.kept hg8 (ne_blocks Lc1.out Lc2.out (by omega)))
  have Ms0_8 := hide (Ms0_7.out.kept hg8 (ne_blocks Ls0.out Lc2.out (by omega)))
  have Mg0_8 := hide (Mg0_7.out.kept hg8 (ne_blocks Lg0.out Lc2.out (by omega)))
  have Mc3_8 := hide (Mc3_7.out.kept hg8 (ne_blocks Lc3.out Lc2.out (by omega)))
  have Mc2_8 := hide hm8
  clear hm8 hg8
  go_wp2_with fail
  refine (eqIntS_any _ _ _ _ _ _ (tellTable i o f) (tellTable i o f) _ Mg0_8.out.ir Ms0_8.out.ir).mono ?_
  rintro e w9 ⟨rfl, q9, hq9⟩
  have hb9 : Below w8.heap.size w8 w9 := by rw [hq9]; exact below_drewN (Below.refl _ _) _
  clear hq9
  rw [beq_self_eq_true]
  have hs9 := hb9.size
  have B9 := hide (bseq B8.out hb9)
  have Mc1_9 := hide (Mc1_8.out.below hb9)
  have Ms0_9 := hide (Ms0_8.out.below hb9)
  have Mc2_9 := hide (Mc2_8.out.below hb9)
  have Mg0_9 := hide (Mg0_8.out.below hb9)
  have Mc3_9 := hide (Mc3_8.out.below hb9)
  clear hb9
  go_wp2_with fail
  refine (markIntS_any _ _ _ _ (1) _ _ Mg0_9.out (by omega) (by omega)).mono ?_
  rintro e w10 ⟨⟨rfl, hm10⟩, hg10⟩
  have hs10 := hg10.size
  have B10 := hide (B9.out.grown hg10 (by omega) (fun k hk => by have := (Lg0.out k hk).1; omega))
  have Mc1_10 := hide (Mc1_9.out.kept hg10 (ne_blocks Lc1.out Lg0.out (by omega)))
  have Ms0_10 := hide (Ms0_9.out.kept hg10 (ne_blocks Ls0.out Lg0.out (by omega)))
  have Mc2_10 := hide (Mc2_9.out.kept hg10 (ne_blocks Lc2.out Lg0.out (by omega)))
  have Mc3_10 := hide (Mc3_9.out.kept hg10 (ne_blocks Lc3.out Lg0.out (by omega)))
  have Mg0_10 := hide hm10
  clear hm10 hg10
  go_wp2_with fail
  refine (heldIntS_any _ _ _ (1) _ Mg0_10.out.ir (by omega) (by omega)).mono ?_
  rintro e w' ⟨rfl, rfl⟩
  go_wp2_with fail
  refine (toIntS_any Af nf cf f _ (Hf.out.below B10.out) (by omega)).mono ?_
  rintro e w11 ⟨⟨v11, rfl, ho11, rfl⟩, hb11⟩
  have hs11 := hb11.size
  have B11 := hide (bseq B10.out hb11)
  have Mc1_11 := hide (Mc1_10.out.below hb11)
  have Ms0_11 := hide (Ms0_10.out.below hb11)
  have Mc2_11 := hide (Mc2_10.out.below hb11)
  have Mg0_11 := hide (Mg0_10.out.below hb11)
  have Mc3_11 := hide (Mc3_10.out.below hb11)
  have Mc4_11 := hide ho11.mine
  have Lc4 := hide (Mc4_11.out.lt)
  clear ho11 hb11
  go_wp2_with fail
  refine (embedTable_any i o _ _ _ f _ Mc4_11.out.ir).mono ?_
  rintro e w12 ⟨⟨vh0, rfl, mh0⟩, hb12⟩
  have Mh0_12 := hide mh0.mine
  have hs12 := hb12.size
  have B12 := hide (bseq B11.out hb12)
  have Mc1_12 := hide (Mc1_11.out.below hb12)
  have Ms0_12 := hide (Ms0_11.out.below hb12)
  have Mc2_12 := hide (Mc2_11.out.below hb12)
  have Mg0_12 := hide (Mg0_11.out.below hb12)
  have Mc3_12 := hide (Mc3_11.out.below hb12)
  have Mc4_12 := hide (Mc4_11.out.below hb12)
  clear hb12 mh0 
  obtain ⟨Ah0, nh0, kh0, rfl, lh0⟩ := Mh0_12.out.open
  have bh0 : nh0 ≤ 4000000 := by have := tellTable_len i o f; have := lh0.out; omega
  have Lh0 := hide (Mh0_12.out.lt)
  go_wp2_with fail
  refine (eqIntS_any _ _ _ _ _ _ (tellTable i o f) (tellTable i o f) _ Mh0_12.out.ir Ms0_12.out.ir).mono ?_
  rintro e w13 ⟨rfl, q13, hq13⟩
  have hb13 : Below w12.heap.size w12 w13 := by rw [hq13]; exact below_drewN (Below.refl _ _) _
  clear hq13
  rw [beq_self_eq_true]
  have hs13 := hb13.size
  have B13 := hide (bseq B12.out hb13)
  have Mc1_13 := hide (Mc1_12.out.below hb13)
  have Ms0_13 := hide (Ms0_12.out.below hb13)
  have Mc2_13 := hide (Mc2_12.out.below hb13)
  have Mg0_13 := hide (Mg0_12.out.below hb13)
  have Mc3_13 := hide (Mc3_12.out.below hb13)
  have Mc4_13 := hide (Mc4_12.out.below hb13)
  have Mh0_13 := hide (Mh0_12.out.below hb13)
  clear hb13
  go_wp2_with fail
  refine (heldIntS_any _ _ _ (1) _ Mg0_13.out.ir (by omega) (by omega)).mono ?_
  rintro e w' ⟨rfl, rfl⟩
  go_wp2_with fail
  go_ret
  exact ⟨rfl, B13.out⟩
end Go.Proofs.Ytniikjobchgcjaa
