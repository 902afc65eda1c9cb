/-
  The walk of the law FnExactRingRun: it returns true at every input, and turns nothing that was there.
  No condition.
-/
import Derived.Test.YtefkbjccgajbiaaRingRun
namespace Go.Proofs.Ytefkbjccgajbiaa
open Go.RowKit Go.Sort base
set_option maxHeartbeats 4000000 in
theorem walk_FnExactRingRun (rule : Int) (Aa : Option Addr) (na ca : Nat) (a : List Int) (Ab : Option Addr) (nb cb : Nat) (b : List Int) (s : Int) (w : World) (_ : (Lit.int .i64 rule).wf = true) (ha : IR w Aa na a) (_ : ∀ n ∈ a, (Lit.int .i64 n).wf = true) (_ : na ≤ ca) (hb : IR w Ab nb b) (_ : ∀ n ∈ b, (Lit.int .i64 n).wf = true) (_ : nb ≤ cb) (_ : (Lit.int .i64 s).wf = true) :
    Calls Try.prog 4 #[.int .i64 rule, .slice Aa na ca, .slice Ab nb cb, .int .i64 s] w fun e w' => e = .returned (.bool true) ∧ Below w.heap.size w w' := by
  have hmaxa := ha.max
  have hlena := Lib.hid ha.len
  have Ha := hide ha
  have hmaxb := hb.max
  have hlenb := Lib.hid hb.len
  have Hb := hide hb
  clear ha hb
  by_cases hbiga : 1048576 < na
  · go_enter Try.func4, Try.ntmps4
    go_wp2_with fail
    go_ret
    exact ⟨rfl, Below.refl _ _⟩
  have hla : na ≤ 1048576 := by omega
  by_cases hbigb : 1048576 < nb
  · go_enter Try.func4, Try.ntmps4
    go_wp2_with fail
    go_ret
    exact ⟨rfl, Below.refl _ _⟩
  have hlb : nb ≤ 1048576 := by omega
  go_enter Try.func4, Try.ntmps4
  have B0 := hide (Below.refl w.heap.size w)
  go_wp2_with fail
  refine (toIntS_any Aa na ca a _ Ha.out (by omega)).mono ?_
  rintro e w1 ⟨⟨v1, rfl, ho1, rfl⟩, hb1⟩
  have hs1 := hb1.size
  have B1 := hide (bseq B0.out hb1)
  have Mc1_1 := hide ho1.mine
  have Lc1 := hide (Mc1_1.out.lt)
  clear ho1 hb1
  go_wp2_with fail
  refine (toIntS_any Ab nb cb b _ (Hb.out.below B1.out) (by omega)).mono ?_
  rintro e w2 ⟨⟨v2, rfl, ho2, rfl⟩, hb2⟩
  have hs2 := hb2.size
  have B2 := hide (bseq B1.out hb2)
  have Mc1_2 := hide (Mc1_1.out.below hb2)
  have Mc2_2 := hide ho2.mine
  have Lc2 := hide (Mc2_2.out.lt)
  clear ho2 hb2
  go_wp2_with fail
  refine (sRingRun_any _ _ _ _ _ _ _ a b _ _ Mc1_2.out.ir Mc2_2.out.ir).mono ?_
  rintro e w3 ⟨⟨vs0, vs1, rfl, ms0, ms1, nes⟩, hb3⟩
  have Ms0_3 := hide ms0
  have Ms1_3 := hide ms1
  have hs3 := hb3.size
  have B3 := hide (bseq B2.out hb3)
  have Mc1_3 := hide (Mc1_2.out.below hb3)
  have Mc2_3 := hide (Mc2_2.out.below hb3)
  have Ns := hide nes
  clear hb3 ms0 ms1 nes
  obtain ⟨As0, ns0, ks0, rfl, ls0⟩ := Ms0_3.out.open
  have bs0 : ns0 ≤ 4000000 := by have := (ringRun_lens rule a b s).1; have := ls0.out; omega
  have Ls0 := hide (Ms0_3.out.lt)
  obtain ⟨As1, ns1, ks1, rfl, ls1⟩ := Ms1_3.out.open
  have bs1 : ns1 ≤ 4000000 := by have := (ringRun_lens rule a b s).2; have := ls1.out; omega
  have Ls1 := hide (Ms1_3.out.lt)
  go_wp2_with fail
  refine (toIntS_any Aa na ca a _ (Ha.out.below B3.out) (by omega)).mono ?_
  rintro e w4 ⟨⟨v4, rfl, ho4, rfl⟩, hb4⟩
  have hs4 := hb4.size
  have B4 := hide (bseq B3.out hb4)
  have Mc1_4 := hide (Mc1_3.out.below hb4)
  have Mc2_4 := hide (Mc2_3.out.below hb4)
  have Ms0_4 := hide (Ms0_3.out.below hb4)
  have Ms1_4 := hide (Ms1_3.out.below hb4)
  have Mc3_4 := hide ho4.mine
  have Lc3 := hide (Mc3_4.out.lt)
  clear ho4 hb4
  go_wp2_with fail
  refine (toIntS_any Ab nb cb b _ (Hb.out.below B4.out) (by omega)).mono ?_
  rintro e w5 ⟨⟨v5, rfl, ho5, rfl⟩, hb5⟩
  have hs5 := hb5.size
  have B5 := hide (bseq B4.out hb5)
  have Mc1_5 := hide (Mc1_4.out.below hb5)
  have Mc2_5 := hide (Mc2_4.out.below hb5)
  have Ms0_5 := hide (Ms0_4.out.below hb5)
  have Ms1_5 := hide (Ms1_4.out.below hb5)
  have Mc3_5 := hide (Mc3_4.out.below hb5)
  have Mc4_5 := hide ho5.mine
  have Lc4 := hide (Mc4_5.out.lt)
  clear ho5 hb5
  go_wp2_with fail
  refine (ringRun_any _ _ _ _ _ _ _ a b _ _ Mc3_5.out.ir Mc4_5.out.ir).mono ?_
  rintro e w6 ⟨⟨vg0, vg1, rfl, mg0, mg1, neg⟩, hb6⟩
  have Mg0_6 := hide mg0
  have Mg1_6 := hide mg1
  have hs6 := hb6.size
  have B6 := hide (bseq B5.out hb6)
  have Mc1_6 := hide (Mc1_5.out.below hb6)
  have Mc2_6 := hide (Mc2_5.out.below hb6)
  have Ms0_6 := hide (Ms0_5.out.below hb6)
  have Ms1_6 := hide (Ms1_5.out.below hb6)
  have Mc3_6 := hide (Mc3_5.out.below hb6)
  have Mc4_6 := hide (Mc4_5.out.below hb6)
  have Ng := hide neg
  clear hb6 mg0 mg1 neg
  obtain ⟨Ag0, ng0, kg0, rfl, lg0⟩ := Mg0_6.out.open
  have bg0 : ng0 ≤ 4000000 := by have := (ringRun_lens rule a b s).1; have := lg0.out; omega
  have Lg0 := hide (Mg0_6.out.lt)
  obtain ⟨Ag1, ng1, kg1, rfl, lg1⟩ := Mg1_6.out.open
  have bg1 : ng1 ≤ 4000000 := by have := (ringRun_lens rule a b s).2; have := lg1.out; omega
  have Lg1 := hide (Mg1_6.out.lt)
  go_wp2_with fail
  refine (eqIntS_any _ _ _ _ _ _ ((ringRun rule a b s).1) ((ringRun rule a b s).1) _ Mg0_6.out.ir Ms0_6.out.ir).mono ?_
  rintro e w7 ⟨rfl, q7, hq7⟩
  have hb7 : Below w6.heap.size w6 w7 := by rw [hq7]; exact below_drewN (Below.refl _ _) _
  clear hq7
  rw [beq_self_eq_true]
  have hs7 := hb7.size
  have B7 := hide (bseq B6.out hb7)
  have Mc1_7 := hide (Mc1_6.out.below hb7)
  have Mc2_7 := hide (Mc2_6.out.below hb7)
  have Ms0_7 := hide (Ms0_6.out.below hb7)
  have Ms1_7 := hide (Ms1_6.out.below hb7)
  have Mc3_7 := hide (Mc3_6.out.below hb7)
  have Mc4_7 := hide (Mc4_6.out.below hb7)
  have Mg0_7 := hide (Mg0_6.out.below hb7)
  have Mg1_7 := hide (Mg1_6.out.below hb7)
  clear hb7
  go_wp2_with fail
  refine (eqIntS_any _ _ _ _ _ _ ((ringRun rule a b s).2) ((ringRun rule a b s).2) _ Mg1_7.out.ir Ms1_7.out.ir).mono ?_
  rintro e w8 ⟨rfl, q8, hq8⟩
  have hb8 : Below w7.heap.size w7 w8 := by rw [hq8]; exact below_drewN (Below.refl _ _) _
  clear hq8
  rw [beq_self_eq_true]
  have hs8 := hb8.size
  have B8 := hide (bseq B7.out hb8)
  have Mc1_8 := hide (Mc1_7.out.below hb8)
  have Mc2_8 := hide (Mc2_7.out.below hb8)
  have Ms0_8 := hide (Ms0_7.out.below hb8)
  have Ms1_8 := hide (Ms1_7.out.below hb8)
  have Mc3_8 := hide (Mc3_7.out.below hb8)
  have Mc4_8 := hide (Mc4_7.out.below hb8)
  have Mg0_8 := hide (Mg0_7.out.below hb8)
  have Mg1_8 := hide (Mg1_7.out.below hb8)
  clear hb8
  go_wp2_with fail
  refine (toIntS_any Aa na ca a _ (Ha.out.below B8.out) (by omega)).mono ?_
  rintro e w9 ⟨⟨v9, rfl, ho9, rfl⟩, hb9⟩
  have hs9 := hb9.size
  have B9 := hide (bseq B8.out hb9)
  have Mc1_9 := hide (Mc1_8.out.below hb9)
  have Mc2_9 := hide (Mc2_8.out.below hb9)
  have Ms0_9 := hide (Ms0_8.out.below hb9)
  have Ms1_9 := hide (Ms1_8.out.below hb9)
  have Mc3_9 := hide (Mc3_8.out.below hb9)
  have Mc4_9 := hide (Mc4_8.out.below hb9)
  have Mg0_9 := hide (Mg0_8.out.below hb9)
  have Mg1_9 := hide (Mg1_8.out.below hb9)
  have Mc5_9 := hide ho9.mine
  have Lc5 := hide (Mc5_9.out.lt)
  clear ho9 hb9
  go_wp2_with fail
  refine (eqIntS_any _ _ _ _ _ _ a a _ Mc3_9.out.ir Mc5_9.out.ir).mono ?_
  rintro e w10 ⟨rfl, q10, hq10⟩
  have hb10 : Below w9.heap.size w9 w10 := by rw [hq10]; exact below_drewN (Below.refl _ _) _
  clear hq10
  rw [beq_self_eq_true]
  have hs10 := hb10.size
  have B10 := hide (bseq B9.out hb10)
  have Mc1_10 := hide (Mc1_9.out.below hb10)
  have Mc2_10 := hide (Mc2_9.out.below hb10)
  have Ms0_10 := hide (Ms0_9.out.below hb10)
  have Ms1_10 := hide (Ms1_9.out.below hb10)
  have Mc3_10 := hide (Mc3_9.out.below hb10)
  have Mc4_10 := hide (Mc4_9.out.below hb10)
  have Mg0_10 := hide (Mg0_9.out.below hb10)
  have Mg1_10 := hide (Mg1_9.out.below hb10)
  have Mc5_10 := hide (Mc5_9.out.below hb10)
  clear hb10
  go_wp2_with fail
  refine (toIntS_any Ab nb cb b _ (Hb.out.below B10.out) (by omega)).mono ?_
  rintro e w11 ⟨⟨v11, rfl, ho11, rfl⟩, hb11⟩
  have hs11 := hb11.size
  have B11 := hide (bseq B10.out hb11)
  have Mc1_11 := hide (Mc1_10.out.below hb11)
  have Mc2_11 := hide (Mc2_10.out.below hb11)
  have Ms0_11 := hide (Ms0_10.out.below hb11)
  have Ms1_11 := hide (Ms1_10.out.below hb11)
  have Mc3_11 := hide (Mc3_10.out.below hb11)
  have Mc4_11 := hide (Mc4_10.out.below hb11)
  have Mg0_11 := hide (Mg0_10.out.below hb11)
  have Mg1_11 := hide (Mg1_10.out.below hb11)
  have Mc5_11 := hide (Mc5_10.out.below hb11)
  have Mc6_11 := hide ho11.mine
  have Lc6 := hide (Mc6_11.out.lt)
  clear ho11 hb11
  go_wp2_with fail
  refine (eqIntS_any _ _ _ _ _ _ b b _ Mc4_11.out.ir Mc6_11.out.ir).mono ?_
  rintro e w12 ⟨rfl, q12, hq12⟩
  have hb12 : Below w11.heap.size w11 w12 := by rw [hq12]; exact below_drewN (Below.refl _ _) _
  clear hq12
  rw [beq_self_eq_true]
  have hs12 := hb12.size
  have B12 := hide (bseq B11.out hb12)
  have Mc1_12 := hide (Mc1_11.out.below hb12)
  have Mc2_12 := hide (Mc2_11.out.below hb12)
  have Ms0_12 := hide (Ms0_11.out.below hb12)
  have Ms1_12 := hide (Ms1_11.out.below hb12)
  have Mc3_12 := hide (Mc3_11.out.below hb12)
  have Mc4_12 := hide (Mc4_11.out.below hb12)
  have Mg0_12 := hide (Mg0_11.out.below hb12)
  have Mg1_12 := hide (Mg1_11.out.below hb12)
  have Mc5_12 := hide (Mc5_11.out.below hb12)
  have Mc6_12 := hide (Mc6_11.out.below hb12)
  clear hb12
  go_wp2_with fail
  refine (markIntS_any _ _ _ _ (1) _ _ Mc3_12.out (by omega) (by omega)).mono ?_
  rintro e w13 ⟨⟨rfl, hm13⟩, hg13⟩
  have hs13 := hg13.size
  have B13 := hide (B12.out.grown hg13 (by omega) (fun k hk => by have := (Lc3.out k hk).1; omega))
  have Mc1_13 := hide (Mc1_12.out.kept hg13 (ne_blocks Lc1.out Lc3.out (by omega)))
  have Mc2_13 := hide (Mc2_12.out.kept hg13 (ne_blocks Lc2.out Lc3.out (by omega)))
  have Ms0_13 := hide (Ms0_12.out.kept hg13 (ne_blocks Ls0.out Lc3.out (by omega)))
  have Ms1_13 := hide (Ms1_12.out.kept hg13 (ne_blocks Ls1.out Lc3.out (by omega)))
  have Mc4_13 := hide (Mc4_12.out.kept hg13 (ne_blocks Lc4.out Lc3.out (by omega)))
  have Mg0_13 := hide (Mg0_12.out.kept hg13 (ne_blocks Lg0.out Lc3.out (by omega)))
  have Mg1_13 := hide (Mg1_12.out.kept hg13 (ne_blocks Lg1.out Lc3.out (by omega)))
  have Mc5_13 := hide (Mc5_12.out.kept hg13 (ne_blocks Lc5.out Lc3.out (by omega)))
  have Mc6_13 := hide (Mc6_12.out.kept hg13 (ne_blocks Lc6.out Lc3.out (by omega)))
  have Mc3_13 := hide hm13
  clear hm13 hg13
  go_wp2_with fail
  refine (markIntS_any _ _ _ _ (1 + (na : Int)) _ _ Mc4_13.out (by omega) (by omega)).mono ?_
  rintro e w14 ⟨⟨rfl, hm14⟩, hg14⟩
  have hs14 := hg14.size
  have B14 := hide (B13.out.grown hg14 (by omega) (fun k hk => by have := (Lc4.out k hk).1; omega))
  have Mc1_14 := hide (Mc1_13.out.kept hg14 (ne_blocks Lc1.out Lc4.out (by omega)))
  have Mc2_14 := hide (Mc2_13.out.kept hg14 (ne_blocks Lc2.out Lc4.out (by omega)))
  have Ms0_14 := hide (Ms0_13.out.kept hg14 (ne_blocks Ls0.out Lc4.out (by omega)))
  have Ms1_14 := hide (Ms1_13.out.kept hg14 (ne_blocks Ls1.out Lc4.out (by omega)))
  have Mc3_14 := hide (Mc3_13.out.kept hg14 (ne_blocks Lc3.out Lc4.out (by omega)))
  have Mg0_14 := hide (Mg0_13.out.kept hg14 (ne_blocks Lg0.out Lc4.out (by omega)))
  have Mg1_14 := hide (Mg1_13.out.kept hg14 (ne_blocks Lg1.out Lc4.out (by omega)))
  have Mc5_14 := hide (Mc5_13.out.kept hg14 (ne_blocks Lc5.out Lc4.out (by omega)))
  have Mc6_14 := hide (Mc6_13.out.kept hg14 (ne_blocks Lc6.out Lc4.out (by omega)))
  have Mc4_14 := hide hm14
  clear hm14 hg14
  go_wp2_with fail
  refine (eqIntS_any _ _ _ _ _ _ ((ringRun rule a b s).1) ((ringRun rule a b s).1) _ Mg0_14.out.ir Ms0_14.out.ir).mono ?_
  rintro e w15 ⟨rfl, q15, hq15⟩
  have hb15 : Below w14.heap.size w14 w15 := by rw [hq15]; exact below_drewN (Below.refl _ _) _
  clear hq15
  rw [beq_self_eq_true]
  have hs15 := hb15.size
  have B15 := hide (bseq B14.out hb15)
  have Mc1_15 := hide (Mc1_14.out.below hb15)
  have Mc2_15 := hide (Mc2_14.out.below hb15)
  have Ms0_15 := hide (Ms0_14.out.below hb15)
  have Ms1_15 := hide (Ms1_14.out.below hb15)
  have Mc3_15 := hide (Mc3_14.out.below hb15)
  have Mc4_15 := hide (Mc4_14.out.below hb15)
  have Mg0_15 := hide (Mg0_14.out.below hb15)
  have Mg1_15 := hide (Mg1_14.out.below hb15)
  have Mc5_15 := hide (Mc5_14.out.below hb15)
  have Mc6_15 := hide (Mc6_14.out.below hb15)
  clear hb15
  go_wp2_with fail
  refine (eqIntS_any _ _ _ _ _ _ ((ringRun rule a b s).2) ((ringRun rule a b s).2) _ Mg1_15.out.ir Ms1_15.out.ir).mono ?_
  rintro e w16 ⟨rfl, q16, hq16⟩
  have hb16 : Below w15.heap.size w15 w16 := by rw [hq16]; exact below_drewN (Below.refl _ _) _
  clear hq16
  rw [beq_self_eq_true]
  have hs16 := hb16.size
  have B16 := hide (bseq B15.out hb16)
  have Mc1_16 := hide (Mc1_15.out.below hb16)
  have Mc2_16 := hide (Mc2_15.out.below hb16)
  have Ms0_16 := hide (Ms0_15.out.below hb16)
  have Ms1_16 := hide (Ms1_15.out.below hb16)
  have Mc3_16 := hide (Mc3_15.out.below hb16)
  have Mc4_16 := hide (Mc4_15.out.below hb16)
  have Mg0_16 := hide (Mg0_15.out.below hb16)
  have Mg1_16 := hide (Mg1_15.out.below hb16)
  have Mc5_16 := hide (Mc5_15.out.below hb16)
  have Mc6_16 := hide (Mc6_15.out.below hb16)
  clear hb16
  go_wp2_with fail
  refine (markIntS_any _ _ _ _ (1) _ _ Mg0_16.out (by omega) (by omega)).mono ?_
  rintro e w17 ⟨⟨rfl, hm17⟩, hg17⟩
  have hs17 := hg17.size
  have B17 := hide (B16.out.grown hg17 (by omega) (fun k hk => by have := (Lg0.out k hk).1; omega))
  have Mc1_17 := hide (Mc1_16.out.kept hg17 (ne_blocks Lc1.out Lg0.out (by omega)))
  have Mc2_17 := hide (Mc2_16.out.kept hg17 (ne_blocks Lc2.out Lg0.out (by omega)))
  have Ms0_17 := hide (Ms0_16.out.kept hg17 (ne_blocks Ls0.out Lg0.out (by omega)))
  have Ms1_17 := hide (Ms1_16.out.kept hg17 (ne_blocks Ls1.out Lg0.out (by omega)))
  have Mc3_17 := hide (Mc3_16.out.kept hg17 (ne_blocks Lc3.out Lg0.out (by omega)))
  have Mc4_17 := hide (Mc4_16.out.kept hg17 (ne_blocks Lc4.out Lg0.out (by omega)))
  have Mg1_17 := hide (Mg1_16.out.kept hg17 (ne_symm Ng.out))
  have Mc5_17 := hide (Mc5_16.out.kept hg17 (ne_blocks Lc5.out Lg0.out (by omega)))
  have Mc6_17 := hide (Mc6_16.out.kept hg17 (ne_blocks Lc6.out Lg0.out (by omega)))
  have Mg0_17 := hide hm17
  clear hm17 hg17
  go_wp2_with fail
  refine (markIntS_any _ _ _ _ (1 + (ng0 : Int)) _ _ Mg1_17.out (by omega) (by omega)).mono ?_
  rintro e w18 ⟨⟨rfl, hm18⟩, hg18⟩
  have hs18 := hg18.size
  have B18 := hide (B17.out.grown hg18 (by omega) (fun k hk => by have := (Lg1.out k hk).1; omega))
  have Mc1_18 := hide (Mc1_17.out.kept hg18 (ne_blocks Lc1.out Lg1.out (by omega)))
  have Mc2_18 := hide (Mc2_17.out.kept hg18 (ne_blocks Lc2.out Lg1.out (by omega)))
  have Ms0_18 := hide (Ms0_17.out.kept hg18 (ne_blocks Ls0.out Lg1.out (by omega)))
  have Ms1_18 := hide (Ms1_17.out.kept hg18 (ne_blocks Ls1.out Lg1.out (by omega)))
  have Mc3_18 := hide (Mc3_17.out.kept hg18 (ne_blocks Lc3.out Lg1.out (by omega)))
  have Mc4_18 := hide (Mc4_17.out.kept hg18 (ne_blocks Lc4.out Lg1.out (by omega)))
  have Mg0_18 := hide (Mg0_17.out.kept hg18 Ng.out)
  have Mc5_18 := hide (Mc5_17.out.kept hg18 (ne_blocks Lc5.out Lg1.out (by omega)))
  have Mc6_18 := hide (Mc6_17.out.kept hg18 (ne_blocks Lc6.out Lg1.out (by omega)))
  have Mg1_18 := hide hm18
  clear hm18 hg18
  go_wp2_with fail
  refine (heldIntS_any _ _ _ (1) _ Mg0_18.out.ir (by omega) (by omega)).mono ?_
  rintro e w' ⟨rfl, rfl⟩
  go_wp2_with fail
  refine (heldIntS_any _ _ _ (1 + (ng0 : Int)) _ Mg1_18.out.ir (by omega) (by omega)).mono ?_
  rintro e w' ⟨rfl, rfl⟩
  go_wp2_with fail
  refine (toIntS_any Aa na ca a _ (Ha.out.below B18.out) (by omega)).mono ?_
  rintro e w19 ⟨⟨v19, rfl, ho19, rfl⟩, hb19⟩
  have hs19 := hb19.size
  have B19 := hide (bseq B18.out hb19)
  have Mc1_19 := hide (Mc1_18.out.below hb19)
  have Mc2_19 := hide (Mc2_18.out.below hb19)
  have Ms0_19 := hide (Ms0_18.out.below hb19)
  have Ms1_19 := hide (Ms1_18.out.below hb19)
  have Mc3_19 := hide (Mc3_18.out.below hb19)
  have Mc4_19 := hide (Mc4_18.out.below hb19)
  have Mg0_19 := hide (Mg0_18.out.below hb19)
  have Mg1_19 := hide (Mg1_18.out.below hb19)
  have Mc5_19 := hide (Mc5_18.out.below hb19)
  have Mc6_19 := hide (Mc6_18.out.below hb19)
  have Mc7_19 := hide ho19.mine
  have Lc7 := hide (Mc7_19.out.lt)
  clear ho19 hb19
  go_wp2_with fail
  refine (toIntS_any Ab nb cb b _ (Hb.out.below B19.out) (by omega)).mono ?_
  rintro e w20 ⟨⟨v20, rfl, ho20, rfl⟩, hb20⟩
  have hs20 := hb20.size
  have B20 := hide (bseq B19.out hb20)
  have Mc1_20 := hide (Mc1_19.out.below hb20)
  have Mc2_20 := hide (Mc2_19.out.below hb20)
  have Ms0_20 := hide (Ms0_19.out.below hb20)
  have Ms1_20 := hide (Ms1_19.out.below hb20)
  have Mc3_20 := hide (Mc3_19.out.below hb20)
  have Mc4_20 := hide (Mc4_19.out.below hb20)
  have Mg0_20 := hide (Mg0_19.out.below hb20)
  have Mg1_20 := hide (Mg1_19.out.below hb20)
  have Mc5_20 := hide (Mc5_19.out.below hb20)
  have Mc6_20 := hide (Mc6_19.out.below hb20)
  have Mc7_20 := hide (Mc7_19.out.below hb20)
  have Mc8_20 := hide ho20.mine
  have Lc8 := hide (Mc8_20.out.lt)
  clear ho20 hb20
  go_wp2_with fail
  refine (ringRun_any _ _ _ _ _ _ _ a b _ _ Mc7_20.out.ir Mc8_20.out.ir).mono ?_
  rintro e w21 ⟨⟨vh0, vh1, rfl, mh0, mh1, neh⟩, hb21⟩
  have Mh0_21 := hide mh0
  have Mh1_21 := hide mh1
  have hs21 := hb21.size
  have B21 := hide (bseq B20.out hb21)
  have Mc1_21 := hide (Mc1_20.out.below hb21)
  have Mc2_21 := hide (Mc2_20.out.below hb21)
  have Ms0_21 := hide (Ms0_20.out.below hb21)
  have Ms1_21 := hide (Ms1_20.out.below hb21)
  have Mc3_21 := hide (Mc3_20.out.below hb21)
  have Mc4_21 := hide (Mc4_20.out.below hb21)
  have Mg0_21 := hide (Mg0_20.out.below hb21)
  have Mg1_21 := hide (Mg1_20.out.below hb21)
  have Mc5_21 := hide (Mc5_20.out.below hb21)
  have Mc6_21 := hide (Mc6_20.out.below hb21)
  have Mc7_21 := hide (Mc7_20.out.below hb21)
  have Mc8_21 := hide (Mc8_20.out.below hb21)
  have Nh := hide neh
  clear hb21 mh0 mh1 neh
  obtain ⟨Ah0, nh0, kh0, rfl, lh0⟩ := Mh0_21.out.open
  have bh0 : nh0 ≤ 4000000 := by have := (ringRun_lens rule a b s).1; have := lh0.out; omega
  have Lh0 := hide (Mh0_21.out.lt)
  obtain ⟨Ah1, nh1, kh1, rfl, lh1⟩ := Mh1_21.out.open
  have bh1 : nh1 ≤ 4000000 := by have := (ringRun_lens rule a b s).2; have := lh1.out; omega
  have Lh1 := hide (Mh1_21.out.lt)
  go_wp2_with fail
  refine (eqIntS_any _ _ _ _ _ _ ((ringRun rule a b s).1) ((ringRun rule a b s).1) _ Mh0_21.out.ir Ms0_21.out.ir).mono ?_
  rintro e w22 ⟨rfl, q22, hq22⟩
  have hb22 : Below w21.heap.size w21 w22 := by rw [hq22]; exact below_drewN (Below.refl _ _) _
  clear hq22
  rw [beq_self_eq_true]
  have hs22 := hb22.size
  have B22 := hide (bseq B21.out hb22)
  have Mc1_22 := hide (Mc1_21.out.below hb22)
  have Mc2_22 := hide (Mc2_21.out.below hb22)
  have Ms0_22 := hide (Ms0_21.out.below hb22)
  have Ms1_22 := hide (Ms1_21.out.below hb22)
  have Mc3_22 := hide (Mc3_21.out.below hb22)
  have Mc4_22 := hide (Mc4_21.out.below hb22)
  have Mg0_22 := hide (Mg0_21.out.below hb22)
  have Mg1_22 := hide (Mg1_21.out.below hb22)
  have Mc5_22 := hide (Mc5_21.out.below hb22)
  have Mc6_22 := hide (Mc6_21.out.below hb22)
  have Mc7_22 := hide (Mc7_21.out.below hb22)
  have Mc8_22 := hide (Mc8_21.out.below hb22)
  have Mh0_22 := hide (Mh0_21.out.below hb22)
  have Mh1_22 := hide (Mh1_21.out.below hb22)
  clear hb22
  go_wp2_with fail
  refine (eqIntS_any _ _ _ _ _ _ ((ringRun rule a b s).2) ((ringRun rule a b s).2) _ Mh1_22.out.ir Ms1_22.out.ir).mono ?_
  rintro e w23 ⟨rfl, q23, hq23⟩
  have hb23 : Below w22.heap.size w22 w23 := by rw [hq23]; exact below_drewN (Below.refl _ _) _
  clear hq23
  rw [beq_self_eq_true]
  have hs23 := hb23.size
  have B23 := hide (bseq B22.out hb23)
  have Mc1_23 := hide (Mc1_22.out.below hb23)
  have Mc2_23 := hide (Mc2_22.out.below hb23)
  have Ms0_23 := hide (Ms0_22.out.below hb23)
  have Ms1_23 := hide (Ms1_22.out.below hb23)
  have Mc3_23 := hide (Mc3_22.out.below hb23)
  have Mc4_23 := hide (Mc4_22.out.below hb23)
  have Mg0_23 := hide (Mg0_22.out.below hb23)
  have Mg1_23 := hide (Mg1_22.out.below hb23)
  have Mc5_23 := hide (Mc5_22.out.below hb23)
  have Mc6_23 := hide (Mc6_22.out.below hb23)
  have Mc7_23 := hide (Mc7_22.out.below hb23)
  have Mc8_23 := hide (Mc8_22.out.below hb23)
  have Mh0_23 := hide (Mh0_22.out.below hb23)
  have Mh1_23 := hide (Mh1_22.out.below hb23)
  clear hb23
  go_wp2_with fail
  refine (heldIntS_any _ _ _ (1) _ Mg0_23.out.ir (by omega) (by omega)).mono ?_
  rintro e w' ⟨rfl, rfl⟩
  go_wp2_with fail
  refine (heldIntS_any _ _ _ (1 + (ng0 : Int)) _ Mg1_23.out.ir (by omega) (by omega)).mono ?_
  rintro e w' ⟨rfl, rfl⟩
  go_wp2_with fail
  go_ret
  exact ⟨rfl, B23.out⟩
end Go.Proofs.Ytefkbjccgajbiaa
