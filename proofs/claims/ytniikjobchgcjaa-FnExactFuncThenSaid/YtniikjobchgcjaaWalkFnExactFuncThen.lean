/-
  The walk of the law FnExactFuncThen: it returns true at every input, and turns nothing that was there.
  No condition.
-/
import Derived.Test.YtniikjobchgcjaaThen
namespace Go.Proofs.Ytniikjobchgcjaa
open Go.RowKit Go.Sort base
set_option maxHeartbeats 4000000 in
theorem walk_FnExactFuncThen (i : Int) (m : Int) (o : Int) (Af : Option Addr) (nf cf : Nat) (f : List Int) (Ag : Option Addr) (ng cg : Nat) (g : List Int) (w : World) (_ : (Lit.int .i64 i).wf = true) (_ : (Lit.int .i64 m).wf = true) (_ : (Lit.int .i64 o).wf = true) (hf : IR w Af nf f) (_ : ∀ n ∈ f, (Lit.int .i64 n).wf = true) (_ : nf ≤ cf) (hg : IR w Ag ng g) (_ : ∀ n ∈ g, (Lit.int .i64 n).wf = true) (_ : ng ≤ cg) :
    Calls Try.prog 3 #[.int .i64 i, .int .i64 m, .int .i64 o, .slice Af nf cf, .slice Ag ng cg] w fun e w' => e = .returned (.bool true) ∧ Below w.heap.size w w' := by
  have hmaxf := hf.max
  have hlenf := Lib.hid hf.len
  have Hf := hide hf
  have hmaxg := hg.max
  have hleng := Lib.hid hg.len
  have Hg := hide hg
  clear hf hg
  by_cases hbigf : 1048576 < nf
  · go_enter Try.func3, Try.ntmps3
    go_wp2_with fail
    go_ret
    exact ⟨rfl, Below.refl _ _⟩
  have hlf : nf ≤ 1048576 := by omega
  by_cases hbigg : 1048576 < ng
  · go_enter Try.func3, Try.ntmps3
    go_wp2_with fail
    go_ret
    exact ⟨rfl, Below.refl _ _⟩
  have hlg : ng ≤ 1048576 := by omega
  go_enter Try.func3, Try.ntmps3
  have B0 := hide (Below.refl w.heap.size w)
  go_wp2_with fail
  refine (toIntS_any Af nf cf f _ Hf.out (by omega)).mono ?_
  rintro e w1 ⟨⟨v1, rfl, ho1, rfl⟩, hb1⟩
  have hs1 := hb1.size
  have B1 := hide (bseq B0.out hb1)
  have Mc1_1 := hide ho1.mine
  have Lc1 := hide (Mc1_1.out.lt)
  clear ho1 hb1
  go_wp2_with fail
  refine (toIntS_any Ag ng cg g _ (Hg.out.below B1.out) (by omega)).mono ?_
  rintro e w2 ⟨⟨v2, rfl, ho2, rfl⟩, hb2⟩
  have hs2 := hb2.size
  have B2 := hide (bseq B1.out hb2)
  have Mc1_2 := hide (Mc1_1.out.below hb2)
  have Mc2_2 := hide ho2.mine
  have Lc2 := hide (Mc2_2.out.lt)
  clear ho2 hb2
  go_wp2_with fail
  refine (sFuncThen_any i m o _ _ _ _ _ _ f g _ Mc1_2.out.ir Mc2_2.out.ir).mono ?_
  rintro e w3 ⟨⟨vs0, rfl, ms0⟩, hb3⟩
  have Ms0_3 := hide ms0.mine
  have hs3 := hb3.size
  have B3 := hide (bseq B2.out hb3)
  have Mc1_3 := hide (Mc1_2.out.below hb3)
  have Mc2_3 := hide (Mc2_2.out.below hb3)
  clear hb3 ms0 
  obtain ⟨As0, ns0, ks0, rfl, ls0⟩ := Ms0_3.out.open
  have bs0 : ns0 ≤ 4000000 := by have := funcThen_len i m o f g; have := ls0.out; omega
  have Ls0 := hide (Ms0_3.out.lt)
  go_wp2_with fail
  refine (toIntS_any Af nf cf f _ (Hf.out.below B3.out) (by omega)).mono ?_
  rintro e w4 ⟨⟨v4, rfl, ho4, rfl⟩, hb4⟩
  have hs4 := hb4.size
  have B4 := hide (bseq B3.out hb4)
  have Mc1_4 := hide (Mc1_3.out.below hb4)
  have Mc2_4 := hide (Mc2_3.out.below hb4)
  have Ms0_4 := hide (Ms0_3.out.below hb4)
  have Mc3_4 := hide ho4.mine
  have Lc3 := hide (Mc3_4.out.lt)
  clear ho4 hb4
  go_wp2_with fail
  refine (toIntS_any Ag ng cg g _ (Hg.out.below B4.out) (by omega)).mono ?_
  rintro e w5 ⟨⟨v5, rfl, ho5, rfl⟩, hb5⟩
  have hs5 := hb5.size
  have B5 := hide (bseq B4.out hb5)
  have Mc1_5 := hide (Mc1_4.out.below hb5)
  have Mc2_5 := hide (Mc2_4.out.below hb5)
  have Ms0_5 := hide (Ms0_4.out.below hb5)
  have Mc3_5 := hide (Mc3_4.out.below hb5)
  have Mc4_5 := hide ho5.mine
  have Lc4 := hide (Mc4_5.out.lt)
  clear ho5 hb5
  go_wp2_with fail
  refine (funcThen_any i m o _ _ _ _ _ _ f g _ Mc3_5.out.ir Mc4_5.out.ir).mono ?_
  rintro e w6 ⟨⟨vg0, rfl, mg0⟩, hb6⟩
  have Mg0_6 := hide mg0.mine
  have hs6 := hb6.size
  have B6 := hide (bseq B5.out hb6)
  have Mc1_6 := hide (Mc1_5.out.below hb6)
  have Mc2_6 := hide (Mc2_5.out.below hb6)
  have Ms0_6 := hide (Ms0_5.out.below hb6)
  have Mc3_6 := hide (Mc3_5.out.below hb6)
  have Mc4_6 := hide (Mc4_5.out.below hb6)
  clear hb6 mg0 
  obtain ⟨Ag0, ng0, kg0, rfl, lg0⟩ := Mg0_6.out.open
  have bg0 : ng0 ≤ 4000000 := by have := funcThen_len i m o f g; have := lg0.out; omega
  have Lg0 := hide (Mg0_6.out.lt)
  go_wp2_with fail
  refine (eqIntS_any _ _ _ _ _ _ (funcThen i m o f g) (funcThen i m o f g) _ Mg0_6.out.ir Ms0_6.out.ir).mono ?_
  rintro e w7 ⟨rfl, q7, hq7⟩
  have hb7 : Below w6.heap.size w6 w7 := by rw [hq7]; exact below_drewN (Below.refl _ _) _
  clear hq7
  rw [beq_self_eq_true]
  have hs7 := hb7.size
  have B7 := hide (bseq B6.out hb7)
  have Mc1_7 := hide (Mc1_6.out.below hb7)
  have Mc2_7 := hide (Mc2_6.out.below hb7)
  have Ms0_7 := hide (Ms0_6.out.below hb7)
  have Mc3_7 := hide (Mc3_6.out.below hb7)
  have Mc4_7 := hide (Mc4_6.out.below hb7)
  have Mg0_7 := hide (Mg0_6.out.below hb7)
  clear hb7
  go_wp2_with fail
  refine (toIntS_any Af nf cf f _ (Hf.out.below B7.out) (by omega)).mono ?_
  rintro e w8 ⟨⟨v8, rfl, ho8, rfl⟩, hb8⟩
  have hs8 := hb8.size
  have B8 := hide (bseq B7.out hb8)
  have Mc1_8 := hide (Mc1_7.out.below hb8)
  have Mc2_8 := hide (Mc2_7.out.below hb8)
  have Ms0_8 := hide (Ms0_7.out.below hb8)
  have Mc3_8 := hide (Mc3_7.out.below hb8)
  have Mc4_8 := hide (Mc4_7.out.below hb8)
  have Mg0_8 := hide (Mg0_7.out.below hb8)
  have Mc5_8 := hide ho8.mine
  have Lc5 := hide (Mc5_8.out.lt)
  clear ho8 hb8
  go_wp2_with fail
  refine (eqIntS_any _ _ _ _ _ _ f f _ Mc3_8.out.ir Mc5_8.out.ir).mono ?_
  rintro e w9 ⟨rfl, q9, hq9⟩
  have hb9 : Below w8.heap.size w8 w9 := by rw [hq9]; exact below_drewN (Below.refl _ _) _
  clear hq9
  rw [beq_self_eq_true]
  have hs9 := hb9.size
  have B9 := hide (bseq B8.out hb9)
  have Mc1_9 := hide (Mc1_8.out.below hb9)
  have Mc2_9 := hide (Mc2_8.out.below hb9)
  have Ms0_9 := hide (Ms0_8.out.below hb9)
  have Mc3_9 := hide (Mc3_8.out.below hb9)
  have Mc4_9 := hide (Mc4_8.out.below hb9)
  have Mg0_9 := hide (Mg0_8.out.below hb9)
  have Mc5_9 := hide (Mc5_8.out.below hb9)
  clear hb9
  go_wp2_with fail
  refine (toIntS_any Ag ng cg g _ (Hg.out.below B9.out) (by omega)).mono ?_
  rintro e w10 ⟨⟨v10, rfl, ho10, rfl⟩, hb10⟩
  have hs10 := hb10.size
  have B10 := hide (bseq B9.out hb10)
  have Mc1_10 := hide (Mc1_9.out.below hb10)
  have Mc2_10 := hide (Mc2_9.out.below hb10)
  have Ms0_10 := hide (Ms0_9.out.below hb10)
  have Mc3_10 := hide (Mc3_9.out.below hb10)
  have Mc4_10 := hide (Mc4_9.out.below hb10)
  have Mg0_10 := hide (Mg0_9.out.below hb10)
  have Mc5_10 := hide (Mc5_9.out.below hb10)
  have Mc6_10 := hide ho10.mine
  have Lc6 := hide (Mc6_10.out.lt)
  clear ho10 hb10
  go_wp2_with fail
  refine (eqIntS_any _ _ _ _ _ _ g g _ Mc4_10.out.ir Mc6_10.out.ir).mono ?_
  rintro e w11 ⟨rfl, q11, hq11⟩
  have hb11 : Below w10.heap.size w10 w11 := by rw [hq11]; exact below_drewN (Below.refl _ _) _
  clear hq11
  rw [beq_self_eq_true]
  have hs11 := hb11.size
  have B11 := hide (bseq B10.out hb11)
  have Mc1_11 := hide (Mc1_10.out.below hb11)
  have Mc2_11 := hide (Mc2_10.out.below hb11)
  have Ms0_11 := hide (Ms0_10.out.below hb11)
  have Mc3_11 := hide (Mc3_10.out.below hb11)
  have Mc4_11 := hide (Mc4_10.out.below hb11)
  have Mg0_11 := hide (Mg0_10.out.below hb11)
  have Mc5_11 := hide (Mc5_10.out.below hb11)
  have Mc6_11 := hide (Mc6_10.out.below hb11)
  clear hb11
  go_wp2_with fail
  refine (markIntS_any _ _ _ _ (1) _ _ Mc3_11.out (by omega) (by omega)).mono ?_
  rintro e w12 ⟨⟨rfl, hm12⟩, hg12⟩
  have hs12 := hg12.size
  have B12 := hide (B11.out.grown hg12 (by omega) (fun k hk => by have := (Lc3.out k hk).1; omega))
  have Mc1_12 := hide (Mc1_11.out.kept hg12 (ne_blocks Lc1.out Lc3.out (by omega)))
  have Mc2_12 := hide (Mc2_11.out.kept hg12 (ne_blocks Lc2.out Lc3.out (by omega)))
  have Ms0_12 := hide (Ms0_11.out.kept hg12 (ne_blocks Ls0.out Lc3.out (by omega)))
  have Mc4_12 := hide (Mc4_11.out.kept hg12 (ne_blocks Lc4.out Lc3.out (by omega)))
  have Mg0_12 := hide (Mg0_11.out.kept hg12 (ne_blocks Lg0.out Lc3.out (by omega)))
  have Mc5_12 := hide (Mc5_11.out.kept hg12 (ne_blocks Lc5.out Lc3.out (by omega)))
  have Mc6_12 := hide (Mc6_11.out.kept hg12 (ne_blocks Lc6.out Lc3.out (by omega)))
  have Mc3_12 := hide hm12
  clear hm12 hg12
  go_wp2_with fail
  refine (markIntS_any _ _ _ _ (1 + (nf : Int)) _ _ Mc4_12.out (by omega) (by omega)).mono ?_
  rintro e w13 ⟨⟨rfl, hm13⟩, hg13⟩
  have hs13 := hg13.size
  have B13 := hide (B12.out.grown hg13 (by omega) (fun k hk => by have := (Lc4.out k hk).1; omega))
  have Mc1_13 := hide (Mc1_12.out.kept hg13 (ne_blocks Lc1.out Lc4.out (by omega)))
  have Mc2_13 := hide (Mc2_12.out.kept hg13 (ne_blocks Lc2.out Lc4.out (by omega)))
  have Ms0_13 := hide (Ms0_12.out.kept hg13 (ne_blocks Ls0.out Lc4.out (by omega)))
  have Mc3_13 := hide (Mc3_12.out.kept hg13 (ne_blocks Lc3.out Lc4.out (by omega)))
  have Mg0_13 := hide (Mg0_12.out.kept hg13 (ne_blocks Lg0.out Lc4.out (by omega)))
  have Mc5_13 := hide (Mc5_12.out.kept hg13 (ne_blocks Lc5.out Lc4.out (by omega)))
  have Mc6_13 := hide (Mc6_12.out.kept hg13 (ne_blocks Lc6.out Lc4.out (by omega)))
  have Mc4_13 := hide hm13
  clear hm13 hg13
  go_wp2_with fail
  refine (eqIntS_any _ _ _ _ _ _ (funcThen i m o f g) (funcThen i m o f g) _ Mg0_13.out.ir Ms0_13.out.ir).mono ?_
  rintro e w14 ⟨rfl, q14, hq14⟩
  have hb14 : Below w13.heap.size w13 w14 := by rw [hq14]; exact below_drewN (Below.refl _ _) _
  clear hq14
  rw [beq_self_eq_true]
  have hs14 := hb14.size
  have B14 := hide (bseq B13.out hb14)
  have Mc1_14 := hide (Mc1_13.out.below hb14)
  have Mc2_14 := hide (Mc2_13.out.below hb14)
  have Ms0_14 := hide (Ms0_13.out.below hb14)
  have Mc3_14 := hide (Mc3_13.out.below hb14)
  have Mc4_14 := hide (Mc4_13.out.below hb14)
  have Mg0_14 := hide (Mg0_13.out.below hb14)
  have Mc5_14 := hide (Mc5_13.out.below hb14)
  have Mc6_14 := hide (Mc6_13.out.below hb14)
  clear hb14
  go_wp2_with fail
  refine (markIntS_any _ _ _ _ (1) _ _ Mg0_14.out (by omega) (by omega)).mono ?_
  rintro e w15 ⟨⟨rfl, hm15⟩, hg15⟩
  have hs15 := hg15.size
  have B15 := hide (B14.out.grown hg15 (by omega) (fun k hk => by have := (Lg0.out k hk).1; omega))
  have Mc1_15 := hide (Mc1_14.out.kept hg15 (ne_blocks Lc1.out Lg0.out (by omega)))
  have Mc2_15 := hide (Mc2_14.out.kept hg15 (ne_blocks Lc2.out Lg0.out (by omega)))
  have Ms0_15 := hide (Ms0_14.out.kept hg15 (ne_blocks Ls0.out Lg0.out (by omega)))
  have Mc3_15 := hide (Mc3_14.out.kept hg15 (ne_blocks Lc3.out Lg0.out (by omega)))
  have Mc4_15 := hide (Mc4_14.out.kept hg15 (ne_blocks Lc4.out Lg0.out (by omega)))
  have Mc5_15 := hide (Mc5_14.out.kept hg15 (ne_blocks Lc5.out Lg0.out (by omega)))
  have Mc6_15 := hide (Mc6_14.out.kept hg15 (ne_blocks Lc6.out Lg0.out (by omega)))
  have Mg0_15 := hide hm15
  clear hm15 hg15
  go_wp2_with fail
  refine (heldIntS_any _ _ _ (1) _ Mg0_15.out.ir (by omega) (by omega)).mono ?_
  rintro e w' ⟨rfl, rfl⟩
  go_wp2_with fail
  refine (toIntS_any Af nf cf f _ (Hf.out.below B15.out) (by omega)).mono ?_
  rintro e w16 ⟨⟨v16, rfl, ho16, rfl⟩, hb16⟩
  have hs16 := hb16.size
  have B16 := hide (bseq B15.out hb16)
  have Mc1_16 := hide (Mc1_15.out.below hb16)
  have Mc2_16 := hide (Mc2_15.out.below hb16)
  have Ms0_16 := hide (Ms0_15.out.below hb16)
  have Mc3_16 := hide (Mc3_15.out.below hb16)
  have Mc4_16 := hide (Mc4_15.out.below hb16)
  have Mg0_16 := hide (Mg0_15.out.below hb16)
  have Mc5_16 := hide (Mc5_15.out.below hb16)
  have Mc6_16 := hide (Mc6_15.out.below hb16)
  have Mc7_16 := hide ho16.mine
  have Lc7 := hide (Mc7_16.out.lt)
  clear ho16 hb16
  go_wp2_with fail
  refine (toIntS_any Ag ng cg g _ (Hg.out.below B16.out) (by omega)).mono ?_
  rintro e w17 ⟨⟨v17, rfl, ho17, rfl⟩, hb17⟩
  have hs17 := hb17.size
  have B17 := hide (bseq B16.out hb17)
  have Mc1_17 := hide (Mc1_16.out.below hb17)
  have Mc2_17 := hide (Mc2_16.out.below hb17)
  have Ms0_17 := hide (Ms0_16.out.below hb17)
  have Mc3_17 := hide (Mc3_16.out.below hb17)
  have Mc4_17 := hide (Mc4_16.out.below hb17)
  have Mg0_17 := hide (Mg0_16.out.below hb17)
  have Mc5_17 := hide (Mc5_16.out.below hb17)
  have Mc6_17 := hide (Mc6_16.out.below hb17)
  have Mc7_17 := hide (Mc7_16.out.below hb17)
  have Mc8_17 := hide ho17.mine
  have Lc8 := hide (Mc8_17.out.lt)
  clear ho17 hb17
  go_wp2_with fail
  refine (funcThen_any i m o _ _ _ _ _ _ f g _ Mc7_17.out.ir Mc8_17.out.ir).mono ?_
  rintro e w18 ⟨⟨vh0, rfl, mh0⟩, hb18⟩
  have Mh0_18 := hide mh0.mine
  have hs18 := hb18.size
  have B18 := hide (bseq B17.out hb18)
  have Mc1_18 := hide (Mc1_17.out.below hb18)
  have Mc2_18 := hide (Mc2_17.out.below hb18)
  have Ms0_18 := hide (Ms0_17.out.below hb18)
  have Mc3_18 := hide (Mc3_17.out.below hb18)
  have Mc4_18 := hide (Mc4_17.out.below hb18)
  have Mg0_18 := hide (Mg0_17.out.below hb18)
  have Mc5_18 := hide (Mc5_17.out.below hb18)
  have Mc6_18 := hide (Mc6_17.out.below hb18)
  have Mc7_18 := hide (Mc7_17.out.below hb18)
  have Mc8_18 := hide (Mc8_17.out.below hb18)
  clear hb18 mh0 
  obtain ⟨Ah0, nh0, kh0, rfl, lh0⟩ := Mh0_18.out.open
  have bh0 : nh0 ≤ 4000000 := by have := funcThen_len i m o f g; have := lh0.out; omega
  have Lh0 := hide (Mh0_18.out.lt)
  go_wp2_with fail
  refine (eqIntS_any _ _ _ _ _ _ (funcThen i m o f g) (funcThen i m o f g) _ Mh0_18.out.ir Ms0_18.out.ir).mono ?_
  rintro e w19 ⟨rfl, q19, hq19⟩
  have hb19 : Below w18.heap.size w18 w19 := by rw [hq19]; exact below_drewN (Below.refl _ _) _
  clear hq19
  rw [beq_self_eq_true]
  have hs19 := hb19.size
  have B19 := hide (bseq B18.out hb19)
  have Mc1_19 := hide (Mc1_18.out.below hb19)
  have Mc2_19 := hide (Mc2_18.out.below hb19)
  have Ms0_19 := hide (Ms0_18.out.below hb19)
  have Mc3_19 := hide (Mc3_18.out.below hb19)
  have Mc4_19 := hide (Mc4_18.out.below hb19)
  have Mg0_19 := hide (Mg0_18.out.below hb19)
  have Mc5_19 := hide (Mc5_18.out.below hb19)
  have Mc6_19 := hide (Mc6_18.out.below hb19)
  have Mc7_19 := hide (Mc7_18.out.below hb19)
  have Mc8_19 := hide (Mc8_18.out.below hb19)
  have Mh0_19 := hide (Mh0_18.out.below hb19)
  clear hb19
  go_wp2_with fail
  refine (heldIntS_any _ _ _ (1) _ Mg0_19.out.ir (by omega) (by omega)).mono ?_
  rintro e w' ⟨rfl, rfl⟩
  go_wp2_with fail
  go_ret
  exact ⟨rfl, B19.out⟩
end Go.Proofs.Ytniikjobchgcjaa
