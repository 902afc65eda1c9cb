/-
  The walk of the law FnExactReadFunc: it returns true at every input, and turns nothing that was there.
  No condition.
-/
import Derived.Test.YtokcappgaokeaaaDoorReadF
namespace Go.Proofs.YtokcappgaokeaaaDoor
open Go.RowKit Go.Sort base
set_option maxHeartbeats 4000000 in
theorem walk_FnExactReadFunc_true (i o : Int) (S : ByteArray) (w : World) (hS : S.size ≤ 1048577) (hs : S.size ≤ 1048576) (hok : readOk i o S = true) (ht : Tens w) (he : Errs w) :
    Calls Tryd.prog 3 #[.int .i64 i, .int .i64 o, .string S] w fun e w' => e = .returned (.bool true) ∧ Below w.heap.size w w' := by
  have HT := hide ht
  have HE := hide he
  clear ht he
  go_enter Tryd.func3, Tryd.ntmps3
  have B0 := hide (Below.refl w.heap.size w)
  go_wp2_with fail
  refine (sReadB true i o S _ hS hok).mono ?_
  rintro e w1 ⟨⟨vs0, rfl, ms0⟩, hb1⟩
  have Ms0_1 := hide ms0.mine
  have hs1 := hb1.size
  have B1 := hide (bseq B0.out hb1)
  clear hb1 ms0 
  obtain ⟨As0, ns0, ks0, rfl, ls0⟩ := Ms0_1.out.open
  have bs0 : ns0 ≤ 4000000 := by have := readF_len i o S; have := ls0.out; omega
  have Ls0 := hide (Ms0_1.out.lt)
  go_wp2_with fail
  refine (readB true i o S _ hS hok (HT.out.below B1.out) (HE.out.below B1.out)).mono ?_
  rintro e w2 ⟨⟨vg0, rfl, mg0⟩, hb2⟩
  have Mg0_2 := hide mg0
  have hs2 := hb2.size
  have B2 := hide (bseq B1.out hb2)
  have Ms0_2 := hide (Ms0_1.out.below hb2)
  clear hb2 mg0 
  obtain ⟨Ag0, ng0, kg0, rfl, lg0⟩ := Mg0_2.out.open
  have bg0 : ng0 ≤ 4000000 := by have := readF_len i o S; have := lg0.out; omega
  have Lg0 := hide (Mg0_2.out.lt)
  go_wp2_with fail
  refine (eqIntS_any _ _ _ _ _ _ (readF i o S) (readF i o S) _ Mg0_2.out.ir Ms0_2.out.ir).mono ?_
  rintro e w3 ⟨rfl, q3, hq3⟩
  have hb3 : Below w2.heap.size w2 w3 := by rw [hq3]; exact below_drewN (Below.refl _ _) _
  clear hq3
  rw [beq_self_eq_true]
  have hs3 := hb3.size
  have B3 := hide (bseq B2.out hb3)
  have Ms0_3 := hide (Ms0_2.out.below hb3)
  have Mg0_3 := hide (Mg0_2.out.below hb3)
  clear hb3
  go_wp2_with fail
  refine (markIntS_any _ _ _ _ (1) _ _ Mg0_3.out (by omega) (by omega)).mono ?_
  rintro e w4 ⟨⟨rfl, hm4⟩, hg4⟩
  have hs4 := hg4.size
  have B4 := hide (B3.out.grown hg4 (by omega) (fun k hk => by have := (Lg0.out k hk).1; omega))
  have Ms0_4 := hide (Ms0_3.out.kept hg4 (ne_blocks Ls0.out Lg0.out (by omega)))
  have Mg0_4 := hide hm4
  clear hm4 hg4
  go_wp2_with fail
  refine (heldIntS_any _ _ _ (1) _ Mg0_4.out.ir (by omega) (by omega)).mono ?_
  rintro e w' ⟨rfl, rfl⟩
  go_wp2_with fail
  refine (readB true i o S _ hS hok (HT.out.below B4.out) (HE.out.below B4.out)).mono ?_
  rintro e w5 ⟨⟨vh0, rfl, mh0⟩, hb5⟩
  have Mh0_5 := hide mh0
  have hs5 := hb5.size
  have B5 := hide (bseq B4.out hb5)
  have Ms0_5 := hide (Ms0_4.out.below hb5)
  have Mg0_5 := hide (Mg0_4.out.below hb5)
  clear hb5 mh0 
  obtain ⟨Ah0, nh0, kh0, rfl, lh0⟩ := Mh0_5.out.open
  have bh0 : nh0 ≤ 4000000 := by have := readF_len i o S; have := lh0.out; omega
  have Lh0 := hide (Mh0_5.out.lt)
  go_wp2_with fail
  refine (eqIntS_any _ _ _ _ _ _ (readF i o S) (readF i o S) _ Mh0_5.out.ir Ms0_5.out.ir).mono ?_
  rintro e w6 ⟨rfl, q6, hq6⟩
  have hb6 : Below w5.heap.size w5 w6 := by rw [hq6]; exact below_drewN (Below.refl _ _) _
  clear hq6
  rw [beq_self_eq_true]
  have hs6 := hb6.size
  have B6 := hide (bseq B5.out hb6)
  have Ms0_6 := hide (Ms0_5.out.below hb6)
  have Mg0_6 := hide (Mg0_5.out.below hb6)
  have Mh0_6 := hide (Mh0_5.out.below hb6)
  clear hb6
  go_wp2_with fail
  refine (heldIntS_any _ _ _ (1) _ Mg0_6.out.ir (by omega) (by omega)).mono ?_
  rintro e w' ⟨rfl, rfl⟩
  go_wp2_with fail
  go_ret
  exact ⟨rfl, B6.out⟩
set_option maxHeartbeats 4000000 in
theorem walk_FnExactReadFunc_false (i o : Int) (S : ByteArray) (w : World) (hS : S.size ≤ 1048577) (hs : S.size ≤ 1048576) (hok : readOk i o S = false) (ht : Tens w) (he : Errs w) :
    Calls Tryd.prog 3 #[.int .i64 i, .int .i64 o, .string S] w fun e w' => e = .returned (.bool true) ∧ Below w.heap.size w w' := by
  have HT := hide ht
  have HE := hide he
  clear ht he
  go_enter Tryd.func3, Tryd.ntmps3
  have B0 := hide (Below.refl w.heap.size w)
  go_wp2_with fail
  refine (sReadB false i o S _ hS hok).mono ?_
  rintro e w1 ⟨⟨vs0, rfl, ms0⟩, hb1⟩
  have Ms0_1 := hide ms0.mine
  have hs1 := hb1.size
  have B1 := hide (bseq B0.out hb1)
  clear hb1 ms0 
  obtain ⟨As0, ns0, ks0, rfl, ls0⟩ := Ms0_1.out.open
  have bs0 : ns0 ≤ 4000000 := by have := readF_len i o S; have := ls0.out; omega
  have Ls0 := hide (Ms0_1.out.lt)
  go_wp2_with fail
  refine (readB false i o S _ hS hok (HT.out.below B1.out) (HE.out.below B1.out)).mono ?_
  rintro e w2 ⟨⟨vg0, rfl, mg0⟩, hb2⟩
  have Mg0_2 := hide mg0
  have hs2 := hb2.size
  have B2 := hide (bseq B1.out hb2)
  have Ms0_2 := hide (Ms0_1.out.below hb2)
  clear hb2 mg0 
  obtain ⟨Ag0, ng0, kg0, rfl, lg0⟩ := Mg0_2.out.open
  have bg0 : ng0 ≤ 4000000 := by have := readF_len i o S; have := lg0.out; omega
  have Lg0 := hide (Mg0_2.out.lt)
  go_wp2_with fail
  refine (eqIntS_any _ _ _ _ _ _ (readF i o S) (readF i o S) _ Mg0_2.out.ir Ms0_2.out.ir).mono ?_
  rintro e w3 ⟨rfl, q3, hq3⟩
  have hb3 : Below w2.heap.size w2 w3 := by rw [hq3]; exact below_drewN (Below.refl _ _) _
  clear hq3
  rw [beq_self_eq_true]
  have hs3 := hb3.size
  have B3 := hide (bseq B2.out hb3)
  have Ms0_3 := hide (Ms0_2.out.below hb3)
  have Mg0_3 := hide (Mg0_2.out.below hb3)
  clear hb3
  go_wp2_with fail
  refine (markIntS_any _ _ _ _ (1) _ _ Mg0_3.out (by omega) (by omega)).mono ?_
  rintro e w4 ⟨⟨rfl, hm4⟩, hg4⟩
  have hs4 := hg4.size
  have B4 := hide (B3.out.grown hg4 (by omega) (fun k hk => by have := (Lg0.out k hk).1; omega))
  have Ms0_4 := hide (Ms0_3.out.kept hg4 (ne_blocks Ls0.out Lg0.out (by omega)))
  have Mg0_4 := hide hm4
  clear hm4 hg4
  go_wp2_with fail
  refine (heldIntS_any _ _ _ (1) _ Mg0_4.out.ir (by omega) (by omega)).mono ?_
  rintro e w' ⟨rfl, rfl⟩
  go_wp2_with fail
  refine (readB false i o S _ hS hok (HT.out.below B4.out) (HE.out.below B4.out)).mono ?_
  rintro e w5 ⟨⟨vh0, rfl, mh0⟩, hb5⟩
  have Mh0_5 := hide mh0
  have hs5 := hb5.size
  have B5 := hide (bseq B4.out hb5)
  have Ms0_5 := hide (Ms0_4.out.below hb5)
  have Mg0_5 := hide (Mg0_4.out.below hb5)
  clear hb5 mh0 
  obtain ⟨Ah0, nh0, kh0, rfl, lh0⟩ := Mh0_5.out.open
  have bh0 : nh0 ≤ 4000000 := by have := readF_len i o S; have := lh0.out; omega
  have Lh0 := hide (Mh0_5.out.lt)
  go_wp2_with fail
  refine (eqIntS_any _ _ _ _ _ _ (readF i o S) (readF i o S) _ Mh0_5.out.ir Ms0_5.out.ir).mono ?_
  rintro e w6 ⟨rfl, q6, hq6⟩
  have hb6 : Below w5.heap.size w5 w6 := by rw [hq6]; exact below_drewN (Below.refl _ _) _
  clear hq6
  rw [beq_self_eq_true]
  have hs6 := hb6.size
  have B6 := hide (bseq B5.out hb6)
  have Ms0_6 := hide (Ms0_5.out.below hb6)
  have Mg0_6 := hide (Mg0_5.out.below hb6)
  have Mh0_6 := hide (Mh0_5.out.below hb6)
  clear hb6
  go_wp2_with fail
  refine (heldIntS_any _ _ _ (1) _ Mg0_6.out.ir (by omega) (by omega)).mono ?_
  rintro e w' ⟨rfl, rfl⟩
  go_wp2_with fail
  go_ret
  exact ⟨rfl, B6.out⟩
set_option maxHeartbeats 1000000 in
theorem walk_FnExactReadFunc (i o : Int) (S : ByteArray) (w : World) (_ : (Lit.int .i64 i).wf = true) (_ : (Lit.int .i64 o).wf = true) (ht : Tens w) (he : Errs w) :
    Calls Tryd.prog 3 #[.int .i64 i, .int .i64 o, .string S] w fun e w' => e = .returned (.bool true) ∧ Below w.heap.size w w' := by
  by_cases hbig : 1048576 < S.size
  · clear ht he
    go_enter Tryd.func3, Tryd.ntmps3
    go_wp2_with fail
    go_ret
    exact ⟨rfl, Below.refl _ _⟩
  · cases hok : readOk i o S with
    | true => exact walk_FnExactReadFunc_true i o S w (by omega) (by omega) hok ht he
    | false => exact walk_FnExactReadFunc_false i o S w (by omega) (by omega) hok ht he
end Go.Proofs.YtokcappgaokeaaaDoor
