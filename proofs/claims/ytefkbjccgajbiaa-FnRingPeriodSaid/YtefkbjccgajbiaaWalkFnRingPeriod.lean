/-
  The walk of the law FnRingPeriod: it returns true at every input, and turns nothing that was there.
  No condition.
-/
import Derived.Test.YtefkbjccgajbiaaRingPeriod
import Derived.Test.YtefkbjccgajbiaaDrawRings
namespace Go.Proofs.Ytefkbjccgajbiaa
open Go.RowKit Go.Sort base
theorem Mine.slice' {w : World} {base : Nat} {v : Value} {zs : List Int} (h : Mine w base v zs) : ∃ A n c, v = .slice A n c ∧ IR w A n zs := by
  obtain ⟨A, c, e, r⟩ := h.slice
  exact ⟨A, _, c, e, r⟩
/-- what is known of a period that there is -/
theorem period_law {rule : Int} {a b : List Int} (h : ringPeriod rule a b ≠ -1) : ∃ k : Nat, 1 ≤ k ∧ k ≤ 99 ∧ ringPeriod rule a b = (k : Int) ∧ ringRun rule a b (k : Int) = (a, b) ∧
    (k % 2 = 0 → ringRun rule a b ((k : Int) / 2) ≠ (a, b)) ∧ ringPeriod rule b a = (k : Int) := by
  cases h1 : ruleQ rule && pairQ a b
  · exact absurd (by simp [ringPeriod, h1]) h
  · have e1 : ringPeriod rule a b = perOf rule (a, b) := by simp [ringPeriod, h1]
    have h1' := h1
    rw [Bool.and_eq_true] at h1
    obtain ⟨q1, q2⟩ := h1
    obtain ⟨l1, l2, tb⟩ := pair_bits q2
    have hr : ∀ k : Nat, k ≤ 99 → ringRun rule a b (k : Int) = fwd rule k (a, b) := fun k hk => by
      have : runQ rule a b (k : Int) = true := by
        unfold runQ
        rw [q1, q2, stepsQ_iff.2 ⟨by omega, by omega⟩]; rfl
      rw [ringRun, if_pos this, run_pos]
    have q3 : pairQ b a = true := by
      obtain ⟨x1, x2, x3⟩ := pairQ_out q2
      simp [pairQ, x1, x2, x3]
    have e2 : ringPeriod rule b a = perOf rule (b, a) := by simp [ringPeriod, q1, q3]
    rw [e1] at h
    rcases per_cases rule (a, b) with ⟨k, k1, k2, k3, k4, k5⟩ | ⟨k3, _⟩
    · refine ⟨k, k1, k2, by rw [e1, k3], by rw [hr k k2, k4], fun hk => ?_, ?_⟩
      · rw [show ((k : Int) / 2) = ((k / 2 : Nat) : Int) by omega, hr (k / 2) (by omega)]
        exact k5 (k / 2) (by omega) (by omega)
      · rw [e2]
        refine per_at k1 k2 ?_ fun j j1 j2 e => ?_
        · exact (swap_period tb k).2 k4
        · exact k5 j j1 j2 ((swap_period tb j).1 e)
    · exact absurd k3 h
set_option maxRecDepth 100000 in
set_option maxHeartbeats 4000000 in
theorem walk_FnRingPeriod (Ap : Option Addr) (np cp : Nat) (zp : List Int) (w : World) (hp : IRk .u8 w Ap np zp) (yp : ∀ z ∈ zp, (Lit.int .u8 z).wf = true) (dp : np ≤ cp) :
    Calls Try.prog 7 #[.slice Ap np cp] w fun e w' => e = .returned (.bool true) ∧ Below w.heap.size w w' := by
  have maxp := hp.max
  have Hp := hide hp
  have Yp := hide yp
  clear hp yp
  by_cases bigp : 1048576 < np
  · go_enter Try.func7, Try.ntmps7
    go_wp2_with fail
    go_ret
    exact ⟨rfl, Below.refl _ _⟩
  go_enter Try.func7, Try.ntmps7
  have B0 := hide (Below.refl w.heap.size w)
  go_wp2_with fail
  refine (drawRingPeriod_any Ap np cp zp _ (Hp.out.below B0.out) Yp.out dp).mono ?_
  rintro e w1 ⟨⟨rule, va, vb, a, b, rfl, oa, ob, la, lb⟩, hb1⟩
  have B1 := hide (bseq B0.out hb1)
  clear hb1
  obtain ⟨Aa, na, ca, rfl, ra⟩ := oa.slice'
  have a_1 := hide ra
  clear oa ra
  obtain ⟨Ab, nb, cb, rfl, rb⟩ := ob.slice'
  have b_1 := hide rb
  clear ob rb
  go_wp2_with fail
  refine (ringPeriod_any rule _ _ _ _ _ _ a b _ a_1.out b_1.out).mono ?_
  rintro e w2 ⟨rfl, hb2⟩
  have B2 := hide (bseq B1.out hb2)
  have a_2 := hide (a_1.out.below hb2)
  have b_2 := hide (b_1.out.below hb2)
  clear hb2
  obtain ⟨K, hK⟩ : ∃ K, ringPeriod rule a b = K := ⟨_, rfl⟩
  have HK := Lib.hid hK
  clear hK
  rw [HK.out]
  go_wp2_with fail
  refine (sRingPeriod_any rule _ _ _ _ _ _ a b _ a_2.out b_2.out).mono ?_
  rintro e w3 ⟨rfl, hb3⟩
  have B3 := hide (bseq B2.out hb3)
  have a_3 := hide (a_2.out.below hb3)
  have b_3 := hide (b_2.out.below hb3)
  clear hb3
  rw [HK.out]
  have en : (K != K) = false := by simp
  by_cases h1 : K = -1
  · subst h1
    go_wp2_with (go_at_call 15; refine (alive_any _).mono ?_; rintro e w' ⟨rfl, rfl⟩)
    go_ret
    exact ⟨by first | rfl | (simp; omega) | simp, B3.out⟩
  · obtain ⟨k, k1, k2, k3, k4, k5, k6⟩ := period_law (by rw [HK.out]; exact h1)
    obtain rfl : K = (k : Int) := by rw [← HK.out]; exact k3
    have K4 := Lib.hid k4
    have K5 := Lib.hid k5
    have K6 := Lib.hid k6
    clear h1 k3 k4 k5 k6 en
    go_wp2_with fail
    refine (ringRun_any rule _ _ _ _ _ _ a b (k : Int) _ a_3.out b_3.out).mono ?_
    rintro e w4 ⟨⟨vc, vd, rfl, oc, od, _⟩, hb4⟩
    have B4 := hide (bseq B3.out hb4)
    have a_4 := hide (a_3.out.below hb4)
    have b_4 := hide (b_3.out.below hb4)
    clear hb4
    rw [K4.out] at oc od
    obtain ⟨Ac, nc, cc, rfl, rc⟩ := oc.slice'
    have c_4 := hide rc
    clear oc rc
    obtain ⟨Ad, nd, cd, rfl, rd⟩ := od.slice'
    have d_4 := hide rd
    clear od rd
    go_wp2_with fail
    refine (ringRun_any rule _ _ _ _ _ _ a b ((k : Int) / 2) _ a_4.out b_4.out).mono ?_
    rintro e w5 ⟨⟨ve, vf, rfl, oe, of, _⟩, hb5⟩
    have B5 := hide (bseq B4.out hb5)
    have a_5 := hide (a_4.out.below hb5)
    have b_5 := hide (b_4.out.below hb5)
    have c_5 := hide (c_4.out.below hb5)
    have d_5 := hide (d_4.out.below hb5)
    clear hb5
    obtain ⟨Ae, ne, ce, rfl, re⟩ := oe.slice'
    have e_5 := hide re
    clear oe re
    obtain ⟨Af, nf, cf, rfl, rf⟩ := of.slice'
    have f_5 := hide rf
    clear of rf
    go_wp2_with fail
    refine (sameInts_any _ _ _ _ _ _ a a _ c_5.out a_5.out).mono ?_
    rintro e w6 ⟨rfl, q6, hq6⟩
    have hb6 : Below w5.heap.size w5 w6 := by rw [hq6]; exact below_drewN (Below.refl _ _) _
    clear hq6
    have B6 := hide (bseq B5.out hb6)
    have a_6 := hide (a_5.out.below hb6)
    have b_6 := hide (b_5.out.below hb6)
    have c_6 := hide (c_5.out.below hb6)
    have d_6 := hide (d_5.out.below hb6)
    have e_6 := hide (e_5.out.below hb6)
    have f_6 := hide (f_5.out.below hb6)
    clear hb6
    rw [beq_self_eq_true]
    go_wp2_with fail
    refine (sameInts_any _ _ _ _ _ _ b b _ d_6.out b_6.out).mono ?_
    rintro e w7 ⟨rfl, q7, hq7⟩
    have hb7 : Below w6.heap.size w6 w7 := by rw [hq7]; exact below_drewN (Below.refl _ _) _
    clear hq7
    have B7 := hide (bseq B6.out hb7)
    have a_7 := hide (a_6.out.below hb7)
    have b_7 := hide (b_6.out.below hb7)
    have c_7 := hide (c_6.out.below hb7)
    have d_7 := hide (d_6.out.below hb7)
    have e_7 := hide (e_6.out.below hb7)
    have f_7 := hide (f_6.out.below hb7)
    clear hb7
    rw [beq_self_eq_true]
    by_cases hodd : k % 2 = 1
    · have ho : ((k : Int) % 2) = 1 := by omega
      go_wp2_with fail
      refine (ringPeriod_any rule _ _ _ _ _ _ b a _ b_7.out a_7.out).mono ?_
      rintro e w8 ⟨rfl, hb8⟩
      have B8 := hide (bseq B7.out hb8)
      have a_8 := hide (a_7.out.below hb8)
      have b_8 := hide (b_7.out.below hb8)
      have e_8 := hide (e_7.out.below hb8)
      have f_8 := hide (f_7.out.below hb8)
      clear hb8
      rw [K6.out]
      go_wp2_with fail
      go_ret
      exact ⟨by first | rfl | (simp; omega) | simp, B8.out⟩
    · have ho : ((k : Int) % 2) = 0 := by omega
      have HNE := Lib.hid (K5.out (by omega))
      cases h1 : ((ringRun rule a b ((k : Int) / 2)).1 == a)
      · have H1 := Lib.hid h1
        clear h1
        go_wp2_with fail
        refine (sameInts_any _ _ _ _ _ _ (ringRun rule a b ((k : Int) / 2)).1 a _ e_7.out a_7.out).mono ?_
        rintro e w8 ⟨rfl, q8, hq8⟩
        have hb8 : Below w7.heap.size w7 w8 := by rw [hq8]; exact below_drewN (Below.refl _ _) _
        clear hq8
        have B8 := hide (bseq B7.out hb8)
        have a_8 := hide (a_7.out.below hb8)
        have b_8 := hide (b_7.out.below hb8)
        have e_8 := hide (e_7.out.below hb8)
        have f_8 := hide (f_7.out.below hb8)
        clear hb8
        rw [H1.out]
        go_wp2_with fail
        refine (ringPeriod_any rule _ _ _ _ _ _ b a _ b_8.out a_8.out).mono ?_
        rintro e w9 ⟨rfl, hb9⟩
        have B9 := hide (bseq B8.out hb9)
        have a_9 := hide (a_8.out.below hb9)
        have b_9 := hide (b_8.out.below hb9)
        have e_9 := hide (e_8.out.below hb9)
        have f_9 := hide (f_8.out.below hb9)
        clear hb9
        rw [K6.out]
        go_wp2_with fail
        go_ret
        exact ⟨by first | rfl | (simp; omega) | simp, B9.out⟩
      · have H2 := Lib.hid (show ((ringRun rule a b ((k : Int) / 2)).2 == b) = false by
          cases h2 : ((ringRun rule a b ((k : Int) / 2)).2 == b)
          · rfl
          · exact absurd (Prod.ext (by simpa using h1) (by simpa using h2)) HNE.out)
        have H1 := Lib.hid h1
        clear h1
        go_wp2_with fail
        refine (sameInts_any _ _ _ _ _ _ (ringRun rule a b ((k : Int) / 2)).1 a _ e_7.out a_7.out).mono ?_
        rintro e w8 ⟨rfl, q8, hq8⟩
        have hb8 : Below w7.heap.size w7 w8 := by rw [hq8]; exact below_drewN (Below.refl _ _) _
        clear hq8
        have B8 := hide (bseq B7.out hb8)
        have a_8 := hide (a_7.out.below hb8)
        have b_8 := hide (b_7.out.below hb8)
        have e_8 := hide (e_7.out.below hb8)
        have f_8 := hide (f_7.out.below hb8)
        clear hb8
        rw [H1.out]
        go_wp2_with fail
        refine (sameInts_any _ _ _ _ _ _ (ringRun rule a b ((k : Int) / 2)).2 b _ f_8.out b_8.out).mono ?_
        rintro e w9 ⟨rfl, q9, hq9⟩
        have hb9 : Below w8.heap.size w8 w9 := by rw [hq9]; exact below_drewN (Below.refl _ _) _
        clear hq9
        have B9 := hide (bseq B8.out hb9)
        have a_9 := hide (a_8.out.below hb9)
        have b_9 := hide (b_8.out.below hb9)
        have e_9 := hide (e_8.out.below hb9)
        have f_9 := hide (f_8.out.below hb9)
        clear hb9
        rw [H2.out]
        go_wp2_with fail
        refine (ringPeriod_any rule _ _ _ _ _ _ b a _ b_9.out a_9.out).mono ?_
        rintro e w10 ⟨rfl, hb10⟩
        have B10 := hide (bseq B9.out hb10)
        have a_10 := hide (a_9.out.below hb10)
        have b_10 := hide (b_9.out.below hb10)
        have e_10 := hide (e_9.out.below hb10)
        have f_10 := hide (f_9.out.below hb10)
        clear hb10
        rw [K6.out]
        go_wp2_with fail
        go_ret
        exact ⟨by first | rfl | (simp; omega) | simp, B10.out⟩
end Go.Proofs.Ytefkbjccgajbiaa
