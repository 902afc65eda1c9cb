/-
  The walk of the law FnRingRun: it returns true at every input, and turns nothing that was there.
  No condition.
-/
import Derived.Test.YtefkbjccgajbiaaDrawRings
namespace Go.Proofs.Ytefkbjccgajbiaa
open Go.RowKit Go.Sort base
theorem Mine.slice' {w : World} {base : Nat} {v : Value} {zs : List Int} (h : Mine w base v zs) : ∃ A n c, v = .slice A n c ∧ IR w A n zs := by
  obtain ⟨A, c, e, r⟩ := h.slice
  exact ⟨A, _, c, e, r⟩
/- half of the steps, as the law reckons it -/
def halfOf (s : Int) : Int := s.tdiv 2
theorem half_parts (s : Int) : (0 ≤ halfOf s ∧ halfOf s ≤ s) ∨ (s ≤ halfOf s ∧ halfOf s ≤ 0) := by
  unfold halfOf
  rcases Int.le_total 0 s with h | h
  · left; rw [Int.tdiv_eq_ediv_of_nonneg h]; omega
  · right
    obtain ⟨k, rfl⟩ : ∃ k : Int, s = -k := ⟨-s, by omega⟩
    rw [Int.neg_tdiv, Int.tdiv_eq_ediv_of_nonneg (by omega)]; omega
theorem runQ_out {rule : Int} {a b : List Int} {s : Int} (h : runQ rule a b s = true) : ruleQ rule = true ∧ 3 ≤ a.length ∧ a.length ≤ 12 ∧ TwoBits a.length (a, b) ∧ -99 ≤ s ∧ s ≤ 99 := by
  simp only [runQ, Bool.and_eq_true] at h
  obtain ⟨l1, l2, tb⟩ := pair_bits h.1.2
  obtain ⟨s1, s2⟩ := stepsQ_iff.1 h.2
  exact ⟨h.1.1, l1, l2, tb, s1, s2⟩
theorem runQ_mk {rule : Int} {p : Two} {n : Nat} {s : Int} (hr : ruleQ rule = true) (h1 : 3 ≤ n) (h2 : n ≤ 12) (tb : TwoBits n p) (hs : -99 ≤ s ∧ s ≤ 99) : runQ rule p.1 p.2 s = true := by
  simp [runQ, hr, pairQ, ring_of_bits tb.1 h1 h2, ring_of_bits tb.2 h1 h2, tb.1.1, tb.2.1, stepsQ_iff.2 hs]
theorem ringRun_ok {rule : Int} {p : Two} {n : Nat} {s : Int} (hr : ruleQ rule = true) (h1 : 3 ≤ n) (h2 : n ≤ 12) (tb : TwoBits n p) (hs : -99 ≤ s ∧ s ≤ 99) : ringRun rule p.1 p.2 s = runTwo rule p s := by
  simp [ringRun, runQ_mk hr h1 h2 tb hs]
theorem run_law {rule : Int} {a b : List Int} {s : Int} (h : runQ rule a b s = true) :
    (ringRun rule a b s).1.length ≠ 0 ∧
    ringRun rule (ringRun rule a b s).1 (ringRun rule a b s).2 (-s) = (a, b) ∧
    ringRun rule (ringRun rule a b (halfOf s)).1 (ringRun rule a b (halfOf s)).2 (s - halfOf s) = ringRun rule a b s := by
  obtain ⟨hr, l1, l2, tb, s1, s2⟩ := runQ_out h
  have hh := half_parts s
  have e1 := ringRun_ok (s := s) hr l1 l2 tb ⟨s1, s2⟩
  have e2 := ringRun_ok (s := halfOf s) hr l1 l2 tb ⟨by omega, by omega⟩
  simp only at e1 e2
  have t1 := run_bits (rule := rule) tb s
  have t2 := run_bits (rule := rule) tb (halfOf s)
  rw [e1, e2, ringRun_ok hr l1 l2 t1 ⟨by omega, by omega⟩, ringRun_ok hr l1 l2 t2 ⟨by omega, by omega⟩]
  exact ⟨by rw [t1.1.1]; omega, run_back tb s, run_parts rule (a, b) s (halfOf s) hh⟩
theorem run_none {rule : Int} {a b : List Int} {s : Int} (h : runQ rule a b s = false) : ringRun rule a b s = ([], []) := by simp [ringRun, h]
theorem run_linear {rule : Int} {a b o : List Int} {s : Int} (h : runQ rule a b s = true) (hl : lin rule = true) (ho : ringQ o = true) (hn : o.length = b.length) :
    ringRun rule (ringAdd a o) (ringAdd b b) s = (ringAdd (ringRun rule a b s).1 (ringRun rule o b s).1, ringAdd (ringRun rule a b s).2 (ringRun rule o b s).2) := by
  obtain ⟨hr, l1, l2, tb, s1, s2⟩ := runQ_out h
  simp only [lin, Bool.and_eq_true] at hl
  have hab : b.length = a.length := tb.2.1
  have tq : TwoBits a.length (o, b) := ⟨by have := (ringQ_out ho).2.2; rw [hn, hab] at this; exact this, tb.2⟩
  have add_ok : ∀ {x y : List Int}, Bits a.length x → Bits a.length y → ringAdd x y = sum2 x y := fun {x y} hx hy => by
    simp [ringAdd, pairQ, ring_of_bits hx l1 l2, ring_of_bits hy l1 l2, hx.1, hy.1]
  have e1 := ringRun_ok (s := s) hr l1 l2 tb ⟨s1, s2⟩
  have e2 := ringRun_ok (s := s) hr l1 l2 tq ⟨s1, s2⟩
  simp only at e1 e2
  have t1 := run_bits (rule := rule) tb s
  have t2 := run_bits (rule := rule) tq s
  have ts : TwoBits a.length (sumTwo (a, b) (o, b)) := ⟨sum2_bits tb.1.1, sum2_bits tb.2.1⟩
  have e3 := ringRun_ok (s := s) hr l1 l2 ts ⟨s1, s2⟩
  rw [e1, e2, add_ok tb.1 tq.1, add_ok tb.2 tb.2, add_ok t1.1 t2.1, add_ok t1.2 t2.2]
  rw [show sum2 a o = (sumTwo (a, b) (o, b)).1 from rfl, show sum2 b b = (sumTwo (a, b) (o, b)).2 from rfl, e3, run_sum hl.2 (by omega) tb tq s]
  rfl
set_option maxRecDepth 100000 in
set_option maxHeartbeats 4000000 in
theorem walk_FnRingRun (Ap : Option Addr) (np cp : Nat) (zp : List Int) (Ar : Option Addr) (nr cr : Nat) (zr : List Int) (w : World) (hp : IRk .u8 w Ap np zp) (yp : ∀ z ∈ zp, (Lit.int .u8 z).wf = true) (dp : np ≤ cp) (hr : IRk .u8 w Ar nr zr) (yr : ∀ z ∈ zr, (Lit.int .u8 z).wf = true) (dr : nr ≤ cr) :
    Calls Try.prog 6 #[.slice Ap np cp, .slice Ar nr cr] w fun e w' => e = .returned (.bool true) ∧ Below w.heap.size w w' := by
  have maxp := hp.max
  have Hp := hide hp
  have Yp := hide yp
  clear hp yp
  have maxr := hr.max
  have Hr := hide hr
  have Yr := hide yr
  clear hr yr
  by_cases bigp : 1048576 < np
  · go_enter Try.func6, Try.ntmps6
    go_wp2_with fail
    go_ret
    exact ⟨rfl, Below.refl _ _⟩
  by_cases bigr : 1048576 < nr
  · go_enter Try.func6, Try.ntmps6
    go_wp2_with fail
    go_ret
    exact ⟨rfl, Below.refl _ _⟩
  go_enter Try.func6, Try.ntmps6
  have B0 := hide (Below.refl w.heap.size w)
  go_wp2_with fail
  refine (drawRingRun_any Ap np cp zp _ (Hp.out.below B0.out) Yp.out dp).mono ?_
  rintro e w1 ⟨⟨rule, s, va, vb, a, b, rfl, oa, ob, la, lb, s1, s2⟩, hb1⟩
  have B1 := hide (bseq B0.out hb1)
  clear hb1
  obtain ⟨Aa, na, ca, rfl, ra⟩ := oa.slice'
  have a_1 := hide ra
  clear oa ra
  obtain ⟨Ab, nb, cb, rfl, rb⟩ := ob.slice'
  have b_1 := hide rb
  clear ob rb
  have HLA := Lib.hid a_1.out.len
  have HLB := Lib.hid b_1.out.len
  obtain ⟨P, hP⟩ : ∃ P, P = ringRun rule a b s := ⟨_, rfl⟩
  have HP := Lib.hid hP.symm
  clear hP
  go_wp2_with fail
  refine (ringRun_any rule _ _ _ _ _ _ a b s _ a_1.out b_1.out).mono ?_
  rintro e w2 ⟨⟨vx, vy, rfl, ox, oy, _⟩, hb2⟩
  have B2 := hide (bseq B1.out hb2)
  have a_2 := hide (a_1.out.below hb2)
  have b_2 := hide (b_1.out.below hb2)
  clear hb2
  obtain ⟨Ax, nx, cx, rfl, rx⟩ := ox.slice'
  have x_2 := hide rx
  clear ox rx
  obtain ⟨Ay, ny, cy, rfl, ry⟩ := oy.slice'
  have y_2 := hide ry
  clear oy ry
  go_wp2_with fail
  refine (sRingRun_any rule _ _ _ _ _ _ a b s _ a_2.out b_2.out).mono ?_
  rintro e w3 ⟨⟨vu, vt, rfl, ou, ot, _⟩, hb3⟩
  have B3 := hide (bseq B2.out hb3)
  have a_3 := hide (a_2.out.below hb3)
  have b_3 := hide (b_2.out.below hb3)
  have x_3 := hide (x_2.out.below hb3)
  have y_3 := hide (y_2.out.below hb3)
  clear hb3
  obtain ⟨Au, nu, cu, rfl, ru⟩ := ou.slice'
  have u_3 := hide ru
  clear ou ru
  obtain ⟨At, nt, ct, rfl, rt⟩ := ot.slice'
  have t_3 := hide rt
  clear ot rt
  go_wp2_with fail
  refine (sameInts_any _ _ _ _ _ _ _ _ _ x_3.out u_3.out).mono ?_
  rintro e w4 ⟨rfl, q4, hq4⟩
  have hb4 : Below w3.heap.size w3 w4 := by rw [hq4]; exact below_drewN (Below.refl _ _) _
  clear hq4
  have B4 := hide (bseq B3.out hb4)
  have a_4 := hide (a_3.out.below hb4)
  have b_4 := hide (b_3.out.below hb4)
  have x_4 := hide (x_3.out.below hb4)
  have y_4 := hide (y_3.out.below hb4)
  have u_4 := hide (u_3.out.below hb4)
  have t_4 := hide (t_3.out.below hb4)
  clear hb4
  rw [beq_self_eq_true]
  go_wp2_with fail
  refine (sameInts_any _ _ _ _ _ _ _ _ _ y_4.out t_4.out).mono ?_
  rintro e w5 ⟨rfl, q5, hq5⟩
  have hb5 : Below w4.heap.size w4 w5 := by rw [hq5]; exact below_drewN (Below.refl _ _) _
  clear hq5
  have B5 := hide (bseq B4.out hb5)
  have a_5 := hide (a_4.out.below hb5)
  have b_5 := hide (b_4.out.below hb5)
  have x_5 := hide (x_4.out.below hb5)
  have y_5 := hide (y_4.out.below hb5)
  have u_5 := hide (u_4.out.below hb5)
  have t_5 := hide (t_4.out.below hb5)
  clear hb5
  rw [beq_self_eq_true]
  have HLX := Lib.hid x_5.out.len
  have HLY := Lib.hid y_5.out.len
  cases hq : runQ rule a b s
  · have e0 := run_none hq
    obtain rfl : nx = 0 := by have := HLX.out; rw [e0] at this; exact this.symm
    obtain rfl : ny = 0 := by have := HLY.out; rw [e0] at this; exact this.symm
    clear e0
    go_wp2_with (go_at_call 15; refine (alive_any _).mono ?_; rintro e w' ⟨rfl, rfl⟩)
    go_ret
    exact ⟨rfl, B5.out⟩
  · obtain ⟨w1_, w2_, w3_⟩ := run_law hq
    have ex : ((nx : Int) == 0) = false := by have := HLX.out; simp; omega
    have K2 := Lib.hid w2_
    have K3 := Lib.hid w3_
    obtain ⟨_, l1, l2, tb, t1, t2⟩ := runQ_out hq
    have TB := hide tb
    have HQ := hide hq
    clear w1_ w2_ w3_ tb hq
    have hh := half_parts s
    have d1 : -600 ≤ s.tdiv 2 := by unfold halfOf at hh; omega
    have d2 : s.tdiv 2 ≤ 600 := by unfold halfOf at hh; omega
    clear hh
    go_wp2_with fail
    refine (ringRun_any rule _ _ _ _ _ _ (ringRun rule a b s).1 (ringRun rule a b s).2 (-s) _ x_5.out y_5.out).mono ?_
    rintro e w6 ⟨⟨vc, vd, rfl, oc, od, _⟩, hb6⟩
    have B6 := hide (bseq B5.out hb6)
    have a_6 := hide (a_5.out.below hb6)
    have b_6 := hide (b_5.out.below hb6)
    have x_6 := hide (x_5.out.below hb6)
    have y_6 := hide (y_5.out.below hb6)
    clear hb6
    rw [K2.out] at oc od
    obtain ⟨Ac, nc, cc, rfl, rc⟩ := oc.slice'
    have c_6 := hide rc
    clear oc rc
    obtain ⟨Ad, nd, cd, rfl, rd⟩ := od.slice'
    have d_6 := hide rd
    clear od rd
    go_wp2_with fail
    refine (ringRun_any rule _ _ _ _ _ _ a b (halfOf s) _ a_6.out b_6.out).mono ?_
    rintro e w7 ⟨⟨ve, vf, rfl, oe, of, _⟩, hb7⟩
    have B7 := hide (bseq B6.out hb7)
    have a_7 := hide (a_6.out.below hb7)
    have b_7 := hide (b_6.out.below hb7)
    have x_7 := hide (x_6.out.below hb7)
    have y_7 := hide (y_6.out.below hb7)
    have c_7 := hide (c_6.out.below hb7)
    have d_7 := hide (d_6.out.below hb7)
    clear hb7
    obtain ⟨Ae, ne, ce, rfl, re⟩ := oe.slice'
    have e_7 := hide re
    clear oe re
    obtain ⟨Af, nf, cf, rfl, rf⟩ := of.slice'
    have f_7 := hide rf
    clear of rf
    go_wp2_with fail
    refine (ringRun_any rule _ _ _ _ _ _ (ringRun rule a b (halfOf s)).1 (ringRun rule a b (halfOf s)).2 (s - halfOf s) _ e_7.out f_7.out).mono ?_
    rintro e w8 ⟨⟨vg, vh, rfl, og, oh, _⟩, hb8⟩
    have B8 := hide (bseq B7.out hb8)
    have a_8 := hide (a_7.out.below hb8)
    have b_8 := hide (b_7.out.below hb8)
    have x_8 := hide (x_7.out.below hb8)
    have y_8 := hide (y_7.out.below hb8)
    have c_8 := hide (c_7.out.below hb8)
    have d_8 := hide (d_7.out.below hb8)
    have e_8 := hide (e_7.out.below hb8)
    have f_8 := hide (f_7.out.below hb8)
    clear hb8
    rw [K3.out] at og oh
    obtain ⟨Ag, ng, cg, rfl, rg⟩ := og.slice'
    have g_8 := hide rg
    clear og rg
    obtain ⟨Ah, nh, ch, rfl, rh⟩ := oh.slice'
    have h_8 := hide rh
    clear oh rh
    go_wp2_with fail
    refine (sameInts_any _ _ _ _ _ _ a a _ c_8.out a_8.out).mono ?_
    rintro e w9 ⟨rfl, q9, hq9⟩
    have hb9 : Below w8.heap.size w8 w9 := by rw [hq9]; exact below_drewN (Below.refl _ _) _
    clear hq9
    have B9 := hide (bseq B8.out hb9)
    have a_9 := hide (a_8.out.below hb9)
    have b_9 := hide (b_8.out.below hb9)
    have x_9 := hide (x_8.out.below hb9)
    have y_9 := hide (y_8.out.below hb9)
    have c_9 := hide (c_8.out.below hb9)
    have d_9 := hide (d_8.out.below hb9)
    have e_9 := hide (e_8.out.below hb9)
    have f_9 := hide (f_8.out.below hb9)
    have g_9 := hide (g_8.out.below hb9)
    have h_9 := hide (h_8.out.below hb9)
    clear hb9
    rw [beq_self_eq_true]
    go_wp2_with fail
    refine (sameInts_any _ _ _ _ _ _ b b _ d_9.out b_9.out).mono ?_
    rintro e w10 ⟨rfl, q10, hq10⟩
    have hb10 : Below w9.heap.size w9 w10 := by rw [hq10]; exact below_drewN (Below.refl _ _) _
    clear hq10
    have B10 := hide (bseq B9.out hb10)
    have a_10 := hide (a_9.out.below hb10)
    have b_10 := hide (b_9.out.below hb10)
    have x_10 := hide (x_9.out.below hb10)
    have y_10 := hide (y_9.out.below hb10)
    have c_10 := hide (c_9.out.below hb10)
    have d_10 := hide (d_9.out.below hb10)
    have e_10 := hide (e_9.out.below hb10)
    have f_10 := hide (f_9.out.below hb10)
    have g_10 := hide (g_9.out.below hb10)
    have h_10 := hide (h_9.out.below hb10)
    clear hb10
    rw [beq_self_eq_true]
    go_wp2_with fail
    refine (sameInts_any _ _ _ _ _ _ (ringRun rule a b s).1 (ringRun rule a b s).1 _ g_10.out x_10.out).mono ?_
    rintro e w11 ⟨rfl, q11, hq11⟩
    have hb11 : Below w10.heap.size w10 w11 := by rw [hq11]; exact below_drewN (Below.refl _ _) _
    clear hq11
    have B11 := hide (bseq B10.out hb11)
    have a_11 := hide (a_10.out.below hb11)
    have b_11 := hide (b_10.out.below hb11)
    have x_11 := hide (x_10.out.below hb11)
    have y_11 := hide (y_10.out.below hb11)
    have c_11 := hide (c_10.out.below hb11)
    have d_11 := hide (d_10.out.below hb11)
    have e_11 := hide (e_10.out.below hb11)
    have f_11 := hide (f_10.out.below hb11)
    have g_11 := hide (g_10.out.below hb11)
    have h_11 := hide (h_10.out.below hb11)
    clear hb11
    rw [beq_self_eq_true]
    go_wp2_with fail
    refine (sameInts_any _ _ _ _ _ _ (ringRun rule a b s).2 (ringRun rule a b s).2 _ h_11.out y_11.out).mono ?_
    rintro e w12 ⟨rfl, q12, hq12⟩
    have hb12 : Below w11.heap.size w11 w12 := by rw [hq12]; exact below_drewN (Below.refl _ _) _
    clear hq12
    have B12 := hide (bseq B11.out hb12)
    have a_12 := hide (a_11.out.below hb12)
    have b_12 := hide (b_11.out.below hb12)
    have x_12 := hide (x_11.out.below hb12)
    have y_12 := hide (y_11.out.below hb12)
    have c_12 := hide (c_11.out.below hb12)
    have d_12 := hide (d_11.out.below hb12)
    have e_12 := hide (e_11.out.below hb12)
    have f_12 := hide (f_11.out.below hb12)
    have g_12 := hide (g_11.out.below hb12)
    have h_12 := hide (h_11.out.below hb12)
    clear hb12
    rw [beq_self_eq_true]
    go_wp2_with fail
    refine (drawRingAdd_any Ar nr cr zr _ (Hr.out.below B12.out) Yr.out dr).mono ?_
    rintro e w13 ⟨⟨vo, vo2, o, o2, rfl, oo, oo2, lo, lo2⟩, hb13⟩
    have B13 := hide (bseq B12.out hb13)
    have a_13 := hide (a_12.out.below hb13)
    have b_13 := hide (b_12.out.below hb13)
    have x_13 := hide (x_12.out.below hb13)
    have y_13 := hide (y_12.out.below hb13)
    clear hb13
    obtain ⟨Ao, no, co, rfl, ro⟩ := oo.slice'
    have o_13 := hide ro
    clear oo ro
    clear oo2
    have HLO := Lib.hid o_13.out.len
    by_cases hn : no = nb
    · subst hn
      obtain ⟨ok, hok⟩ : ∃ ok, lin rule = ok := ⟨_, rfl⟩
      have HOK := Lib.hid hok
      clear hok
      have en : ((no : Int) != (no : Int)) = false := by simp
      go_wp2_with fail
      refine (ruleLin_b ok rule _ HOK.out).mono ?_
      rintro e w14 ⟨rfl, hb14⟩
      have B14 := hide (bseq B13.out hb14)
      have a_14 := hide (a_13.out.below hb14)
      have b_14 := hide (b_13.out.below hb14)
      have x_14 := hide (x_13.out.below hb14)
      have y_14 := hide (y_13.out.below hb14)
      have o_14 := hide (o_13.out.below hb14)
      clear hb14
      cases ok
      · go_wp2_with fail
        go_ret
        exact ⟨rfl, B14.out⟩
      · cases hro : ringQ o
        · go_wp2_with fail
          refine (sRingValid_b false _ _ _ o hro _ o_14.out).mono ?_
          rintro e w' ⟨rfl, rfl⟩
          go_wp2_with fail
          go_ret
          exact ⟨rfl, B14.out⟩
        · go_wp2_with fail
          refine (sRingValid_b true _ _ _ o hro _ o_14.out).mono ?_
          rintro e w' ⟨rfl, rfl⟩
          have KL := Lib.hid (run_linear HQ.out HOK.out hro (by rw [HLO.out, HLB.out]))
          go_wp2_with fail
          refine (ringRun_any rule _ _ _ _ _ _ o b s _ o_14.out b_14.out).mono ?_
          rintro e w15 ⟨⟨vi, vj, rfl, oi, oj, _⟩, hb15⟩
          have B15 := hide (bseq B14.out hb15)
          have a_15 := hide (a_14.out.below hb15)
          have b_15 := hide (b_14.out.below hb15)
          have x_15 := hide (x_14.out.below hb15)
          have y_15 := hide (y_14.out.below hb15)
          have o_15 := hide (o_14.out.below hb15)
          clear hb15
          obtain ⟨Ai, ni, ci, rfl, ri⟩ := oi.slice'
          have i_15 := hide ri
          clear oi ri
          obtain ⟨Aj, nj, cj, rfl, rj⟩ := oj.slice'
          have j_15 := hide rj
          clear oj rj
          go_wp2_with fail
          refine (ringAdd_any _ _ _ _ _ _ a o _ a_15.out o_15.out).mono ?_
          rintro e w16 ⟨⟨vk, rfl, ok⟩, hb16⟩
          have B16 := hide (bseq B15.out hb16)
          have a_16 := hide (a_15.out.below hb16)
          have b_16 := hide (b_15.out.below hb16)
          have x_16 := hide (x_15.out.below hb16)
          have y_16 := hide (y_15.out.below hb16)
          have o_16 := hide (o_15.out.below hb16)
          have i_16 := hide (i_15.out.below hb16)
          have j_16 := hide (j_15.out.below hb16)
          clear hb16
          obtain ⟨Ak, nk, ck, rfl, rk⟩ := ok.slice'
          have k_16 := hide rk
          clear ok rk
          go_wp2_with fail
          refine (ringAdd_any _ _ _ _ _ _ b b _ b_16.out b_16.out).mono ?_
          rintro e w17 ⟨⟨vl, rfl, ol⟩, hb17⟩
          have B17 := hide (bseq B16.out hb17)
          have a_17 := hide (a_16.out.below hb17)
          have b_17 := hide (b_16.out.below hb17)
          have x_17 := hide (x_16.out.below hb17)
          have y_17 := hide (y_16.out.below hb17)
          have o_17 := hide (o_16.out.below hb17)
          have i_17 := hide (i_16.out.below hb17)
          have j_17 := hide (j_16.out.below hb17)
          have k_17 := hide (k_16.out.below hb17)
          clear hb17
          obtain ⟨Al, nl, cl, rfl, rl⟩ := ol.slice'
          have l_17 := hide rl
          clear ol rl
          go_wp2_with fail
          refine (ringRun_any rule _ _ _ _ _ _ (ringAdd a o) (ringAdd b b) s _ k_17.out l_17.out).mono ?_
          rintro e w18 ⟨⟨vm, vn, rfl, om, on, _⟩, hb18⟩
          have B18 := hide (bseq B17.out hb18)
          have a_18 := hide (a_17.out.below hb18)
          have b_18 := hide (b_17.out.below hb18)
          have x_18 := hide (x_17.out.below hb18)
          have y_18 := hide (y_17.out.below hb18)
          have o_18 := hide (o_17.out.below hb18)
          have i_18 := hide (i_17.out.below hb18)
          have j_18 := hide (j_17.out.below hb18)
          have k_18 := hide (k_17.out.below hb18)
          have l_18 := hide (l_17.out.below hb18)
          clear hb18
          rw [KL.out] at om on
          obtain ⟨Am, nm, cm, rfl, rm⟩ := om.slice'
          have m_18 := hide rm
          clear om rm
          obtain ⟨An, nn, cn, rfl, rn⟩ := on.slice'
          have n_18 := hide rn
          clear on rn
          go_wp2_with fail
          refine (ringAdd_any _ _ _ _ _ _ (ringRun rule a b s).1 (ringRun rule o b s).1 _ x_18.out i_18.out).mono ?_
          rintro e w19 ⟨⟨vq, rfl, oq⟩, hb19⟩
          have B19 := hide (bseq B18.out hb19)
          have a_19 := hide (a_18.out.below hb19)
          have b_19 := hide (b_18.out.below hb19)
          have x_19 := hide (x_18.out.below hb19)
          have y_19 := hide (y_18.out.below hb19)
          have o_19 := hide (o_18.out.below hb19)
          have i_19 := hide (i_18.out.below hb19)
          have j_19 := hide (j_18.out.below hb19)
          have k_19 := hide (k_18.out.below hb19)
          have l_19 := hide (l_18.out.below hb19)
          have m_19 := hide (m_18.out.below hb19)
          have n_19 := hide (n_18.out.below hb19)
          clear hb19
          obtain ⟨Aq, nq, cq, rfl, rq⟩ := oq.slice'
          have q_19 := hide rq
          clear oq rq
          go_wp2_with fail
          refine (sameInts_any _ _ _ _ _ _ (ringAdd (ringRun rule a b s).1 (ringRun rule o b s).1) (ringAdd (ringRun rule a b s).1 (ringRun rule o b s).1) _ m_19.out q_19.out).mono ?_
          rintro e w20 ⟨rfl, q20, hq20⟩
          have hb20 : Below w19.heap.size w19 w20 := by rw [hq20]; exact below_drewN (Below.refl _ _) _
          clear hq20
          have B20 := hide (bseq B19.out hb20)
          have a_20 := hide (a_19.out.below hb20)
          have b_20 := hide (b_19.out.below hb20)
          have x_20 := hide (x_19.out.below hb20)
          have y_20 := hide (y_19.out.below hb20)
          have o_20 := hide (o_19.out.below hb20)
          have i_20 := hide (i_19.out.below hb20)
          have j_20 := hide (j_19.out.below hb20)
          have k_20 := hide (k_19.out.below hb20)
          have l_20 := hide (l_19.out.below hb20)
          have m_20 := hide (m_19.out.below hb20)
          have n_20 := hide (n_19.out.below hb20)
          have q_20 := hide (q_19.out.below hb20)
          clear hb20
          rw [beq_self_eq_true]
          go_wp2_with fail
          refine (ringAdd_any _ _ _ _ _ _ (ringRun rule a b s).2 (ringRun rule o b s).2 _ y_20.out j_20.out).mono ?_
          rintro e w21 ⟨⟨vr, rfl, or_⟩, hb21⟩
          have B21 := hide (bseq B20.out hb21)
          have a_21 := hide (a_20.out.below hb21)
          have b_21 := hide (b_20.out.below hb21)
          have x_21 := hide (x_20.out.below hb21)
          have y_21 := hide (y_20.out.below hb21)
          have o_21 := hide (o_20.out.below hb21)
          have i_21 := hide (i_20.out.below hb21)
          have j_21 := hide (j_20.out.below hb21)
          have k_21 := hide (k_20.out.below hb21)
          have l_21 := hide (l_20.out.below hb21)
          have m_21 := hide (m_20.out.below hb21)
          have n_21 := hide (n_20.out.below hb21)
          have q_21 := hide (q_20.out.below hb21)
          clear hb21
          obtain ⟨Ar_, nr_, cr_, rfl, rr⟩ := or_.slice'
          have r_21 := hide rr
          clear or_ rr
          go_wp2_with fail
          refine (sameInts_any _ _ _ _ _ _ (ringAdd (ringRun rule a b s).2 (ringRun rule o b s).2) (ringAdd (ringRun rule a b s).2 (ringRun rule o b s).2) _ n_21.out r_21.out).mono ?_
          rintro e w22 ⟨rfl, q22, hq22⟩
          have hb22 : Below w21.heap.size w21 w22 := by rw [hq22]; exact below_drewN (Below.refl _ _) _
          clear hq22
          have B22 := hide (bseq B21.out hb22)
          have a_22 := hide (a_21.out.below hb22)
          have b_22 := hide (b_21.out.below hb22)
          have x_22 := hide (x_21.out.below hb22)
          have y_22 := hide (y_21.out.below hb22)
          have o_22 := hide (o_21.out.below hb22)
          have i_22 := hide (i_21.out.below hb22)
          have j_22 := hide (j_21.out.below hb22)
          have k_22 := hide (k_21.out.below hb22)
          have l_22 := hide (l_21.out.below hb22)
          have m_22 := hide (m_21.out.below hb22)
          have n_22 := hide (n_21.out.below hb22)
          have q_22 := hide (q_21.out.below hb22)
          have r__22 := hide (r_21.out.below hb22)
          clear hb22
          rw [beq_self_eq_true]
          go_wp2_with fail
          go_ret
          exact ⟨rfl, B22.out⟩
    · have en : ((no : Int) != (nb : Int)) = true := by simp; omega
      go_wp2_with fail
      go_ret
      exact ⟨rfl, B13.out⟩
end Go.Proofs.Ytefkbjccgajbiaa
