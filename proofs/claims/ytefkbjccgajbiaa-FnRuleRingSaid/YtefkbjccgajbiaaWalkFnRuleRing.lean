/-
  The walk of the law FnRuleRing: it returns true at every input, and turns nothing that was there.
  No condition.
-/
import Derived.Test.YtefkbjccgajbiaaBackwards
import Derived.Test.YtefkbjccgajbiaaDrawRings
namespace Go.Proofs.Ytefkbjccgajbiaa
open Go.RowKit Go.Sort base
theorem ringQ_shift {z : List Int} (h : ringQ z = true) : ringQ (shift z 1) = true := by
  rw [ringQ_iff] at h ⊢
  obtain ⟨h1, h2, h3⟩ := h
  have e : (shift z 1).length = z.length := tab_len _ _
  rw [e]
  refine ⟨h1, h2, e, fun k hk => ?_⟩
  rw [shift, tab_nth hk]
  exact h3.2 _ (Nat.mod_lt _ (by omega))
theorem ringQ_flip {z : List Int} (h : ringQ z = true) : ringQ (flip z) = true := by
  rw [ringQ_iff] at h ⊢
  obtain ⟨h1, h2, h3⟩ := h
  have e : (flip z).length = z.length := by simp [flip]
  rw [e]
  refine ⟨h1, h2, e, fun k hk => ?_⟩
  rw [flip_nth hk]
  exact h3.2 _ (by omega)
theorem ringQ_ruled {rule : Int} {z : List Int} (h : ringQ z = true) : ringQ (ruled rule z) = true := by
  rw [ringQ_iff] at h ⊢
  obtain ⟨h1, h2, h3⟩ := h
  have b := ruled_bits (n := z.length) (rule := rule) (z := z) rfl
  rw [b.1]
  exact ⟨h1, h2, b⟩
theorem rule_laws {rule : Int} {z : List Int} (h : ruleQ rule = true) (hz : ringQ z = true) :
    ruleRing rule (ringShift1 z) = ringShift1 (ruleRing rule z) ∧ ruleRing (ruleFlip rule) (ringFlip z) = ringFlip (ruleRing rule z) ∧ ringQ (ruleRing rule z) = true ∧ 3 ≤ (ruleRing rule z).length := by
  have e : ruleRing rule z = ruled rule z := by simp [ruleRing, h, hz]
  obtain ⟨h1, h2, h3⟩ := ringQ_iff.1 hz
  have hr := ringQ_ruled (rule := rule) hz
  rw [e]
  refine ⟨?_, ?_, hr, (ringQ_iff.1 hr).1⟩
  · simp only [ringShift1, hz, hr, if_true, ruleRing, h, ringQ_shift hz, Bool.and_self]
    exact ruled_shift h1
  · simp only [ringFlip, hz, hr, if_true, ruleRing, ruleQ_flip h, ringQ_flip hz, Bool.and_self]
    exact ruled_flip h1 h3 h
set_option maxRecDepth 100000 in
set_option maxHeartbeats 4000000 in
theorem walk_FnRuleRing (Ap : Option Addr) (np cp : Nat) (zp : List Int) (w : World) (hp : IRk .u8 w Ap np zp) (yp : ∀ z ∈ zp, (Lit.int .u8 z).wf = true) (dp : np ≤ cp) :
    Calls Try.prog 5 #[.slice Ap np cp] w fun e w' => e = .returned (.bool true) ∧ Below w.heap.size w w' := by
  have maxp := hp.max
  have Hp := hide hp
  have Yp := hide yp
  clear hp yp
  by_cases bigp : 1048576 < np
  · go_enter Try.func5, Try.ntmps5
    go_wp2_with fail
    go_ret
    exact ⟨rfl, Below.refl _ _⟩
  go_enter Try.func5, Try.ntmps5
  have B0 := hide (Below.refl w.heap.size w)
  go_wp2_with fail
  refine (drawRuleRing_any Ap np cp zp _ (Hp.out.below B0.out) Yp.out dp).mono ?_
  rintro e w1 ⟨⟨rule, va, a, rfl, oa, la⟩, hb1⟩
  have B1 := hide (bseq B0.out hb1)
  clear hb1
  obtain ⟨Aa, na, ca, rfl, ra⟩ := oa.slice'
  have a_1 := hide ra
  clear oa ra
  go_wp2_with fail
  refine (ruleRing_any rule _ _ _ a _ a_1.out).mono ?_
  rintro e w2 ⟨⟨vx, rfl, ox⟩, hb2⟩
  have B2 := hide (bseq B1.out hb2)
  have a_2 := hide (a_1.out.below hb2)
  clear hb2
  obtain ⟨Ax, nx, cx, rfl, rx⟩ := ox.slice'
  have x_2 := hide rx
  clear ox rx
  go_wp2_with fail
  refine (sRuleRing_any rule _ _ _ a _ a_2.out).mono ?_
  rintro e w3 ⟨⟨vs, rfl, os⟩, hb3⟩
  have B3 := hide (bseq B2.out hb3)
  have a_3 := hide (a_2.out.below hb3)
  have x_3 := hide (x_2.out.below hb3)
  clear hb3
  obtain ⟨As, ns, cs, rfl, rs⟩ := os.slice'
  have s_3 := hide rs
  clear os rs
  go_wp2_with fail
  refine (sameInts_any _ _ _ _ _ _ _ _ _ x_3.out s_3.out).mono ?_
  rintro e w4 ⟨rfl, q4, hq4⟩
  have hb4 : Below w3.heap.size w3 w4 := by rw [hq4]; exact below_drewN (Below.refl _ _) _
  clear hq4
  have B4 := hide (bseq B3.out hb4)
  have a_4 := hide (a_3.out.below hb4)
  have x_4 := hide (x_3.out.below hb4)
  have s_4 := hide (s_3.out.below hb4)
  clear hb4
  rw [beq_self_eq_true]
  have HLX := Lib.hid x_4.out.len
  cases hq : ruleQ rule && ringQ a
  · obtain rfl : nx = 0 := by have := HLX.out; simp only [ruleRing, hq, Bool.false_eq_true, if_false, List.length_nil] at this; exact this.symm
    go_wp2_with (go_at_call 15; refine (alive_any _).mono ?_; rintro e w' ⟨rfl, rfl⟩)
    go_ret
    exact ⟨by first | rfl | (simp; omega) | simp, B4.out⟩
  · rw [Bool.and_eq_true] at hq
    obtain ⟨h1, h2⟩ := hq
    obtain ⟨k1, k2, k3, k4⟩ := rule_laws h1 h2
    have K1 := Lib.hid k1
    have K2 := Lib.hid k2
    have K3 := Lib.hid k3
    have H1 := Lib.hid h1
    have ex : ((nx : Int) == 0) = false := by have := HLX.out; simp; omega
    clear k1 k2 k3 k4 h1 h2
    go_wp2_with fail
    refine (ringShift1_any _ _ _ a _ a_4.out).mono ?_
    rintro e w5 ⟨⟨vb, rfl, ob⟩, hb5⟩
    have B5 := hide (bseq B4.out hb5)
    have a_5 := hide (a_4.out.below hb5)
    have x_5 := hide (x_4.out.below hb5)
    clear hb5
    obtain ⟨Ab, nb, cb, rfl, rb⟩ := ob.slice'
    have b_5 := hide rb
    clear ob rb
    go_wp2_with fail
    refine (ruleRing_any rule _ _ _ (ringShift1 a) _ b_5.out).mono ?_
    rintro e w6 ⟨⟨vc, rfl, oc⟩, hb6⟩
    have B6 := hide (bseq B5.out hb6)
    have a_6 := hide (a_5.out.below hb6)
    have x_6 := hide (x_5.out.below hb6)
    have b_6 := hide (b_5.out.below hb6)
    clear hb6
    rw [K1.out] at oc
    obtain ⟨Ac, nc, cc, rfl, rc⟩ := oc.slice'
    have c_6 := hide rc
    clear oc rc
    go_wp2_with fail
    refine (ringShift1_any _ _ _ (ruleRing rule a) _ x_6.out).mono ?_
    rintro e w7 ⟨⟨vd, rfl, od⟩, hb7⟩
    have B7 := hide (bseq B6.out hb7)
    have a_7 := hide (a_6.out.below hb7)
    have x_7 := hide (x_6.out.below hb7)
    have b_7 := hide (b_6.out.below hb7)
    have c_7 := hide (c_6.out.below hb7)
    clear hb7
    obtain ⟨Ad, nd, cd, rfl, rd⟩ := od.slice'
    have d_7 := hide rd
    clear od rd
    go_wp2_with fail
    refine (sameInts_any _ _ _ _ _ _ _ _ _ c_7.out d_7.out).mono ?_
    rintro e w8 ⟨rfl, q8, hq8⟩
    have hb8 : Below w7.heap.size w7 w8 := by rw [hq8]; exact below_drewN (Below.refl _ _) _
    clear hq8
    have B8 := hide (bseq B7.out hb8)
    have a_8 := hide (a_7.out.below hb8)
    have x_8 := hide (x_7.out.below hb8)
    have b_8 := hide (b_7.out.below hb8)
    have c_8 := hide (c_7.out.below hb8)
    have d_8 := hide (d_7.out.below hb8)
    clear hb8
    rw [beq_self_eq_true]
    go_wp2_with fail
    refine (ruleFlip_any rule _ H1.out).mono ?_
    rintro e w' ⟨rfl, rfl⟩
    go_wp2_with fail
    refine (ringFlip_any _ _ _ a _ a_8.out).mono ?_
    rintro e w9 ⟨⟨ve, rfl, oe⟩, hb9⟩
    have B9 := hide (bseq B8.out hb9)
    have a_9 := hide (a_8.out.below hb9)
    have x_9 := hide (x_8.out.below hb9)
    clear hb9
    obtain ⟨Ae, ne, ce, rfl, re⟩ := oe.slice'
    have e_9 := hide re
    clear oe re
    go_wp2_with fail
    refine (ruleRing_any (ruleFlip rule) _ _ _ (ringFlip a) _ e_9.out).mono ?_
    rintro e w10 ⟨⟨vf, rfl, of⟩, hb10⟩
    have B10 := hide (bseq B9.out hb10)
    have a_10 := hide (a_9.out.below hb10)
    have x_10 := hide (x_9.out.below hb10)
    have e_10 := hide (e_9.out.below hb10)
    clear hb10
    rw [K2.out] at of
    obtain ⟨Af, nf, cf, rfl, rf⟩ := of.slice'
    have f_10 := hide rf
    clear of rf
    go_wp2_with fail
    refine (ringFlip_any _ _ _ (ruleRing rule a) _ x_10.out).mono ?_
    rintro e w11 ⟨⟨vg, rfl, og⟩, hb11⟩
    have B11 := hide (bseq B10.out hb11)
    have a_11 := hide (a_10.out.below hb11)
    have x_11 := hide (x_10.out.below hb11)
    have e_11 := hide (e_10.out.below hb11)
    have f_11 := hide (f_10.out.below hb11)
    clear hb11
    obtain ⟨Ag, ng, cg, rfl, rg⟩ := og.slice'
    have g_11 := hide rg
    clear og rg
    go_wp2_with fail
    refine (sameInts_any _ _ _ _ _ _ _ _ _ f_11.out g_11.out).mono ?_
    rintro e w12 ⟨rfl, q12, hq12⟩
    have hb12 : Below w11.heap.size w11 w12 := by rw [hq12]; exact below_drewN (Below.refl _ _) _
    clear hq12
    have B12 := hide (bseq B11.out hb12)
    have a_12 := hide (a_11.out.below hb12)
    have x_12 := hide (x_11.out.below hb12)
    have e_12 := hide (e_11.out.below hb12)
    have f_12 := hide (f_11.out.below hb12)
    have g_12 := hide (g_11.out.below hb12)
    clear hb12
    rw [beq_self_eq_true]
    go_wp2_with fail
    refine (ringValid_b true _ _ _ _ K3.out _ x_12.out).mono ?_
    rintro e w' ⟨rfl, rfl⟩
    go_wp2_with fail
    go_ret
    exact ⟨by first | rfl | (simp; omega) | simp, B12.out⟩
end Go.Proofs.Ytefkbjccgajbiaa
