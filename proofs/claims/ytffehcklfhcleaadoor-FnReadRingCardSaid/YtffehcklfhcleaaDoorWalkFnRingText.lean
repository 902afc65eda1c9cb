/-
  The walk of the law FnRingText: it returns true at every input, and turns nothing that was there.
  No condition.
-/
import Derived.Test.YtffehcklfhcleaaDoorDrawReadRing
import Derived.Test.YtffehcklfhcleaaDoorReadRing
namespace Go.Proofs.YtffehcklfhcleaaDoor
open Go.RowKit Go.Sort base
theorem vals_digs {zs : List Int} (h : ringQ zs = true) : vals ⟨(digs zs).toArray⟩ = zs := by
  have hz := ring_digit h
  unfold vals digs
  simp only [List.map_map]
  conv => rhs; rw [← List.map_id zs]
  apply List.map_congr_left
  intro z hzz
  have := hz z hzz
  show ((dig z).toNat : Int) - 48 = z
  obtain ⟨k, rfl⟩ := Int.eq_ofNat_of_zero_le this.1
  simp [dig]
  omega
theorem ringStr_ok {zs : List Int} (h : ringQ zs = true) : readR (ringStr zs) = zs ∧ ringQ (vals (ringStr zs)) = true ∧ ¬ ringStr zs = ⟨#[]⟩ ∧ (ringStr zs).size ≤ 100 := by
  have e : ringStr zs = ⟨(digs zs).toArray⟩ := by simp [ringStr, h]
  have e2 : vals (ringStr zs) = zs := by rw [e, vals_digs h]
  have hl := (ringQ_iff.1 h).2.1
  refine ⟨by rw [readR, e2, h]; rfl, by rw [e2]; exact h, fun h0 => ?_, ?_⟩
  · rw [h0] at e2; rw [← e2] at h; cases h
  · rw [e]; show (digs zs).toArray.size ≤ 100; simp [digs]; omega
theorem ringStr_no {zs : List Int} (h : ringQ zs = false) : ringStr zs = ⟨#[]⟩ := by simp [ringStr, h]
set_option maxRecDepth 100000 in
set_option maxHeartbeats 4000000 in
theorem walk_FnRingText (Ap : Option Addr) (np cp : Nat) (zp : List Int) (w : World) (hp : IRk .u8 w Ap np zp) (yp : ∀ z ∈ zp, (Lit.int .u8 z).wf = true) (dp : np ≤ cp) :
    Calls Tryd.prog 4 #[.slice Ap np cp] w fun e w' => e = .returned (.bool true) ∧ Below w.heap.size w w' := by
  have maxp := hp.max
  have Hp := hide hp
  have Yp := hide yp
  clear hp yp
  by_cases bigp : 1048576 < np
  · go_enter Tryd.func4, Tryd.ntmps4
    go_wp2_with fail
    go_ret
    exact ⟨rfl, Below.refl _ _⟩
  go_enter Tryd.func4, Tryd.ntmps4
  have B0 := hide (Below.refl w.heap.size w)
  go_wp2_with fail
  refine (drawRingText_b Ap np cp zp _ (Hp.out.below B0.out) Yp.out dp).mono ?_
  rintro e w1 ⟨⟨va, a, rfl, oa, la⟩, hb1⟩
  have B1 := hide (bseq B0.out hb1)
  clear hb1
  obtain ⟨Aa, na, ca, rfl, ra⟩ := oa.slice'
  have a_1 := hide ra
  clear oa ra
  go_wp2_with fail
  refine (ringText_any _ _ _ a _ a_1.out).mono ?_
  rintro e w2 ⟨rfl, hb2⟩
  have B2 := hide (bseq B1.out hb2)
  have a_2 := hide (a_1.out.below hb2)
  clear hb2
  go_wp2_with fail
  refine (sRingText_any _ _ _ a _ a_2.out).mono ?_
  rintro e w3 ⟨rfl, hb3⟩
  have B3 := hide (bseq B2.out hb3)
  have a_3 := hide (a_2.out.below hb3)
  clear hb3
  cases hq : ringQ a
  · rw [ringStr_no hq]
    have HQ := Lib.hid hq
    clear hq
    go_wp2_with fail
    refine (ringValid_b false _ _ _ _ HQ.out _ a_3.out).mono ?_
    rintro e w' ⟨rfl, rfl⟩
    go_wp2_with (go_at_call 12; refine (alive_any _).mono ?_; rintro e w' ⟨rfl, rfl⟩)
    go_ret
    exact ⟨by first | rfl | (simp; omega) | simp, B3.out⟩
  · obtain ⟨k1, k2, k3, k4⟩ := ringStr_ok hq
    have K1 := Lib.hid k1
    have K2 := Lib.hid k2
    obtain ⟨X, hX⟩ : ∃ X, ringStr a = X := ⟨_, rfl⟩
    rw [hX] at K1 K2 k3 k4
    rw [hX]
    have k5 := list_nil k3
    have k6 : X.toList.isEmpty = false := by simpa using k5
    clear hX k1 k2 k3 hq
    go_wp2_with fail
    refine (readRing_any X _ (by omega)).mono ?_
    rintro e w4 ⟨⟨vx, rfl, ox⟩, hb4⟩
    have B4 := hide (bseq B3.out hb4)
    have a_4 := hide (a_3.out.below hb4)
    clear hb4
    rw [K1.out] at ox
    rw [K2.out]
    obtain ⟨Ax, nx, cx, rfl, rx⟩ := ox.slice'
    have x_4 := hide rx
    clear ox rx
    go_wp2_with fail
    refine (sameInts_any _ _ _ _ _ _ _ _ _ x_4.out a_4.out).mono ?_
    rintro e w5 ⟨rfl, q5, hq5⟩
    have hb5 : Below w4.heap.size w4 w5 := by rw [hq5]; exact below_drewN (Below.refl _ _) _
    clear hq5
    have B5 := hide (bseq B4.out hb5)
    have a_5 := hide (a_4.out.below hb5)
    have x_5 := hide (x_4.out.below hb5)
    clear hb5
    rw [beq_self_eq_true]
    go_wp2_with fail
    go_ret
    exact ⟨by first | rfl | (simp; omega) | simp, B5.out⟩
end Go.Proofs.YtffehcklfhcleaaDoor
