/-
  The walk of the law FnFuncText: it returns true at every input, and turns nothing that was there.
  No condition.
-/
import Derived.Test.YtokcappgaokeaaaDoorDrawFunc
import Derived.Test.YtokcappgaokeaaaDoorReadF
namespace Go.Proofs.YtokcappgaokeaaaDoor
open Go.RowKit Go.Sort base
theorem Mine.slice' {w : World} {base : Nat} {v : Value} {zs : List Int} (h : Mine w base v zs) : ∃ A n c, v = .slice A n c ∧ IR w A n zs := by
  obtain ⟨A, c, e, h⟩ := h.slice
  exact ⟨A, _, c, e, h⟩
theorem fnText_no {i o : Int} {f : List Int} (h : fnOk i o f = false) : funcStr i o f = ⟨#[]⟩ := by simp [funcStr, h]
theorem fnText_ok {i o : Int} {f : List Int} (h : fnOk i o f = true) : readF i o (funcStr i o f) = f ∧ readOk i o (funcStr i o f) = true ∧ ¬ funcStr i o f = ⟨#[]⟩ ∧ (funcStr i o f).size ≤ 400 := by
  have e : funcStr i o f = joinZ f comma := by simp [funcStr, h]
  obtain ⟨h1, h2, h3⟩ := fn_num h
  have hp := parts_fn h
  have hn : nums (joinZ f comma) = f := by
    unfold nums
    rw [hp]
    exact digV_itoa _ h3
  have hne : ¬ joinZ f comma = ⟨#[]⟩ := fun e => by
    have : (parts (joinZ f comma).data.toList).length = 1 := by rw [e]; rfl
    rw [hp, List.length_map] at this
    omega
  have hr : readOk i o (joinZ f comma) = true := by
    unfold readOk
    rw [hn]
    simp only [decide_eq_true_eq]
    exact ⟨hne, e⟩
  have hs := joinZ_size f (fn_wf h)
  rw [e]
  exact ⟨by unfold readF; rw [hr, if_pos rfl, hn], hr, hne, by omega⟩
set_option maxRecDepth 100000 in
set_option maxHeartbeats 4000000 in
theorem walk_FnFuncText (Ap : Option Addr) (np cp : Nat) (zp : List Int) (w : World) (hp : IRk .u8 w Ap np zp) (yp : ∀ z ∈ zp, (Lit.int .u8 z).wf = true) (dp : np ≤ cp) (ht : Tens w) (he : Errs w) :
    Calls Tryd.prog 4 #[.slice Ap np cp] w fun e w' => e = .returned (.bool true) ∧ Below w.heap.size w w' := by
  have maxp := hp.max
  have Hp := hide hp
  have Yp := hide yp
  have HT := hide ht
  have HE := hide he
  clear hp yp ht he
  by_cases bigp : 1048576 < np
  · go_enter Tryd.func4, Tryd.ntmps4
    go_wp2_with fail
    go_ret
    exact ⟨rfl, Below.refl _ _⟩
  go_enter Tryd.func4, Tryd.ntmps4
  have B0 := hide (Below.refl w.heap.size w)
  go_wp2_with fail
  refine (drawFuncText_any Ap np cp zp _ (Hp.out.below B0.out) Yp.out dp).mono ?_
  rintro e w1 ⟨⟨i, o, va, a, rfl, oa, la, hio⟩, hb1⟩
  have B1 := hide (bseq B0.out hb1)
  clear hb1
  obtain ⟨Aa, na, ca, rfl, ra⟩ := oa.slice'
  have a_1 := hide ra
  clear oa ra
  go_wp2_with fail
  refine (funcText_any i o _ _ _ a _ a_1.out (HT.out.below B1.out)).mono ?_
  rintro e w2 ⟨rfl, hb2⟩
  have B2 := hide (bseq B1.out hb2)
  have a_2 := hide (a_1.out.below hb2)
  clear hb2
  go_wp2_with fail
  refine (sFuncText_any i o _ _ _ a _ a_2.out).mono ?_
  rintro e w3 ⟨rfl, hb3⟩
  have B3 := hide (bseq B2.out hb3)
  have a_3 := hide (a_2.out.below hb3)
  clear hb3
  cases hq : fnOk i o a
  · rw [fnText_no hq]
    have HQ := Lib.hid hq
    clear hq
    go_wp2_with fail
    refine (funcValid_b false i o _ _ _ a _ a_3.out HQ.out).mono ?_
    rintro e w4 ⟨rfl, hb4⟩
    have B4 := hide (bseq B3.out hb4)
    have a_4 := hide (a_3.out.below hb4)
    clear hb4
    go_wp2_with (go_at_call 16; refine (alive_any _).mono ?_; rintro e w' ⟨rfl, rfl⟩)
    go_ret
    exact ⟨by first | rfl | (simp; omega) | simp, B4.out⟩
  · obtain ⟨k1, k2, k3, k4⟩ := fnText_ok hq
    have K1 := Lib.hid k1
    have K2 := Lib.hid k2
    obtain ⟨X, hX⟩ : ∃ X, funcStr i o a = X := ⟨_, rfl⟩
    rw [hX] at K1 K2 k3 k4
    rw [hX]
    have k5 := list_nil k3
    have k6 : X.toList.isEmpty = false := by simpa using k5
    clear hX k1 k2 k3 hq
    go_wp2_with fail
    refine (readB true i o X _ (by omega) K2.out (HT.out.below B3.out) (HE.out.below B3.out)).mono ?_
    rintro e w4 ⟨⟨vx, rfl, ox⟩, hb4⟩
    have B4 := hide (bseq B3.out hb4)
    have a_4 := hide (a_3.out.below hb4)
    clear hb4
    rw [K1.out] at ox
    obtain ⟨Ax, nx, cx, rfl, rx⟩ := ox.slice'
    have x_4 := hide rx
    clear ox rx
    go_wp2_with fail
    refine (sameInts_any _ _ _ _ _ _ _ _ _ x_4.out a_4.out).mono ?_
    rintro e w5 ⟨rfl, q5, hq5⟩
    have hb5 : Below w4.heap.size w4 w5 := by rw [hq5]; exact below_drewN (Below.refl _ _) _
    clear hq5
    have B5 := hide (bseq B4.out hb5)
    have a_5 := hide (a_4.out.below hb5)
    have x_5 := hide (x_4.out.below hb5)
    clear hb5
    rw [beq_self_eq_true]
    go_wp2_with fail
    go_ret
    exact ⟨by first | rfl | (simp; omega) | simp, B5.out⟩
end Go.Proofs.YtokcappgaokeaaaDoor
