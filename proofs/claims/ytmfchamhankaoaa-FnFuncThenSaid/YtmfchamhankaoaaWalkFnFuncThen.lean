/-
  The walk of the law FnFuncThen: it returns true at every input, and turns nothing that was there.
  No condition.
-/
import Derived.Test.YtmfchamhankaoaaMostLaw
import Derived.Test.YtmfchamhankaoaaThen
import Derived.Test.YtmfchamhankaoaaDrawFunc
namespace Go.Proofs.Ytmfchamhankaoaa
open Go.RowKit Go.Sort base
theorem cnt_tab {g : Int → Int} (z : Int) : ∀ (f : List Int) (M : Nat), (∀ x ∈ f, 0 ≤ x ∧ x < (M : Int)) → cnt (f.map g) z = sumTo M (fun y => if g (y : Nat) = z then cnt f (y : Nat) else 0)
  | [], M, _ => by
    rw [sumTo_congr (h := fun _ => 0) M fun j _ => by simp [cnt], sumTo_zero]; simp [cnt]
  | x :: f, M, h => by
    obtain ⟨h1, h2⟩ := h x (by simp)
    obtain ⟨k, rfl⟩ := Int.eq_ofNat_of_zero_le h1
    rw [List.map_cons, cnt_cons, cnt_tab z f M fun y hy => h y (by simp [hy])]
    rw [sumTo_congr (g := fun y => if g (y : Nat) = z then cnt ((k : Int) :: f) (y : Nat) else 0) (h := fun y => (if g (y : Nat) = z then cnt f (y : Nat) else 0) + (if k = y then (if g (k : Nat) = z then 1 else 0) else 0)) M fun j _ => by
      rw [cnt_cons]
      by_cases e : k = j
      · subst e; by_cases e2 : g (k : Nat) = z <;> simp [e2]
      · rw [if_neg e, if_neg (show ¬ (k : Int) = (j : Int) by omega)]; by_cases e2 : g (j : Nat) = z <;> simp [e2]]
    rw [sumTo_add]
    congr 1
    by_cases e2 : g (k : Nat) = z
    · rw [if_pos e2, sumTo_congr (h := fun y => if k = y then 1 else 0) M fun j _ => rfl, sumTo_one, if_pos (by omega)]
    · rw [if_neg e2, sumTo_congr (h := fun _ => 0) M fun j _ => by simp, sumTo_zero]
theorem sumTo_ge {g : Nat → Int} {j : Nat} : ∀ m, (∀ j, j < m → 0 ≤ g j) → j < m → g j ≤ sumTo m g
  | 0, _, h => absurd h (by omega)
  | k + 1, hp, h => by
    rw [sumTo]
    have h1 : 0 ≤ sumTo k g := sumTo_nn k fun j hj => hp j (by omega)
    by_cases e : j = k
    · subst e; omega
    · have := sumTo_ge k (fun j hj => hp j (by omega)) (show j < k by omega)
      have := hp k (by omega)
      omega
where sumTo_nn {g : Nat → Int} : ∀ m, (∀ j, j < m → 0 ≤ g j) → 0 ≤ sumTo m g
  | 0, _ => by simp [sumTo]
  | k + 1, h => by
    have h1 := sumTo_nn k fun j hj => h j (by omega)
    have h2 := h k (by omega)
    rw [sumTo]; omega
theorem sumTo_mono {g h : Nat → Int} : ∀ m, (∀ j, j < m → g j ≤ h j) → sumTo m g ≤ sumTo m h
  | 0, _ => by simp [sumTo]
  | k + 1, e => by rw [sumTo, sumTo]; have := sumTo_mono k fun j hj => e j (by omega); have := e k (by omega); omega
theorem sumTo_mul (a : Int) (g : Nat → Int) : ∀ m, sumTo m (fun j => a * g j) = a * sumTo m g
  | 0 => by simp [sumTo]
  | k + 1 => by rw [sumTo, sumTo_mul a g k, sumTo, Int.mul_add]
theorem map_tab (f g : List Int) : (tab f.length fun k => nth g (nth f k).toNat) = f.map fun x => nth g x.toNat := by
  refine nth_ext (by rw [tab_len]; simp) fun k hk => ?_
  rw [tab_len] at hk
  rw [tab_nth hk]
  exact (show nth (f.map fun x => nth g x.toNat) k = nth g (nth f k).toNat by rw [nth_lt (by simpa using hk), List.getElem_map, nth_lt hk]).symm
theorem cnt_take (g : List Int) (z : Int) : ∀ n, n ≤ g.length → cnt (g.take n) z = sumTo n (fun y => if nth g y = z then 1 else 0)
  | 0, _ => by simp [cnt, sumTo]
  | n + 1, h => by rw [take_succ_nth (by omega), cnt_snoc, cnt_take g z n (by omega), sumTo]
theorem cnt_self (g : List Int) (z : Int) : cnt g z = sumTo g.length (fun y => if nth g y = z then 1 else 0) := by
  rw [← cnt_take g z g.length (Nat.le_refl _), List.take_length]
theorem then_law {i m o : Int} {f g : List Int} (h1 : fnOk i m f = true) (h2 : fnOk m o g = true) :
    fnOk i o (funcThen i m o f g) = true ∧ sameMost i m f ≤ sameMost i o (funcThen i m o f g) ∧ sameMost i o (funcThen i m o f g) ≤ sameMost i m f * sameMost m o g := by
  obtain ⟨hi, hm, hlf, hrf⟩ := fnOk_out h1
  obtain ⟨_, ho, hlg, hrg⟩ := fnOk_out h2
  have e : funcThen i m o f g = f.map fun x => nth g x.toNat := by
    rw [← map_tab]; simp [funcThen, h1, h2]
  have hmem : ∀ x ∈ f, 0 ≤ x ∧ x < (g.length : Int) := fun x hx => by
    obtain ⟨k, hk, rfl⟩ := List.getElem_of_mem hx
    have := hrf k hk
    rw [nth_lt hk] at this
    rw [hlg]; exact this
  have hok : fnOk i o (f.map fun x => nth g x.toNat) = true := by
    unfold fnOk
    rw [hi, ho, List.length_map, hlf]
    simp only [decide_true, Bool.true_and, Bool.not_eq_true', Bool.and_self]
    rw [List.any_eq_false]
    intro x hx
    obtain ⟨y, hy, rfl⟩ := List.mem_map.1 hx
    have hy2 := hmem y hy
    have := hrg y.toNat (by omega)
    have : wv o (nth g y.toNat) = true := (wv_iff (in14_lnOk ho)).2 this
    simp [badWord, this]
  rw [e]
  obtain ⟨M1, p1, _, _, ⟨j1, hj1, ej1⟩, hle1, _, _, _⟩ := most_facts h1
  obtain ⟨M2, p2, _, _, _, hle2, _, _, _⟩ := most_facts h2
  obtain ⟨M3, p3, _, _, ⟨j3, hj3, ej3⟩, hle3, _, _, _⟩ := most_facts hok
  have hg1 : M1 = g.length := by have := p1; omega
  have hM : M2 = M3 := by omega
  refine ⟨hok, ?_, ?_⟩
  · have hr := hrg j1 (by omega)
    obtain ⟨z, hz⟩ := Int.eq_ofNat_of_zero_le hr.1
    have hzM : z < M3 := by omega
    have := hle3 z hzM
    rw [cnt_tab (g := fun x => nth g x.toNat) (z : Int) f g.length hmem] at this
    have hge := sumTo_ge (g := fun y => if nth g ((y : Nat) : Int).toNat = (z : Int) then cnt f (y : Nat) else 0) (j := j1) g.length (fun j _ => by
      by_cases e : nth g ((j : Nat) : Int).toNat = (z : Int)
      · rw [if_pos e]; exact (cnt_le f (j : Nat)).1
      · rw [if_neg e]; omega) (by omega)
    simp only [Int.toNat_natCast] at hge this
    rw [if_pos hz] at hge
    omega
  · rw [ej3, cnt_tab (g := fun x => nth g x.toNat) (j3 : Int) f g.length hmem]
    have h4 : sumTo g.length (fun y => if nth g ((y : Nat) : Int).toNat = (j3 : Int) then cnt f (y : Nat) else 0) ≤ sumTo g.length (fun y => sameMost i m f * (if nth g y = (j3 : Int) then 1 else 0)) := by
      refine sumTo_mono _ fun j hj => ?_
      simp only [Int.toNat_natCast]
      by_cases e : nth g j = (j3 : Int)
      · rw [if_pos e, if_pos e]; have := hle1 j (by omega); omega
      · rw [if_neg e, if_neg e]; omega
    rw [sumTo_mul, ← cnt_self] at h4
    have h5 := hle2 j3 (by omega)
    have h6 : 0 ≤ sameMost i m f := by rw [ej1]; exact (cnt_le f (j1 : Nat)).1
    exact Int.le_trans h4 (Int.mul_le_mul_of_nonneg_left h5 h6)
set_option maxRecDepth 100000 in
set_option maxHeartbeats 4000000 in
theorem walk_FnFuncThen (Ap : Option Addr) (np cp : Nat) (zp : List Int) (w : World) (hp : IRk .u8 w Ap np zp) (yp : ∀ z ∈ zp, (Lit.int .u8 z).wf = true) (dp : np ≤ cp) :
    Calls Try.prog 6 #[.slice Ap np cp] w fun e w' => e = .returned (.bool true) ∧ Below w.heap.size w w' := by
  have maxp := hp.max
  have Hp := hide hp
  have Yp := hide yp
  clear hp yp
  by_cases bigp : 1048576 < np
  · go_enter Try.func6, Try.ntmps6
    go_wp2_with fail
    go_ret
    exact ⟨rfl, Below.refl _ _⟩
  go_enter Try.func6, Try.ntmps6
  have B0 := hide (Below.refl w.heap.size w)
  go_wp2_with fail
  refine (drawFuncThen_any Ap np cp zp _ (Hp.out.below B0.out) Yp.out dp).mono ?_
  rintro e w1 ⟨⟨i, m, o, vf, vg, f, g, rfl, of, og, lf, lg⟩, hb1⟩
  have B1 := hide (bseq B0.out hb1)
  clear hb1
  obtain ⟨Af, nf, cf, rfl, rf⟩ := of.slice'
  have f_1 := hide rf
  clear of rf
  obtain ⟨Ag, ng, cg, rfl, rg⟩ := og.slice'
  have g_1 := hide rg
  clear og rg
  go_wp2_with fail
  refine (funcThen_any i m o _ _ _ _ _ _ f g _ f_1.out g_1.out).mono ?_
  rintro e w2 ⟨⟨vh, rfl, oh⟩, hb2⟩
  have B2 := hide (bseq B1.out hb2)
  have f_2 := hide (f_1.out.below hb2)
  have g_2 := hide (g_1.out.below hb2)
  clear hb2
  obtain ⟨Ah, nh, ch, rfl, rh⟩ := oh.slice'
  have h_2 := hide rh
  clear oh rh
  go_wp2_with fail
  refine (sFuncThen_any i m o _ _ _ _ _ _ f g _ f_2.out g_2.out).mono ?_
  rintro e w3 ⟨⟨vk, rfl, ok⟩, hb3⟩
  have B3 := hide (bseq B2.out hb3)
  have f_3 := hide (f_2.out.below hb3)
  have g_3 := hide (g_2.out.below hb3)
  have h_3 := hide (h_2.out.below hb3)
  clear hb3
  obtain ⟨Ak, nk, ck, rfl, rk⟩ := ok.slice'
  have k_3 := hide rk
  clear ok rk
  go_wp2_with fail
  refine (sameInts_any _ _ _ _ _ _ _ _ _ h_3.out k_3.out).mono ?_
  rintro e w4 ⟨rfl, q4, hq4⟩
  have hb4 : Below w3.heap.size w3 w4 := by rw [hq4]; exact below_drewN (Below.refl _ _) _
  clear hq4
  have B4 := hide (bseq B3.out hb4)
  have f_4 := hide (f_3.out.below hb4)
  have g_4 := hide (g_3.out.below hb4)
  have h_4 := hide (h_3.out.below hb4)
  have k_4 := hide (k_3.out.below hb4)
  clear hb4
  rw [beq_self_eq_true]
  have HLH := Lib.hid h_4.out.len
  cases h1 : fnOk i m f && fnOk m o g
  · obtain rfl : nh = 0 := by have := HLH.out; rw [show funcThen i m o f g = [] by simp [funcThen, h1]] at this; exact this.symm
    go_wp2_with (go_at_call 11; refine (alive_any _).mono ?_; rintro e w' ⟨rfl, rfl⟩)
    go_ret
    exact ⟨by first | rfl | (simp; omega) | simp, B4.out⟩
  · rw [Bool.and_eq_true] at h1
    obtain ⟨h1, h2⟩ := h1
    obtain ⟨t1, t2, t3⟩ := then_law h1 h2
    have e0 : ((nh : Int) == 0) = false := by
      have := HLH.out
      rw [show funcThen i m o f g = tab f.length fun k => nth g (nth f k).toNat by simp [funcThen, h1, h2], tab_len] at this
      have := fnOk_ne h1
      simp; omega
    obtain ⟨_, _, _, _, _, _, _, a1, a2⟩ := most_facts h1
    obtain ⟨_, _, _, _, _, _, _, b1, b2⟩ := most_facts h2
    obtain ⟨_, _, _, _, _, _, _, c1, c2⟩ := most_facts t1
    obtain ⟨N, hN⟩ : ∃ x, sameMost i o (funcThen i m o f g) = x := ⟨_, rfl⟩
    have HN := Lib.hid hN
    obtain ⟨A, hA⟩ : ∃ x, sameMost i m f = x := ⟨_, rfl⟩
    have HA := Lib.hid hA
    obtain ⟨D, hD⟩ : ∃ x, sameMost m o g = x := ⟨_, rfl⟩
    have HD := Lib.hid hD
    rw [hN] at t2 t3 c1 c2
    rw [hA] at t2 t3 a1 a2
    rw [hD] at t3 b1 b2
    have T1 := hide t1
    have H1 := hide h1
    clear hN hA hD t1 h1
    obtain ⟨P, hP⟩ : ∃ P : Int, A * D = P := ⟨_, rfl⟩
    have hP2 : P ≤ 256 := by rw [← hP]; have := Int.mul_le_mul a2 b2 (by omega) (by omega); omega
    have hP0 : 0 ≤ P := by rw [← hP]; exact Int.mul_nonneg (by omega) (by omega)
    rw [hP] at t3
    go_wp2_with fail
    refine (sameMost_any i o _ _ _ (funcThen i m o f g) _ h_4.out).mono ?_
    rintro e w5 ⟨rfl, hb5⟩
    have B5 := hide (bseq B4.out hb5)
    have f_5 := hide (f_4.out.below hb5)
    have g_5 := hide (g_4.out.below hb5)
    have h_5 := hide (h_4.out.below hb5)
    clear hb5
    rw [HN.out]
    go_wp2_with fail
    refine (sameMost_any i m _ _ _ f _ f_5.out).mono ?_
    rintro e w6 ⟨rfl, hb6⟩
    have B6 := hide (bseq B5.out hb6)
    have f_6 := hide (f_5.out.below hb6)
    have g_6 := hide (g_5.out.below hb6)
    have h_6 := hide (h_5.out.below hb6)
    clear hb6
    rw [HA.out]
    go_wp2_with fail
    refine (funcValid_b true i o _ _ _ (funcThen i m o f g) _ h_6.out T1.out).mono ?_
    rintro e w7 ⟨rfl, hb7⟩
    have B7 := hide (bseq B6.out hb7)
    have f_7 := hide (f_6.out.below hb7)
    have g_7 := hide (g_6.out.below hb7)
    have h_7 := hide (h_6.out.below hb7)
    clear hb7
    go_wp2_with fail
    refine (sameMost_any m o _ _ _ g _ g_7.out).mono ?_
    rintro e w8 ⟨rfl, hb8⟩
    have B8 := hide (bseq B7.out hb8)
    have f_8 := hide (f_7.out.below hb8)
    have g_8 := hide (g_7.out.below hb8)
    have h_8 := hide (h_7.out.below hb8)
    clear hb8
    rw [HD.out]
    go_wp2_with fail
    go_ret
    exact ⟨by first | rfl | (simp; omega) | simp, B8.out⟩
end Go.Proofs.Ytmfchamhankaoaa
