/-
  The walk of the law FnSameMany: it returns true at every input, and turns nothing that was there.
  No condition.
-/
import Derived.Test.YtmfchamhankaoaaMostLaw
import Derived.Test.YtmfchamhankaoaaDrawFunc
namespace Go.Proofs.Ytmfchamhankaoaa
open Go.RowKit Go.Sort base
theorem sumTo_pos {g : Nat → Int} : ∀ m, (∀ j, j < m → 0 ≤ g j) → 0 ≤ sumTo m g
  | 0, _ => by simp [sumTo]
  | k + 1, h => by
    have h1 := sumTo_pos k fun j hj => h j (by omega)
    have h2 := h k (by omega)
    rw [sumTo]; omega
set_option maxRecDepth 100000 in
set_option maxHeartbeats 4000000 in
theorem walk_FnSameMany (Ap : Option Addr) (np cp : Nat) (zp : List Int) (w : World) (hp : IRk .u8 w Ap np zp) (yp : ∀ z ∈ zp, (Lit.int .u8 z).wf = true) (dp : np ≤ cp) :
    Calls Try.prog 4 #[.slice Ap np cp] w fun e w' => e = .returned (.bool true) ∧ Below w.heap.size w w' := by
  have maxp := hp.max
  have Hp := hide hp
  have Yp := hide yp
  clear hp yp
  by_cases bigp : 1048576 < np
  · go_enter Try.func4, Try.ntmps4
    go_wp2_with fail
    go_ret
    exact ⟨rfl, Below.refl _ _⟩
  go_enter Try.func4, Try.ntmps4
  have B0 := hide (Below.refl w.heap.size w)
  go_wp2_with fail
  refine (drawSameMany_any Ap np cp zp _ (Hp.out.below B0.out) Yp.out dp).mono ?_
  rintro e w1 ⟨⟨i, o, vf, f, x, rfl, of, lf, i1, i2, o1, o2⟩, hb1⟩
  have B1 := hide (bseq B0.out hb1)
  clear hb1
  obtain ⟨Af, nf, cf, rfl, rf⟩ := of.slice'
  have f_1 := hide rf
  clear of rf
  go_wp2_with fail
  refine (sameMany_any i o _ _ _ f x _ f_1.out).mono ?_
  rintro e w2 ⟨rfl, hb2⟩
  have B2 := hide (bseq B1.out hb2)
  have f_2 := hide (f_1.out.below hb2)
  clear hb2
  obtain ⟨K, hK⟩ : ∃ K, sameMany i o f x = K := ⟨_, rfl⟩
  have HK := Lib.hid hK
  clear hK
  rw [HK.out]
  go_wp2_with fail
  refine (sSameMany_any i o _ _ _ f x _ f_2.out).mono ?_
  rintro e w' ⟨rfl, rfl⟩
  rw [HK.out]
  have en : (K != K) = false := by simp
  cases hf : fnOk i o f
  · obtain rfl : K = -1 := by rw [← HK.out]; simp [sameMany, hf]
    go_wp2_with (go_at_call 11; refine (alive_any _).mono ?_; rintro e w' ⟨rfl, rfl⟩)
    go_ret
    exact ⟨by first | rfl | (simp; omega) | simp, B2.out⟩
  · have hK0 : 0 ≤ K := by rw [← HK.out]; simp only [sameMany, hf, if_true]; exact (cnt_le f x).1
    obtain ⟨hi, ho, hl, hr⟩ := fnOk_out hf
    obtain ⟨m, hm, hm0⟩ := pw_nat ho
    have hm16 : m ≤ 16 := by rcases pw_cases ho with ⟨_, e⟩ | ⟨_, e⟩ | ⟨_, e⟩ | ⟨_, e⟩ <;> omega
    have hmem : ∀ y ∈ f, 0 ≤ y ∧ y < (m : Int) := fun y hy => by
      obtain ⟨k, hk, rfl⟩ := List.getElem_of_mem hy
      have := hr k hk
      rwa [nth_lt hk, hm] at this
    have HSUM := Lib.hid (sum_cnt f hmem)
    have hl16 := in14_len hi hl
    obtain ⟨X, rfl⟩ := Int.eq_ofNat_of_zero_le (show 0 ≤ o by simp [in14] at ho; omega)
    obtain ⟨Y, rfl⟩ := Int.eq_ofNat_of_zero_le (show 0 ≤ i by omega)
    have ex : (2 : Int) ^ X = (m : Int) := by rw [← hm]; rfl
    have ey : (2 : Int) ^ Y = (f.length : Int) := by rw [hl]; rfl
    have hX : X ≤ 4 := by simp [in14] at ho; omega
    have hY : Y ≤ 4 := by simp [in14] at hi; omega
    obtain ⟨L, hL⟩ : ∃ L, L = f.length := ⟨_, rfl⟩
    rw [← hL] at ey hl16
    have HL := Lib.hid hL
    have HF := Lib.hid hf
    have PS := hide (show ∀ k : Nat, 0 ≤ sumTo k (fun j => cnt f (j : Nat)) ∧ sumTo k (fun j => cnt f (j : Nat)) ≤ k * 17 from fun k => ⟨sumTo_pos k fun j _ => (cnt_le f (j : Nat)).1, sumTo_le k fun j _ => by have := (cnt_le f (j : Nat)).2; omega⟩)
    clear hL hl hr hi ho hm hmem hf en
    go_wp2_with fail
    go_loopw [8, 9] (fun s j wr => ∃ k : Nat, k ≤ m ∧ j = .int .i64 k ∧ s = .int .i64 (sumTo k fun j => cnt f (j : Nat)) ∧ Hid (IR wr Af nf f) ∧ Hid (Below w.heap.size w wr)) (fun _ j _ => m - (intOf j).toNat)
    case atStart => exact ⟨0, by omega, rfl, rfl, f_2.out, B2.out⟩
    case round =>
      obtain ⟨k, hk, rfl, rfl, HFW, HB⟩ := hrel
      obtain ⟨c1, c2⟩ := cnt_le f (k : Nat)
      obtain ⟨s1, s2⟩ := PS.out k
      have s3 : (k : Int) * 17 ≤ 272 := by omega
      have HT := Lib.hid (show sumTo (k + 1) (fun j => cnt f (j : Nat)) = sumTo k (fun j => cnt f (j : Nat)) + cnt f (k : Nat) from rfl)
      rw [← HL.out] at c2
      by_cases hlt : k < m
      · go_wp2_with fail
        refine (sameMany_any (Y : Int) (X : Int) _ _ _ f (k : Int) _ HFW.out).mono ?_
        rintro e w3 ⟨rfl, hb3⟩
        have B3 := hide (bseq HB.out hb3)
        have F3 := hide (HFW.out.below hb3)
        clear hb3
        rw [show sameMany (Y : Int) (X : Int) f (k : Int) = cnt f (k : Nat) by simp [sameMany, HF.out]]
        go_wp2_with fail
        go_roundw
        case rel => exact ⟨k + 1, by omega, by go_num, by rw [HT.out], F3.out, B3.out⟩
        case measure => simp [intOf]; omega
      · obtain rfl : k = m := by omega
        rw [HSUM.out, ← HL.out]
        go_wp2_with fail
        go_ret
        exact ⟨by simp, HB.out⟩
end Go.Proofs.Ytmfchamhankaoaa
