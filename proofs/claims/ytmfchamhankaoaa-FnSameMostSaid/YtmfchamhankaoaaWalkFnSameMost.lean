/-
  The walk of the law FnSameMost: it returns true at every input, and turns nothing that was there.
  No condition.
-/
import Derived.Test.YtmfchamhankaoaaMostLaw
import Derived.Test.YtmfchamhankaoaaDrawFunc
namespace Go.Proofs.Ytmfchamhankaoaa
open Go.RowKit Go.Sort base
def anyTo (f : List Int) (K : Int) : Nat → Bool
  | 0 => false
  | k + 1 => anyTo f K k || cnt f (k : Nat) == K
theorem anyTo_of {f : List Int} {K : Int} : ∀ {m j : Nat}, j < m → cnt f (j : Nat) = K → anyTo f K m = true
  | m + 1, j, hj, e => by
    by_cases h : j = m
    · subst h; simp [anyTo, e]
    · simp [anyTo, anyTo_of (show j < m by omega) e]
set_option maxRecDepth 100000 in
set_option maxHeartbeats 4000000 in
theorem walk_FnSameMost (Ap : Option Addr) (np cp : Nat) (zp : List Int) (w : World) (hp : IRk .u8 w Ap np zp) (yp : ∀ z ∈ zp, (Lit.int .u8 z).wf = true) (dp : np ≤ cp) :
    Calls Try.prog 5 #[.slice Ap np cp] w fun e w' => e = .returned (.bool true) ∧ Below w.heap.size w w' := by
  have maxp := hp.max
  have Hp := hide hp
  have Yp := hide yp
  clear hp yp
  by_cases bigp : 1048576 < np
  · go_enter Try.func5, Try.ntmps5
    go_wp2_with fail
    go_ret
    exact ⟨rfl, Below.refl _ _⟩
  go_enter Try.func5, Try.ntmps5
  have B0 := hide (Below.refl w.heap.size w)
  go_wp2_with fail
  refine (drawSameMost_any Ap np cp zp _ (Hp.out.below B0.out) Yp.out dp).mono ?_
  rintro e w1 ⟨⟨i, o, vf, f, rfl, of, lf, i1, i2, o1, o2⟩, hb1⟩
  have B1 := hide (bseq B0.out hb1)
  clear hb1
  obtain ⟨Af, nf, cf, rfl, rf⟩ := of.slice'
  have f_1 := hide rf
  clear of rf
  go_wp2_with fail
  refine (sameMost_any i o _ _ _ f _ f_1.out).mono ?_
  rintro e w2 ⟨rfl, hb2⟩
  have B2 := hide (bseq B1.out hb2)
  have f_2 := hide (f_1.out.below hb2)
  clear hb2
  obtain ⟨K, hK⟩ : ∃ K, sameMost i o f = K := ⟨_, rfl⟩
  have HK := Lib.hid hK
  clear hK
  rw [HK.out]
  go_wp2_with fail
  refine (sSameMost_any i o _ _ _ f _ f_2.out).mono ?_
  rintro e w' ⟨rfl, rfl⟩
  rw [HK.out]
  have en : (K != K) = false := by simp
  cases hf : fnOk i o f
  · obtain rfl : K = -1 := by rw [← HK.out]; simp [sameMost, hf]
    go_wp2_with (go_at_call 11; refine (alive_any _).mono ?_; rintro e w' ⟨rfl, rfl⟩)
    go_ret
    exact ⟨by first | rfl | (simp; omega) | simp, B2.out⟩
  · obtain ⟨m, hm, hm0, hm16, ⟨j, hj, ej⟩, hle, hlen, h1, h2⟩ := most_facts hf
    obtain ⟨hi, ho, hl, hr⟩ := fnOk_out hf
    rw [HK.out] at ej hle hlen h1 h2
    have HANY := Lib.hid (anyTo_of hj ej.symm)
    have HLE := hide hle
    obtain ⟨X, rfl⟩ := Int.eq_ofNat_of_zero_le (show 0 ≤ o by simp [in14] at ho; omega)
    obtain ⟨Y, rfl⟩ := Int.eq_ofNat_of_zero_le (show 0 ≤ i by omega)
    have hl16 := in14_len hi hl
    have ex : (2 : Int) ^ X = (m : Int) := by rw [← hm]; rfl
    obtain ⟨L, hL⟩ : ∃ L, L = f.length := ⟨_, rfl⟩
    rw [← hL] at hl16 hlen hl
    have ey : (2 : Int) ^ Y = (L : Int) := by rw [hl]; rfl
    have hX : X ≤ 4 := by simp [in14] at ho; omega
    have hY : Y ≤ 4 := by simp [in14] at hi; omega
    obtain ⟨P, hP⟩ : ∃ P : Int, K * (m : Int) = P := ⟨_, rfl⟩
    have hP1 : (L : Int) ≤ P := by rw [← hP, Int.mul_comm]; exact hlen
    have hP2 : P ≤ 256 := by rw [← hP]; have := Int.mul_le_mul h2 (show (m : Int) ≤ 16 by omega) (by omega) (by omega); omega
    have HF := Lib.hid hf
    clear hL hl hr hi ho hm hle hlen hf ej
    go_wp2_with fail
    go_loopw [7, 8] (fun s j wr => ∃ k : Nat, k ≤ m ∧ j = .int .i64 k ∧ s = .bool (anyTo f K k) ∧ Hid (IR wr Af nf f) ∧ Hid (Below w.heap.size w wr)) (fun _ j _ => m - (intOf j).toNat)
    case atStart => exact ⟨0, by omega, rfl, rfl, f_2.out, B2.out⟩
    case round =>
      obtain ⟨k, hk, rfl, rfl, HFW, HB⟩ := hrel
      by_cases hlt : k < m
      · have hck := HLE.out k hlt
        have HT := Lib.hid (show anyTo f K (k + 1) = (anyTo f K k || cnt f (k : Nat) == K) from rfl)
        go_wp2_with fail
        refine (sameMany_any (Y : Int) (X : Int) _ _ _ f (k : Int) _ HFW.out).mono ?_
        rintro e w3 ⟨rfl, hb3⟩
        have B3 := hide (bseq HB.out hb3)
        have F3 := hide (HFW.out.below hb3)
        clear hb3
        rw [show sameMany (Y : Int) (X : Int) f (k : Int) = cnt f (k : Nat) by simp [sameMany, HF.out]]
        cases ha : anyTo f K k
        · by_cases hc : cnt f (k : Nat) = K
          · have e1 : (cnt f (k : Nat) == K) = true := by simpa using hc
            have HC := Lib.hid e1
            have HA := Lib.hid ha
            clear hc ha
            go_wp2_with fail
            go_roundw
            case rel => exact ⟨k + 1, by omega, by go_num, by rw [HT.out, HA.out, HC.out]; rfl, F3.out, B3.out⟩
            case measure => simp [intOf]; omega
          · have e1 : (cnt f (k : Nat) == K) = false := by simpa using hc
            have HC := Lib.hid e1
            have HA := Lib.hid ha
            clear hc ha
            go_wp2_with fail
            go_roundw
            case rel => exact ⟨k + 1, by omega, by go_num, by rw [HT.out, HA.out, HC.out]; rfl, F3.out, B3.out⟩
            case measure => simp [intOf]; omega
        · have HA := Lib.hid ha
          clear ha
          go_wp2_with fail
          go_roundw
          case rel => exact ⟨k + 1, by omega, by go_num, by rw [HT.out, HA.out]; rfl, F3.out, B3.out⟩
          case measure => simp [intOf]; omega
      · obtain rfl : k = m := by omega
        rw [HANY.out]
        go_wp2_with fail
        go_quiet (fail)
        go_wp2_with fail
        go_ret
        exact ⟨by first | rfl | (simp; omega) | simp, below_drewN HB.out _⟩
end Go.Proofs.Ytmfchamhankaoaa
