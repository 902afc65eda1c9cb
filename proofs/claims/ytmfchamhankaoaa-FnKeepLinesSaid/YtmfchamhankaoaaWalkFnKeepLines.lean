/-
  The walk of the law FnKeepLines: it returns true at every input, and turns nothing that was there.
  No condition.
-/
import Derived.Test.YtmfchamhankaoaaKeep
import Derived.Test.YtmfchamhankaoaaDrawFunc
namespace Go.Proofs.Ytmfchamhankaoaa
open Go.RowKit Go.Sort base
theorem keep_fin2 : ∀ m : Fin 17, 1 ≤ m.val → m.val ≤ 2 ^ Lib.bitLen (m.val - 1) ∧ (Lib.bitLen (m.val - 1) = 0 ∨ 2 ^ (Lib.bitLen (m.val - 1) - 1) < m.val) := by decide +kernel
theorem keep_law {i o : Int} {f : List Int} (h : fnOk i o f = true) : ∃ n : Nat, keepLines i o f = (n : Int) ∧ n ≤ 4 ∧ sameMost i o f ≤ ((2 ^ n : Nat) : Int) ∧ (n = 0 ∨ ((2 ^ (n - 1) : Nat) : Int) < sameMost i o f) ∧ (n : Int) ≤ i := by
  obtain ⟨m, _, _, _, ⟨j, hj, ej⟩, _, _, h1, h2⟩ := most_facts h
  obtain ⟨hi, _, hl, _⟩ := fnOk_out h
  have hc := (cnt_le f (j : Nat)).2
  have hle : sameMost i o f ≤ pw i := by rw [ej, ← hl]; exact hc
  obtain ⟨a, ha⟩ := Int.eq_ofNat_of_zero_le (show 0 ≤ sameMost i o f by omega)
  have hk := bitLen_le h1 h2
  have e : keepLines i o f = ((Lib.bitLen (a - 1) : Nat) : Int) := by
    simp only [keepLines, h, if_true, ha]
    rw [show ((a : Int) - 1).toNat = a - 1 by omega]
  rw [ha, show ((a : Int) - 1).toNat = a - 1 by omega] at hk
  have hf := keep_fin2 ⟨a, by omega⟩ (by simp only; omega)
  simp only at hf
  refine ⟨Lib.bitLen (a - 1), e, hk, by rw [ha]; exact Int.ofNat_le.2 hf.1, ?_, ?_⟩
  · rcases hf.2 with h | h
    · exact .inl h
    · right; rw [ha]; exact Int.ofNat_lt.2 h
  · rw [ha] at hle
    have hb := hf.2
    generalize Lib.bitLen (a - 1) = k at hk hb
    rcases pw_cases hi with ⟨rfl, e'⟩ | ⟨rfl, e'⟩ | ⟨rfl, e'⟩ | ⟨rfl, e'⟩ <;> rw [e'] at hle <;> rcases (show k = 0 ∨ k = 1 ∨ k = 2 ∨ k = 3 ∨ k = 4 by omega) with rfl | rfl | rfl | rfl | rfl <;> simp at hb ⊢ <;> omega
set_option maxRecDepth 100000 in
set_option maxHeartbeats 4000000 in
theorem walk_FnKeepLines (Ap : Option Addr) (np cp : Nat) (zp : List Int) (w : World) (hp : IRk .u8 w Ap np zp) (yp : ∀ z ∈ zp, (Lit.int .u8 z).wf = true) (dp : np ≤ cp) :
    Calls Try.prog 7 #[.slice Ap np cp] w fun e w' => e = .returned (.bool true) ∧ Below w.heap.size w w' := by
  have maxp := hp.max
  have Hp := hide hp
  have Yp := hide yp
  clear hp yp
  by_cases bigp : 1048576 < np
  · go_enter Try.func7, Try.ntmps7
    go_wp2_with fail
    go_ret
    exact ⟨rfl, Below.refl _ _⟩
  go_enter Try.func7, Try.ntmps7
  have B0 := hide (Below.refl w.heap.size w)
  go_wp2_with fail
  refine (drawKeepLines_any Ap np cp zp _ (Hp.out.below B0.out) Yp.out dp).mono ?_
  rintro e w1 ⟨⟨i, o, vf, f, rfl, of, lf, i1, i2, o1, o2⟩, hb1⟩
  have B1 := hide (bseq B0.out hb1)
  clear hb1
  obtain ⟨Af, nf, cf, rfl, rf⟩ := of.slice'
  have f_1 := hide rf
  clear of rf
  go_wp2_with fail
  refine (keepLines_any i o _ _ _ f _ f_1.out).mono ?_
  rintro e w2 ⟨rfl, hb2⟩
  have B2 := hide (bseq B1.out hb2)
  have f_2 := hide (f_1.out.below hb2)
  clear hb2
  obtain ⟨K, hK⟩ : ∃ K, keepLines i o f = K := ⟨_, rfl⟩
  have HK := Lib.hid hK
  clear hK
  rw [HK.out]
  go_wp2_with fail
  refine (sKeepLines_any i o _ _ _ f _ f_2.out).mono ?_
  rintro e w' ⟨rfl, rfl⟩
  rw [HK.out]
  have en : (K != K) = false := by simp
  cases hf : fnOk i o f
  · obtain rfl : K = -1 := by rw [← HK.out]; simp [keepLines, hf]
    go_wp2_with (go_at_call 11; refine (alive_any _).mono ?_; rintro e w' ⟨rfl, rfl⟩)
    go_ret
    exact ⟨by first | rfl | (simp; omega) | simp, B2.out⟩
  · obtain ⟨k, k1, k2, k3, k4, k5⟩ := keep_law hf
    obtain rfl : K = (k : Int) := by rw [← HK.out]; exact k1
    obtain ⟨M, hM⟩ : ∃ M, sameMost i o f = M := ⟨_, rfl⟩
    have HM := Lib.hid hM
    rw [hM] at k3 k4
    clear hM k1 en
    rcases (show k = 0 ∨ k = 1 ∨ k = 2 ∨ k = 3 ∨ k = 4 by omega) with rfl | rfl | rfl | rfl | rfl
    · have k3 : M ≤ 1 := by simpa using k3
      go_wp2_with fail
      refine (sameMost_any i o _ _ _ f _ f_2.out).mono ?_
      rintro e w3 ⟨rfl, hb3⟩
      have B3 := hide (bseq B2.out hb3)
      have f_3 := hide (f_2.out.below hb3)
      clear hb3
      rw [HM.out]
      go_wp2_with fail
      go_ret
      exact ⟨by first | rfl | (simp; omega) | simp, B3.out⟩
    · have k3 : M ≤ 2 := by simpa using k3
      have k4 : 1 < M := by simpa using k4
      go_wp2_with fail
      refine (sameMost_any i o _ _ _ f _ f_2.out).mono ?_
      rintro e w3 ⟨rfl, hb3⟩
      have B3 := hide (bseq B2.out hb3)
      have f_3 := hide (f_2.out.below hb3)
      clear hb3
      rw [HM.out]
      go_wp2_with fail
      go_ret
      exact ⟨by first | rfl | (simp; omega) | simp, B3.out⟩
    · have k3 : M ≤ 4 := by simpa using k3
      have k4 : 2 < M := by simpa using k4
      go_wp2_with fail
      refine (sameMost_any i o _ _ _ f _ f_2.out).mono ?_
      rintro e w3 ⟨rfl, hb3⟩
      have B3 := hide (bseq B2.out hb3)
      have f_3 := hide (f_2.out.below hb3)
      clear hb3
      rw [HM.out]
      go_wp2_with fail
      go_ret
      exact ⟨by first | rfl | (simp; omega) | simp, B3.out⟩
    · have k3 : M ≤ 8 := by simpa using k3
      have k4 : 4 < M := by simpa using k4
      go_wp2_with fail
      refine (sameMost_any i o _ _ _ f _ f_2.out).mono ?_
      rintro e w3 ⟨rfl, hb3⟩
      have B3 := hide (bseq B2.out hb3)
      have f_3 := hide (f_2.out.below hb3)
      clear hb3
      rw [HM.out]
      go_wp2_with fail
      go_ret
      exact ⟨by first | rfl | (simp; omega) | simp, B3.out⟩
    · have k3 : M ≤ 16 := by simpa using k3
      have k4 : 8 < M := by simpa using k4
      go_wp2_with fail
      refine (sameMost_any i o _ _ _ f _ f_2.out).mono ?_
      rintro e w3 ⟨rfl, hb3⟩
      have B3 := hide (bseq B2.out hb3)
      have f_3 := hide (f_2.out.below hb3)
      clear hb3
      rw [HM.out]
      go_wp2_with fail
      go_ret
      exact ⟨by first | rfl | (simp; omega) | simp, B3.out⟩
end Go.Proofs.Ytmfchamhankaoaa
