/-
  What is left over of a formula, by the reference.
  No condition.
-/
import Derived.Test.YtpklpebngholcaaLeft
namespace Go.Proofs.Ytpklpebngholcaa
open Go.RowKit Go.Sort base
set_option maxRecDepth 100000 in
set_option maxHeartbeats 8000000 in
theorem sLeftOver_ok (I n P : Nat) (A : Option Addr) (c : Nat) (fs : List S3) (w : World) (h : SR w A n fs) (hI : 1 ≤ I ∧ I ≤ 3) (hP : 2 ^ I = P) (hn : 1 ≤ n ∧ n ≤ 3) (hq : formQ (I : Nat) fs = true) :
    Calls Try.prog 18 #[.int .i64 I, .slice A n c] w fun e w' => e = .returned (.int .i64 ((seenZ (leftL I fs P)).length : Nat)) ∧ Below w.heap.size w w' := by
  obtain ⟨hI1, hI2⟩ := hI
  obtain ⟨hn1, hn2⟩ := hn
  have HR0 := hide h
  have HLen := Lib.hid h.len
  have HS := hide (formQ_iff.1 hq).2.2
  have HQ := Lib.hid hq
  have hP8 : P ≤ 8 := by rw [← hP]; exact (show 2 ^ I ≤ 2 ^ 3 from Nat.pow_le_pow_right (by omega) hI2)
  have hw := show wrap64 ((2 : Int) ^ I) = (P : Int) by rw [← hP]; rcases (show I = 1 ∨ I = 2 ∨ I = 3 by omega) with rfl | rfl | rfl <;> decide +kernel
  have HP := Lib.hid hP
  clear h hq hP
  go_enter Try.func18, Try.ntmps18
  go_wp2_with fail
  refine (sFormValid_b true _ _ _ _ fs HQ.out _ HR0.out).mono ?_
  rintro e w1 ⟨rfl, hb1⟩
  have B1 := hide (hb1.alloc hb1.size (.cells #[] 3))
  have O1 := hide (Own.nil0 w1 w.heap.size hb1.size)
  clear hb1
  go_wp2_with fail
  go_loopw [5, 6] (fun vv iv wr => ∃ (j : Nat) (v : Value), j ≤ P ∧ iv = .int .i64 j ∧ v = vv ∧ Hid (Own wr w.heap.size v (seenZ (leftL I fs j))) ∧ Hid ((seenZ (leftL I fs j)).length ≤ j) ∧ Hid (Below w.heap.size w wr)) (fun _ iv _ => P - (intOf iv).toNat)
  case atStart => exact ⟨0, _, by omega, rfl, rfl, O1, hide (by simp [leftL, tab_zero, seenZ]), B1⟩
  case round =>
    obtain ⟨k, v, hk, rfl, rfl, HO, HK, HB⟩ := hrel
    by_cases hlt : k < P
    · have HR := hide (HR0.out.below HB.out)
      have HWV := Lib.hid (show wv (I : Nat) (k : Nat) = true by
        have h1 : lnOk (I : Nat) = true := lnOk_iff.2 (by omega)
        have h2 : pw (I : Nat) = (P : Int) := by simp only [pw, Int.toNat_natCast]; rw [← HP.out]; simp
        rw [wv, h1, h2]; simp; omega)
      have HLA := hide (left_at (x := k) ⟨hI1, hI2⟩ (by rw [HLen.out]; exact hn2) (by rw [HP.out]; exact hlt) HS.out n (by rw [HLen.out]; omega))
      have HSum := Lib.hid (show sumBits ((bitsN I (k : Int) fs).drop I) (n - 1) = leftV I fs k by
        have h1 := left_sum (x := k) ⟨hI1, hI2⟩ (by rw [HLen.out]; exact ⟨hn1, hn2⟩) (by rw [HLen.out]; exact HLA.out)
        rw [HLen.out] at h1; rw [h1, leftV, HLen.out])
      have HFB := Lib.hid (formB_yes (x := (k : Nat)) HQ.out HWV.out)
      have HFL := Lib.hid (formB_len (x := (k : Nat)) HQ.out HWV.out)
      have HSnoc := Lib.hid (show seenZ (leftL I fs (k + 1)) = addZ (seenZ (leftL I fs k)) (leftV I fs k) by rw [leftL, tab_succ, seenZ_snoc]; rfl)
      have HLV := hide (leftV_lt I fs k (by rw [HLen.out]; exact hn2))
      have HBit := hide (show ∀ j, j < n → nth ((bitsN I (k : Int) fs).drop I) j = 0 ∨ nth ((bitsN I (k : Int) fs).drop I) j = 1 from fun j hj => by
        have := bitsN_bit (x := (k : Int)) HS.out n (by rw [HLen.out]; omega) (I + j) (by omega)
        rw [List.take_of_length_le (by rw [HLen.out]; omega)] at this
        rw [nth_drop]; exact this)
      go_wp2_with fail
      refine (sFormBits_any (I : Nat) _ _ _ fs (k : Nat) _ HR.out).mono ?_
      rintro e w2 ⟨⟨A2, c2, rfl, hr2⟩, hb2⟩
      rw [HFL.out, HFB.out, HLen.out] at hr2
      rw [HFL.out, HLen.out]
      have R2 := hide hr2
      have B2 := hide (bseq HB.out hb2)
      have O2 := hide (HO.out.below hb2)
      obtain ⟨bs, hbs⟩ : ∃ bs, (bitsN I (k : Int) fs).drop I = bs := ⟨_, rfl⟩
      rw [hbs] at HBit R2 HSum
      obtain ⟨z, hz⟩ : ∃ z, leftV I fs k = z := ⟨_, rfl⟩
      rw [hz] at HSum HSnoc HLV
      have hs2 := B2.out.size
      clear hr2 hb2 hbs hz
      go_wp2_with fail
      go_loopw [7, 9] (fun nv jv wx => ∃ j : Nat, j ≤ n - 1 ∧ jv = .int .i64 j ∧ nv = .int .i64 (sumBits bs j) ∧ wx = w2) (fun _ jv _ => n - (intOf jv).toNat)
      case atStart => exact ⟨0, by omega, rfl, rfl, rfl⟩
      case round =>
        obtain ⟨j, hj, rfl, rfl, rfl⟩ := hrel
        by_cases hjn : j < n - 1
        · obtain ⟨b, o, rfl, hbl, hcc⟩ := R2.out.at_ (by omega)
          have c0 := hcc j (by omega)
          have hb01 := HBit.out j (by omega)
          obtain ⟨s, hs⟩ : ∃ s, sumBits bs j = s := ⟨_, rfl⟩
          obtain ⟨Q, hQ⟩ : ∃ Q : Nat, 2 ^ j = Q := ⟨_, rfl⟩
          have hQ2 : Q ≤ 2 ∧ 1 ≤ Q := by rw [← hQ]; rcases (show j = 0 ∨ j = 1 by omega) with rfl | rfl <;> decide
          have hwQ : wrap64 ((2 : Int) ^ j) = (Q : Int) := by rw [← hQ]; rcases (show j = 0 ∨ j = 1 by omega) with rfl | rfl <;> decide +kernel
          have hss : 0 ≤ s ∧ s ≤ 8 := by
            rw [← hs]
            rcases (show j = 0 ∨ j = 1 by omega) with rfl | rfl
            · simp [sumBits]
            · have := HBit.out 0 (by omega); simp [sumBits]; omega
          have HSS := Lib.hid (show sumBits bs (j + 1) = s + nth bs j * (Q : Int) by rw [sumBits, hs, ← hQ]; simp)
          rw [hs]
          obtain ⟨hs0, hs8⟩ := hss
          obtain ⟨hQ2, hQ1⟩ := hQ2
          have hd : (j : Int) + 1 < (n : Int) := by omega
          clear hcc hs hQ
          rcases hb01 with hb | hb
          all_goals
            rw [hb] at c0 HSS
            clear hb
            go_wp2_with fail
            go_roundw
            case rel => exact ⟨j + 1, by omega, by go_num, by rw [HSS.out]; first | rfl | (congr 1; omega) | go_num, by first | rfl | trivial⟩
            case measure => simp [intOf]; omega
        · obtain rfl : j = n - 1 := by omega
          have hjj : ((n - 1 : Nat) : Int) + 1 = (n : Int) := by omega
          rw [HSum.out]
          obtain ⟨Av, cv, rfl, hir⟩ := O2.out.slice
          have HIR := hide hir
          clear hir
          cases hh : hasQ (seenZ (leftL I fs k)) z
          · have HH := Lib.hid hh
            have HAdd := Lib.hid (show seenZ (leftL I fs (k + 1)) = seenZ (leftL I fs k) ++ [z] by rw [HSnoc.out, addZ, hh, if_neg (by simp)])
            clear hh
            go_wp2_with fail
            refine (l1Has_b false _ _ _ _ _ _ HIR.out HH.out).mono ?_
            rintro e w' ⟨rfl, rfl⟩
            go_wp2_with (at_builtin; refine wpList_append1 (x := z) O2.out (.tmp 44) (.tmp 46) (by rfl) rfl rfl rfl (by have := HK.out; omega) hs2 ?_; intro v4 w4 ho4 hb4 hg4 _; have O4 := hide (show Own w4 w.heap.size v4 (seenZ (leftL I fs (k + 1))) by rw [HAdd.out]; exact ho4); have B4 := hide (B2.out.grown hg4 hs2 (fun k hk => (O2.out.lt k hk).1)); clear ho4 hb4 hg4)
            go_roundw
            case rel => exact ⟨k + 1, v4, by omega, by go_num, rfl, O4, hide (by rw [HAdd.out, List.length_append]; have := HK.out; simp; omega), B4⟩
            case measure => simp [intOf]; omega
          · have HH := Lib.hid hh
            have HAdd := Lib.hid (show seenZ (leftL I fs (k + 1)) = seenZ (leftL I fs k) by rw [HSnoc.out, addZ, hh, if_pos rfl])
            clear hh
            go_wp2_with fail
            refine (l1Has_b true _ _ _ _ _ _ HIR.out HH.out).mono ?_
            rintro e w' ⟨rfl, rfl⟩
            go_wp2_with fail
            go_roundw
            case rel => exact ⟨k + 1, _, by omega, by go_num, rfl, hide (by rw [HAdd.out]; exact O2.out), hide (by rw [HAdd.out]; have := HK.out; omega), B2.out⟩
            case measure => simp [intOf]; omega
    · obtain rfl : k = P := by omega
      obtain ⟨Av, cv, rfl, hir⟩ := HO.out.slice
      go_wp2_with fail
      go_ret
      exact ⟨rfl, HB.out⟩
set_option maxHeartbeats 1000000 in
theorem sLeftOver_any (i : Int) (A : Option Addr) (n c : Nat) (fs : List S3) (w : World) (h : SR w A n fs) :
    Calls Try.prog 18 #[.int .i64 i, .slice A n c] w fun e w' => e = .returned (.int .i64 (leftOver i fs)) ∧ Below w.heap.size w w' := by
  cases hq : formQ i fs
  · have HE := Lib.hid (show leftOver i fs = -1 by rw [leftOver, hq, if_neg (by simp)])
    have HR := hide h
    have HQ := Lib.hid hq
    clear h hq
    go_enter Try.func18, Try.ntmps18
    go_wp2_with fail
    refine (sFormValid_b false _ _ _ _ fs HQ.out _ HR.out).mono ?_
    rintro e w1 ⟨rfl, hb1⟩
    go_wp2_with fail
    go_ret
    exact ⟨by rw [HE.out]; rfl, hb1⟩
  · have hl := (formQ_iff.1 hq).2.1
    rw [h.len] at hl
    have e : leftOver i fs = ((seenZ (leftL i.toNat fs (2 ^ i.toNat))).length : Nat) := by rw [leftOver, hq, if_pos rfl]
    have hi := (formQ_iff.1 hq).1
    obtain ⟨I, rfl⟩ := Int.eq_ofNat_of_zero_le (show 0 ≤ i by omega)
    rw [e]
    exact sLeftOver_ok I n _ A c fs w h (by omega) rfl hl hq
end Go.Proofs.Ytpklpebngholcaa
