/-
  Which gates commute, by the reference.
  No condition.
-/
import Derived.Test.YtdkphnojloanoaaComm
namespace Go.Proofs.Ytdkphnojloanoaa
open Go.RowKit Go.Sort base
/-- two gates, at a word, by the reference: any arguments -/
def eqAt (l k a b c k' a' b' c' : Int) (x : Nat) : Bool := gateRun l k' a' b' c' (gateRun l k a b c x) == gateRun l k a b c (gateRun l k' a' b' c' x)
/-- the number of words that are looked at -/
def words8 (l : Int) : Nat := if l ≤ 0 then 1 else if 8 ≤ l then 256 else 2 ^ l.toNat
theorem words8_nat {n : Nat} (h1 : 1 ≤ n) (h8 : n ≤ 8) : words8 (n : Int) = 2 ^ n := by
  unfold words8
  rw [if_neg (by omega)]
  split
  · obtain rfl : n = 8 := by omega
    rfl
  · simp
theorem words8_le (l : Int) : words8 l ≤ 256 := by
  unfold words8
  split
  · omega
  split
  · omega
  · exact pow_le8 (by omega)
theorem commQ_eq (l k a b c k' a' b' c' : Int) : commQ l k a b c k' a' b' c' = (gateQ l k a b c && gateQ l k' a' b' c' && (List.range (words8 l)).all (eqAt l k a b c k' a' b' c')) := by
  cases hg : gateQ l k a b c
  · simp [commQ, hg]
  · cases hg' : gateQ l k' a' b' c'
    · simp [commQ, hg']
    · obtain ⟨n, a, b, c, rfl, rfl, rfl, rfl, hn1, hn8, ha, hb, hc⟩ := natsG hg
      obtain ⟨n', a', b', c', hn', rfl, rfl, rfl, _, _, ha', hb', hc'⟩ := natsG hg'
      obtain rfl : n = n' := by omega
      rw [commQ_ok hg hg', words8_nat hn1 hn8, Bool.true_and, Bool.true_and]
      rw [Bool.eq_iff_iff, List.all_eq_true, List.all_eq_true]
      have key : ∀ x, x ∈ List.range (2 ^ n) → eqAt n k a b c k' a' b' c' x = commAt k a b c k' a' b' c' x := fun x hx => by
        have hx' : x < 2 ^ n := by simpa using hx
        have v : ∀ y : Nat, y < 2 ^ n → wv (n : Int) (y : Int) = true := fun y hy => by rw [wv_nat hn1 hn8]; simpa using hy
        have h1 := runG_lt (k := k) ha hb hc hx'
        have h2 := runG_lt (k := k') ha' hb' hc' hx'
        rw [eqAt, gateRun_ok hg (v x hx'), gateRun_ok hg' (v x hx'), gateRun_ok hg' (v _ h1), gateRun_ok hg (v _ h2), commAt, Bool.eq_iff_iff]
        simp
        omega
      exact ⟨fun h x hx => by rw [key x hx]; exact h x hx, fun h x hx => by rw [← key x hx]; exact h x hx⟩
set_option maxHeartbeats 8000000 in
theorem sCommute_mid (l k a b c k' a' b' c' : Int) (hl : 1 ≤ l ∧ l ≤ 8) (w : World) :
    Calls Try.prog 31 #[.int .i64 l, .agg #[.int .i64 k, .int .i64 a, .int .i64 b, .int .i64 c], .agg #[.int .i64 k', .int .i64 a', .int .i64 b', .int .i64 c']] w fun e w' => e = .returned (.bool (commQ l k a b c k' a' b' c')) ∧ Below w.heap.size w w' := by
  have HB0 := hide (show Below w.heap.size w ((w.alloc (.cells #[.int .i64 k, .int .i64 a, .int .i64 b, .int .i64 c] 33)).alloc (.cells #[.int .i64 k', .int .i64 a', .int .i64 b', .int .i64 c'] 33)) by go_grown)
  have HX0 := hide ((Box4.made w k a b c 33).below ((Below.refl _ (w.alloc (.cells #[.int .i64 k, .int .i64 a, .int .i64 b, .int .i64 c] 33))).alloc (Nat.le_refl _) (.cells #[.int .i64 k', .int .i64 a', .int .i64 b', .int .i64 c'] 33)))
  have HY0 : Hid (Box4 ((w.alloc (.cells #[.int .i64 k, .int .i64 a, .int .i64 b, .int .i64 c] 33)).alloc (.cells #[.int .i64 k', .int .i64 a', .int .i64 b', .int .i64 c'] 33)) (w.heap.size + 1) k' a' b' c') := by
    have := Box4.made (w.alloc (.cells #[.int .i64 k, .int .i64 a, .int .i64 b, .int .i64 c] 33)) k' a' b' c' 33
    rwa [World.size_alloc] at this
  obtain ⟨n, rfl⟩ := Int.eq_ofNat_of_zero_le (show 0 ≤ l by omega)
  have hn1 : 1 ≤ n := by omega
  have hn8 : n ≤ 8 := by omega
  clear hl
  have HQ := Lib.hid (commQ_eq n k a b c k' a' b' c')
  have hM := words8_le n
  have hw := wrap_pow8 hn8
  rw [← words8_nat hn1 hn8] at hw
  obtain ⟨M, hMM⟩ : ∃ M, words8 n = M := ⟨_, rfl⟩
  rw [hMM] at hM HQ hw
  clear hMM
  go_enter Try.func31, Try.ntmps31
  go_wp2_with fail
  go_loopw [7] (fun iv wr => ∃ j : Nat, j ≤ M ∧ iv = .int .i64 j ∧ Hid (∀ i, i < j → eqAt n k a b c k' a' b' c' i = true) ∧ Hid (Below w.heap.size w wr) ∧ Hid (Box4 wr w.heap.size k a b c) ∧ Hid (Box4 wr (w.heap.size + 1) k' a' b' c')) (fun iv _ => M - (intOf iv).toNat)
  case atStart => exact ⟨0, by omega, rfl, fun i hi => absurd hi (by omega), HB0.out, HX0.out, HY0.out⟩
  case round =>
    obtain ⟨j, hj, rfl, HE, HB, HX, HY⟩ := hrel
    by_cases hlt : j < M
    · obtain ⟨c0, c1, c2, c3⟩ := HX.out
      obtain ⟨d0, d1, d2, d3⟩ := HY.out
      have k0 := cell_regrown c0
      have k1 := cell_regrown c1
      have k2 := cell_regrown c2
      have k3 := cell_regrown c3
      have l0 := cell_regrown d0
      have l1 := cell_regrown d1
      have l2 := cell_regrown d2
      have l3 := cell_regrown d3
      clear c0 c1 c2 c3 d0 d1 d2 d3
      obtain ⟨X, hX⟩ : ∃ X, X = (gateRun n k' a' b' c' (gateRun n k a b c j) != gateRun n k a b c (gateRun n k' a' b' c' j)) := ⟨_, rfl⟩
      have HEQ := Lib.hid (show eqAt n k a b c k' a' b' c' j = !X by rw [eqAt, hX, bne, Bool.not_not])
      cases X
      · have e1 := hX.symm
        clear hX
        go_wp2_with fail
        refine wp_region_below (by kernel_rfl) (by kernel_rfl) ?_
        repeat (go_big_quiet_step ((go_at_call 33; exact below_of rfl (fun W => sGateRun_any _ _ _ _ _ _ W))))
        refine wpQuiet_nil ?_
        intro p
        obtain ⟨w3, hw3⟩ : ∃ w3, grow (redrawn wr p.d) p.os = w3 := ⟨_, rfl⟩
        have hb3 : Below wr.heap.size wr w3 := by rw [← hw3]; exact below_regrown wr p.d p.os
        rw [hw3]
        have HB3 := hide (bseq HB.out hb3)
        have HX3 := hide (HX.out.below hb3)
        have HY3 := hide (HY.out.below hb3)
        clear hw3 hb3 k0 k1 k2 k3 l0 l1 l2 l3
        go_wp2_with fail
        go_roundw
        case rel =>
          refine ⟨j + 1, by omega, by go_num, fun i hi => ?_, HB3.out, HX3.out, HY3.out⟩
          rcases Nat.lt_or_ge i j with h | h
          · exact HE.out i h
          · obtain rfl : i = j := by omega
            exact HEQ.out
        case measure => (simp [intOf]; try omega)
      · have e1 := hX.symm
        clear hX
        go_wp2_with fail
        refine wp_region_below (by kernel_rfl) (by kernel_rfl) ?_
        repeat (go_big_quiet_step ((go_at_call 33; exact below_of rfl (fun W => sGateRun_any _ _ _ _ _ _ W))))
        refine wpQuiet_nil ?_
        intro p
        obtain ⟨w3, hw3⟩ : ∃ w3, grow (redrawn wr p.d) p.os = w3 := ⟨_, rfl⟩
        have hb3 : Below wr.heap.size wr w3 := by rw [← hw3]; exact below_regrown wr p.d p.os
        rw [hw3]
        have HB3 := hide (bseq HB.out hb3)
        have HX3 := hide (HX.out.below hb3)
        have HY3 := hide (HY.out.below hb3)
        clear hw3 hb3 k0 k1 k2 k3 l0 l1 l2 l3
        have HQ2 := Lib.hid (all_range_no hlt HEQ.out)
        go_wp2_with fail
        go_ret
        exact ⟨by rw [HQ.out, HQ2.out, Bool.and_false]; rfl, HB3.out⟩
    · obtain rfl : j = M := by omega
      have HQ2 := Lib.hid (all_range_yes HE.out)
      obtain ⟨c0, c1, c2, c3⟩ := HX.out
      cases hg : gateQ n k a b c
      · have HG := Lib.hid hg
        clear hg
        go_wp2_with fail
        refine (sGateValid_b false _ _ _ _ _ HG.out _).mono ?_
        rintro e w1 ⟨rfl, hb1⟩
        have HB1 := hide (bseq HB.out hb1)
        clear hb1
        go_wp2_with fail
        go_ret
        exact ⟨by rw [HQ.out, HG.out]; rfl, HB1.out⟩
      · have HG := Lib.hid hg
        clear hg
        go_wp2_with fail
        refine (sGateValid_b true _ _ _ _ _ HG.out _).mono ?_
        rintro e w1 ⟨rfl, hb1⟩
        have HB1 := hide (bseq HB.out hb1)
        obtain ⟨d0, d1, d2, d3⟩ := HY.out.below hb1
        clear hb1
        cases hg' : gateQ n k' a' b' c'
        all_goals
          have HG' := Lib.hid hg'
          clear hg'
          go_wp2_with fail
          refine (sGateValid_b _ _ _ _ _ _ HG'.out _).mono ?_
          rintro e w2 ⟨rfl, hb2⟩
          have HB2 := hide (bseq HB1.out hb2)
          clear hb2
          go_wp2_with fail
          go_ret
          exact ⟨by rw [HQ.out, HG.out, HG'.out, HQ2.out]; rfl, HB2.out⟩
set_option maxHeartbeats 8000000 in
theorem sCommute_neg (l k a b c k' a' b' c' : Int) (hl : l < 0) (w : World) :
    Calls Try.prog 31 #[.int .i64 l, .agg #[.int .i64 k, .int .i64 a, .int .i64 b, .int .i64 c], .agg #[.int .i64 k', .int .i64 a', .int .i64 b', .int .i64 c']] w fun e w' => e = .returned (.bool (commQ l k a b c k' a' b' c')) ∧ Below w.heap.size w w' := by
  have HB0 := hide (show Below w.heap.size w ((w.alloc (.cells #[.int .i64 k, .int .i64 a, .int .i64 b, .int .i64 c] 33)).alloc (.cells #[.int .i64 k', .int .i64 a', .int .i64 b', .int .i64 c'] 33)) by go_grown)
  have HX0 := hide ((Box4.made w k a b c 33).below ((Below.refl _ (w.alloc (.cells #[.int .i64 k, .int .i64 a, .int .i64 b, .int .i64 c] 33))).alloc (Nat.le_refl _) (.cells #[.int .i64 k', .int .i64 a', .int .i64 b', .int .i64 c'] 33)))
  have HY0 : Hid (Box4 ((w.alloc (.cells #[.int .i64 k, .int .i64 a, .int .i64 b, .int .i64 c] 33)).alloc (.cells #[.int .i64 k', .int .i64 a', .int .i64 b', .int .i64 c'] 33)) (w.heap.size + 1) k' a' b' c') := by
    have := Box4.made (w.alloc (.cells #[.int .i64 k, .int .i64 a, .int .i64 b, .int .i64 c] 33)) k' a' b' c' 33
    rwa [World.size_alloc] at this
  have HQ := Lib.hid (commQ_eq l k a b c k' a' b' c')
  have hM := words8_le l
  have hM1 : words8 l = 1 := by unfold words8; rw [if_pos (by omega)]
  obtain ⟨M, hMM⟩ : ∃ M, words8 l = M := ⟨_, rfl⟩
  rw [hMM] at hM HQ hM1
  subst hM1
  clear hMM
  go_enter Try.func31, Try.ntmps31
  go_wp2_with fail
  go_loopw [7] (fun iv wr => ∃ j : Nat, j ≤ 1 ∧ iv = .int .i64 j ∧ Hid (∀ i, i < j → eqAt l k a b c k' a' b' c' i = true) ∧ Hid (Below w.heap.size w wr) ∧ Hid (Box4 wr w.heap.size k a b c) ∧ Hid (Box4 wr (w.heap.size + 1) k' a' b' c')) (fun iv _ => 1 - (intOf iv).toNat)
  case atStart => exact ⟨0, by omega, rfl, fun i hi => absurd hi (by omega), HB0.out, HX0.out, HY0.out⟩
  case round =>
    obtain ⟨j, hj, rfl, HE, HB, HX, HY⟩ := hrel
    by_cases hlt : j < 1
    · obtain ⟨c0, c1, c2, c3⟩ := HX.out
      obtain ⟨d0, d1, d2, d3⟩ := HY.out
      have k0 := cell_regrown c0
      have k1 := cell_regrown c1
      have k2 := cell_regrown c2
      have k3 := cell_regrown c3
      have l0 := cell_regrown d0
      have l1 := cell_regrown d1
      have l2 := cell_regrown d2
      have l3 := cell_regrown d3
      clear c0 c1 c2 c3 d0 d1 d2 d3
      obtain ⟨X, hX⟩ : ∃ X, X = (gateRun l k' a' b' c' (gateRun l k a b c j) != gateRun l k a b c (gateRun l k' a' b' c' j)) := ⟨_, rfl⟩
      have HEQ := Lib.hid (show eqAt l k a b c k' a' b' c' j = !X by rw [eqAt, hX, bne, Bool.not_not])
      cases X
      · have e1 := hX.symm
        clear hX
        go_wp2_with fail
        refine wp_region_below (by kernel_rfl) (by kernel_rfl) ?_
        repeat (go_big_quiet_step ((go_at_call 33; exact below_of rfl (fun W => sGateRun_any _ _ _ _ _ _ W))))
        refine wpQuiet_nil ?_
        intro p
        obtain ⟨w3, hw3⟩ : ∃ w3, grow (redrawn wr p.d) p.os = w3 := ⟨_, rfl⟩
        have hb3 : Below wr.heap.size wr w3 := by rw [← hw3]; exact below_regrown wr p.d p.os
        rw [hw3]
        have HB3 := hide (bseq HB.out hb3)
        have HX3 := hide (HX.out.below hb3)
        have HY3 := hide (HY.out.below hb3)
        clear hw3 hb3 k0 k1 k2 k3 l0 l1 l2 l3
        go_wp2_with fail
        go_roundw
        case rel =>
          refine ⟨j + 1, by omega, by go_num, fun i hi => ?_, HB3.out, HX3.out, HY3.out⟩
          rcases Nat.lt_or_ge i j with h | h
          · exact HE.out i h
          · obtain rfl : i = j := by omega
            exact HEQ.out
        case measure => (simp [intOf]; try omega)
      · have e1 := hX.symm
        clear hX
        go_wp2_with fail
        refine wp_region_below (by kernel_rfl) (by kernel_rfl) ?_
        repeat (go_big_quiet_step ((go_at_call 33; exact below_of rfl (fun W => sGateRun_any _ _ _ _ _ _ W))))
        refine wpQuiet_nil ?_
        intro p
        obtain ⟨w3, hw3⟩ : ∃ w3, grow (redrawn wr p.d) p.os = w3 := ⟨_, rfl⟩
        have hb3 : Below wr.heap.size wr w3 := by rw [← hw3]; exact below_regrown wr p.d p.os
        rw [hw3]
        have HB3 := hide (bseq HB.out hb3)
        have HX3 := hide (HX.out.below hb3)
        have HY3 := hide (HY.out.below hb3)
        clear hw3 hb3 k0 k1 k2 k3 l0 l1 l2 l3
        have HQ2 := Lib.hid (all_range_no hlt HEQ.out)
        go_wp2_with fail
        go_ret
        exact ⟨by rw [HQ.out, HQ2.out, Bool.and_false]; rfl, HB3.out⟩
    · obtain rfl : j = 1 := by omega
      have HQ2 := Lib.hid (all_range_yes HE.out)
      obtain ⟨c0, c1, c2, c3⟩ := HX.out
      cases hg : gateQ l k a b c
      · have HG := Lib.hid hg
        clear hg
        go_wp2_with fail
        refine (sGateValid_b false _ _ _ _ _ HG.out _).mono ?_
        rintro e w1 ⟨rfl, hb1⟩
        have HB1 := hide (bseq HB.out hb1)
        clear hb1
        go_wp2_with fail
        go_ret
        exact ⟨by rw [HQ.out, HG.out]; rfl, HB1.out⟩
      · have HG := Lib.hid hg
        clear hg
        go_wp2_with fail
        refine (sGateValid_b true _ _ _ _ _ HG.out _).mono ?_
        rintro e w1 ⟨rfl, hb1⟩
        have HB1 := hide (bseq HB.out hb1)
        obtain ⟨d0, d1, d2, d3⟩ := HY.out.below hb1
        clear hb1
        cases hg' : gateQ l k' a' b' c'
        all_goals
          have HG' := Lib.hid hg'
          clear hg'
          go_wp2_with fail
          refine (sGateValid_b _ _ _ _ _ _ HG'.out _).mono ?_
          rintro e w2 ⟨rfl, hb2⟩
          have HB2 := hide (bseq HB1.out hb2)
          clear hb2
          go_wp2_with fail
          go_ret
          exact ⟨by rw [HQ.out, HG.out, HG'.out, HQ2.out]; rfl, HB2.out⟩
set_option maxHeartbeats 8000000 in
theorem sCommute_zero (k a b c k' a' b' c' : Int) (w : World) :
    Calls Try.prog 31 #[.int .i64 0, .agg #[.int .i64 k, .int .i64 a, .int .i64 b, .int .i64 c], .agg #[.int .i64 k', .int .i64 a', .int .i64 b', .int .i64 c']] w fun e w' => e = .returned (.bool (commQ 0 k a b c k' a' b' c')) ∧ Below w.heap.size w w' := by
  have HB0 := hide (show Below w.heap.size w ((w.alloc (.cells #[.int .i64 k, .int .i64 a, .int .i64 b, .int .i64 c] 33)).alloc (.cells #[.int .i64 k', .int .i64 a', .int .i64 b', .int .i64 c'] 33)) by go_grown)
  have HX0 := hide ((Box4.made w k a b c 33).below ((Below.refl _ (w.alloc (.cells #[.int .i64 k, .int .i64 a, .int .i64 b, .int .i64 c] 33))).alloc (Nat.le_refl _) (.cells #[.int .i64 k', .int .i64 a', .int .i64 b', .int .i64 c'] 33)))
  have HY0 : Hid (Box4 ((w.alloc (.cells #[.int .i64 k, .int .i64 a, .int .i64 b, .int .i64 c] 33)).alloc (.cells #[.int .i64 k', .int .i64 a', .int .i64 b', .int .i64 c'] 33)) (w.heap.size + 1) k' a' b' c') := by
    have := Box4.made (w.alloc (.cells #[.int .i64 k, .int .i64 a, .int .i64 b, .int .i64 c] 33)) k' a' b' c' 33
    rwa [World.size_alloc] at this
  have HQ := Lib.hid (commQ_eq 0 k a b c k' a' b' c')
  have hM := words8_le 0
  have hM1 : words8 0 = 1 := by unfold words8; rw [if_pos (by omega)]
  obtain ⟨M, hMM⟩ : ∃ M, words8 0 = M := ⟨_, rfl⟩
  rw [hMM] at hM HQ hM1
  subst hM1
  clear hMM
  go_enter Try.func31, Try.ntmps31
  go_wp2_with fail
  go_loopw [7] (fun iv wr => ∃ j : Nat, j ≤ 1 ∧ iv = .int .i64 j ∧ Hid (∀ i, i < j → eqAt 0 k a b c k' a' b' c' i = true) ∧ Hid (Below w.heap.size w wr) ∧ Hid (Box4 wr w.heap.size k a b c) ∧ Hid (Box4 wr (w.heap.size + 1) k' a' b' c')) (fun iv _ => 1 - (intOf iv).toNat)
  case atStart => exact ⟨0, by omega, rfl, fun i hi => absurd hi (by omega), HB0.out, HX0.out, HY0.out⟩
  case round =>
    obtain ⟨j, hj, rfl, HE, HB, HX, HY⟩ := hrel
    by_cases hlt : j < 1
    · obtain ⟨c0, c1, c2, c3⟩ := HX.out
      obtain ⟨d0, d1, d2, d3⟩ := HY.out
      have k0 := cell_regrown c0
      have k1 := cell_regrown c1
      have k2 := cell_regrown c2
      have k3 := cell_regrown c3
      have l0 := cell_regrown d0
      have l1 := cell_regrown d1
      have l2 := cell_regrown d2
      have l3 := cell_regrown d3
      clear c0 c1 c2 c3 d0 d1 d2 d3
      obtain ⟨X, hX⟩ : ∃ X, X = (gateRun 0 k' a' b' c' (gateRun 0 k a b c j) != gateRun 0 k a b c (gateRun 0 k' a' b' c' j)) := ⟨_, rfl⟩
      have HEQ := Lib.hid (show eqAt 0 k a b c k' a' b' c' j = !X by rw [eqAt, hX, bne, Bool.not_not])
      cases X
      · have e1 := hX.symm
        clear hX
        go_wp2_with fail
        refine wp_region_below (by kernel_rfl) (by kernel_rfl) ?_
        repeat (go_big_quiet_step ((go_at_call 33; exact below_of rfl (fun W => sGateRun_any _ _ _ _ _ _ W))))
        refine wpQuiet_nil ?_
        intro p
        obtain ⟨w3, hw3⟩ : ∃ w3, grow (redrawn wr p.d) p.os = w3 := ⟨_, rfl⟩
        have hb3 : Below wr.heap.size wr w3 := by rw [← hw3]; exact below_regrown wr p.d p.os
        rw [hw3]
        have HB3 := hide (bseq HB.out hb3)
        have HX3 := hide (HX.out.below hb3)
        have HY3 := hide (HY.out.below hb3)
        clear hw3 hb3 k0 k1 k2 k3 l0 l1 l2 l3
        go_wp2_with fail
        go_roundw
        case rel =>
          refine ⟨j + 1, by omega, by go_num, fun i hi => ?_, HB3.out, HX3.out, HY3.out⟩
          rcases Nat.lt_or_ge i j with h | h
          · exact HE.out i h
          · obtain rfl : i = j := by omega
            exact HEQ.out
        case measure => (simp [intOf]; try omega)
      · have e1 := hX.symm
        clear hX
        go_wp2_with fail
    · obtain rfl : j = 1 := by omega
      have HQ2 := Lib.hid (all_range_yes HE.out)
      obtain ⟨c0, c1, c2, c3⟩ := HX.out
      cases hg : gateQ 0 k a b c
      · have HG := Lib.hid hg
        clear hg
        go_wp2_with fail
        refine (sGateValid_b false _ _ _ _ _ HG.out _).mono ?_
        rintro e w1 ⟨rfl, hb1⟩
        have HB1 := hide (bseq HB.out hb1)
        clear hb1
        go_wp2_with fail
        go_ret
        exact ⟨by rw [HQ.out, HG.out]; rfl, HB1.out⟩
      · have HG := Lib.hid hg
        clear hg
        go_wp2_with fail
        refine (sGateValid_b true _ _ _ _ _ HG.out _).mono ?_
        rintro e w1 ⟨rfl, hb1⟩
        have HB1 := hide (bseq HB.out hb1)
        obtain ⟨d0, d1, d2, d3⟩ := HY.out.below hb1
        clear hb1
        cases hg' : gateQ 0 k' a' b' c'
        all_goals
          have HG' := Lib.hid hg'
          clear hg'
          go_wp2_with fail
          refine (sGateValid_b _ _ _ _ _ _ HG'.out _).mono ?_
          rintro e w2 ⟨rfl, hb2⟩
          have HB2 := hide (bseq HB1.out hb2)
          clear hb2
          go_wp2_with fail
          go_ret
          exact ⟨by rw [HQ.out, HG.out, HG'.out, HQ2.out]; rfl, HB2.out⟩
set_option maxRecDepth 100000 in
set_option maxHeartbeats 8000000 in
theorem sCommute_high (l k a b c k' a' b' c' : Int) (hl : 9 ≤ l) (w : World) :
    Calls Try.prog 31 #[.int .i64 l, .agg #[.int .i64 k, .int .i64 a, .int .i64 b, .int .i64 c], .agg #[.int .i64 k', .int .i64 a', .int .i64 b', .int .i64 c']] w fun e w' => e = .returned (.bool (commQ l k a b c k' a' b' c')) ∧ Below w.heap.size w w' := by
  have HB0 := hide (show Below w.heap.size w ((w.alloc (.cells #[.int .i64 k, .int .i64 a, .int .i64 b, .int .i64 c] 33)).alloc (.cells #[.int .i64 k', .int .i64 a', .int .i64 b', .int .i64 c'] 33)) by go_grown)
  have HX0 := hide ((Box4.made w k a b c 33).below ((Below.refl _ (w.alloc (.cells #[.int .i64 k, .int .i64 a, .int .i64 b, .int .i64 c] 33))).alloc (Nat.le_refl _) (.cells #[.int .i64 k', .int .i64 a', .int .i64 b', .int .i64 c'] 33)))
  have HY0 : Hid (Box4 ((w.alloc (.cells #[.int .i64 k, .int .i64 a, .int .i64 b, .int .i64 c] 33)).alloc (.cells #[.int .i64 k', .int .i64 a', .int .i64 b', .int .i64 c'] 33)) (w.heap.size + 1) k' a' b' c') := by
    have := Box4.made (w.alloc (.cells #[.int .i64 k, .int .i64 a, .int .i64 b, .int .i64 c] 33)) k' a' b' c' 33
    rwa [World.size_alloc] at this
  have HQ := Lib.hid (commQ_eq l k a b c k' a' b' c')
  have hM := words8_le l
  have hM1 : words8 l = 256 := by unfold words8; rw [if_neg (by omega), if_pos (by omega)]
  obtain ⟨M, hMM⟩ : ∃ M, words8 l = M := ⟨_, rfl⟩
  rw [hMM] at hM HQ hM1
  subst hM1
  clear hMM
  go_enter Try.func31, Try.ntmps31
  go_wp2_with fail
  go_loopw [7] (fun iv wr => ∃ j : Nat, j ≤ 256 ∧ iv = .int .i64 j ∧ Hid (∀ i, i < j → eqAt l k a b c k' a' b' c' i = true) ∧ Hid (Below w.heap.size w wr) ∧ Hid (Box4 wr w.heap.size k a b c) ∧ Hid (Box4 wr (w.heap.size + 1) k' a' b' c')) (fun iv _ => 256 - (intOf iv).toNat)
  case atStart => exact ⟨0, by omega, rfl, fun i hi => absurd hi (by omega), HB0.out, HX0.out, HY0.out⟩
  case round =>
    obtain ⟨j, hj, rfl, HE, HB, HX, HY⟩ := hrel
    by_cases hlt : j < 256
    · obtain ⟨c0, c1, c2, c3⟩ := HX.out
      obtain ⟨d0, d1, d2, d3⟩ := HY.out
      have k0 := cell_regrown c0
      have k1 := cell_regrown c1
      have k2 := cell_regrown c2
      have k3 := cell_regrown c3
      have l0 := cell_regrown d0
      have l1 := cell_regrown d1
      have l2 := cell_regrown d2
      have l3 := cell_regrown d3
      clear c0 c1 c2 c3 d0 d1 d2 d3
      obtain ⟨X, hX⟩ : ∃ X, X = (gateRun l k' a' b' c' (gateRun l k a b c j) != gateRun l k a b c (gateRun l k' a' b' c' j)) := ⟨_, rfl⟩
      have HEQ := Lib.hid (show eqAt l k a b c k' a' b' c' j = !X by rw [eqAt, hX, bne, Bool.not_not])
      cases X
      · have e1 := hX.symm
        clear hX
        go_wp2_with fail
        refine wp_region_below (by kernel_rfl) (by kernel_rfl) ?_
        repeat (go_big_quiet_step ((go_at_call 33; exact below_of rfl (fun W => sGateRun_any _ _ _ _ _ _ W))))
        refine wpQuiet_nil ?_
        intro p
        obtain ⟨w3, hw3⟩ : ∃ w3, grow (redrawn wr p.d) p.os = w3 := ⟨_, rfl⟩
        have hb3 : Below wr.heap.size wr w3 := by rw [← hw3]; exact below_regrown wr p.d p.os
        rw [hw3]
        have HB3 := hide (bseq HB.out hb3)
        have HX3 := hide (HX.out.below hb3)
        have HY3 := hide (HY.out.below hb3)
        clear hw3 hb3 k0 k1 k2 k3 l0 l1 l2 l3
        go_wp2_with fail
        go_roundw
        case rel =>
          refine ⟨j + 1, by omega, by go_num, fun i hi => ?_, HB3.out, HX3.out, HY3.out⟩
          rcases Nat.lt_or_ge i j with h | h
          · exact HE.out i h
          · obtain rfl : i = j := by omega
            exact HEQ.out
        case measure => (simp [intOf]; try omega)
      · have e1 := hX.symm
        clear hX
        go_wp2_with fail
        refine wp_region_below (by kernel_rfl) (by kernel_rfl) ?_
        repeat (go_big_quiet_step ((go_at_call 33; exact below_of rfl (fun W => sGateRun_any _ _ _ _ _ _ W))))
        refine wpQuiet_nil ?_
        intro p
        obtain ⟨w3, hw3⟩ : ∃ w3, grow (redrawn wr p.d) p.os = w3 := ⟨_, rfl⟩
        have hb3 : Below wr.heap.size wr w3 := by rw [← hw3]; exact below_regrown wr p.d p.os
        rw [hw3]
        have HB3 := hide (bseq HB.out hb3)
        have HX3 := hide (HX.out.below hb3)
        have HY3 := hide (HY.out.below hb3)
        clear hw3 hb3 k0 k1 k2 k3 l0 l1 l2 l3
        have HQ2 := Lib.hid (all_range_no hlt HEQ.out)
        go_wp2_with fail
        go_ret
        exact ⟨by rw [HQ.out, HQ2.out, Bool.and_false]; rfl, HB3.out⟩
    · obtain rfl : j = 256 := by omega
      have HQ2 := Lib.hid (all_range_yes HE.out)
      obtain ⟨c0, c1, c2, c3⟩ := HX.out
      cases hg : gateQ l k a b c
      · have HG := Lib.hid hg
        clear hg
        go_wp2_with fail
        refine (sGateValid_b false _ _ _ _ _ HG.out _).mono ?_
        rintro e w1 ⟨rfl, hb1⟩
        have HB1 := hide (bseq HB.out hb1)
        clear hb1
        go_wp2_with fail
        go_ret
        exact ⟨by rw [HQ.out, HG.out]; rfl, HB1.out⟩
      · have HG := Lib.hid hg
        clear hg
        go_wp2_with fail
        refine (sGateValid_b true _ _ _ _ _ HG.out _).mono ?_
        rintro e w1 ⟨rfl, hb1⟩
        have HB1 := hide (bseq HB.out hb1)
        obtain ⟨d0, d1, d2, d3⟩ := HY.out.below hb1
        clear hb1
        cases hg' : gateQ l k' a' b' c'
        all_goals
          have HG' := Lib.hid hg'
          clear hg'
          go_wp2_with fail
          refine (sGateValid_b _ _ _ _ _ _ HG'.out _).mono ?_
          rintro e w2 ⟨rfl, hb2⟩
          have HB2 := hide (bseq HB1.out hb2)
          clear hb2
          go_wp2_with fail
          go_ret
          exact ⟨by rw [HQ.out, HG.out, HG'.out, HQ2.out]; rfl, HB2.out⟩
theorem sCommute_any (l k a b c k' a' b' c' : Int) (w : World) :
    Calls Try.prog 31 #[.int .i64 l, .agg #[.int .i64 k, .int .i64 a, .int .i64 b, .int .i64 c], .agg #[.int .i64 k', .int .i64 a', .int .i64 b', .int .i64 c']] w fun e w' => e = .returned (.bool (commQ l k a b c k' a' b' c')) ∧ Below w.heap.size w w' := by
  rcases (show l ≤ 0 ∨ (1 ≤ l ∧ l ≤ 8) ∨ 9 ≤ l by omega) with h | h | h
  · by_cases h0 : l = 0
    · subst h0; exact sCommute_zero k a b c k' a' b' c' w
    · exact sCommute_neg l k a b c k' a' b' c' (by omega) w
  · exact sCommute_mid l k a b c k' a' b' c' h w
  · exact sCommute_high l k a b c k' a' b' c' h w
end Go.Proofs.Ytdkphnojloanoaa
