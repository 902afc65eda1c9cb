/-
  How many words a gate changes; which gates commute: by the program and by the reference.
  No condition.
-/
import Derived.Test.YtdkphnojloanoaaSRun
namespace Go.Proofs.Ytdkphnojloanoaa
open Go.RowKit Go.Sort base
theorem wrap_pow8 {z : Nat} (hz : z ≤ 8) : wrap64 (2 ^ z) = ((2 ^ z : Nat) : Int) := by
  rcases (show z = 0 ∨ z = 1 ∨ z = 2 ∨ z = 3 ∨ z = 4 ∨ z = 5 ∨ z = 6 ∨ z = 7 ∨ z = 8 by omega) with rfl | rfl | rfl | rfl | rfl | rfl | rfl | rfl | rfl <;> decide +kernel
theorem pow_le8 {z : Nat} (hz : z ≤ 8) : 2 ^ z ≤ 256 := Nat.pow_le_pow_right (n := 2) (by omega) hz
theorem wv_nat {n x : Nat} (h1 : 1 ≤ n) (h8 : n ≤ 8) : wv (n : Int) (x : Int) = decide (x < 2 ^ n) := by
  have hl : lnOk (n : Int) = true := lnOk_iff.2 ⟨by omega, by omega⟩
  have hp : pw (n : Int) = ((2 ^ n : Nat) : Int) := by simp [pw]
  rw [wv, hl, hp]
  generalize 2 ^ n = P
  rw [Bool.eq_iff_iff]
  simp
  omega
theorem natsG {l k a b c : Int} (h : gateQ l k a b c = true) : ∃ n a' b' c' : Nat, l = n ∧ a = a' ∧ b = b' ∧ c = c' ∧ 1 ≤ n ∧ n ≤ 8 ∧ a' < n ∧ b' < n ∧ c' < n := by
  obtain ⟨h1, h2, h3, h4⟩ := gateQ_in h
  exact ⟨l.toNat, a.toNat, b.toNat, c.toNat, by omega, by omega, by omega, by omega, by omega, by omega, by omega, by omega, by omega⟩
/-- of the words below m, how many a gate changes -/
def movesTo (k : Int) (a b c m : Nat) : Nat := ((List.range m).filter fun x => runG k a b c x != x).length
theorem movesTo_le (k : Int) (a b c m : Nat) : movesTo k a b c m ≤ m := by
  have := List.length_filter_le (fun x => runG k a b c x != x) (List.range m)
  simpa [movesTo] using this
theorem movesTo_succ (k : Int) (a b c m : Nat) : movesTo k a b c (m + 1) = movesTo k a b c m + if runG k a b c m = m then 0 else 1 := by
  unfold movesTo
  rw [List.range_succ, List.filter_append, List.length_append]
  congr 1
  by_cases h : runG k a b c m = m <;> simp [h]
def gateMoves (l k a b c : Int) : Int := if gateQ l k a b c = true then (movesTo k a.toNat b.toNat c.toNat (2 ^ l.toNat) : Nat) else -1
theorem gateMoves_no {l k a b c : Int} (h : gateQ l k a b c = false) : gateMoves l k a b c = -1 := by unfold gateMoves; rw [if_neg (by rw [h]; simp)]
theorem gateMoves_ok {k : Int} {n a b c : Nat} (h : gateQ n k a b c = true) : gateMoves n k a b c = ((movesTo k a b c (2 ^ n) : Nat) : Int) := by
  unfold gateMoves; rw [if_pos h]; simp
theorem run_b (y : Nat) (k : Int) (a b c x : Nat) (h : runG k a b c x = y) (hk : kindQ k = true) (ha : a ≤ 7) (hb : b ≤ 7) (hc : c ≤ 7) (hx : x < 256) (w : World) :
    Calls Try.prog 52 #[.agg #[.int .i64 k, .int .i64 a, .int .i64 b, .int .i64 c], .int .i64 x] w fun e w' => e = .returned (.int .i64 y) ∧ Below w.heap.size w w' := by
  subst h; exact run_any k a b c x hk ha hb hc hx w
set_option maxHeartbeats 4000000 in
theorem gateMoves_any (l k a b c : Int) (w : World) :
    Calls Try.prog 27 #[.int .i64 l, .agg #[.int .i64 k, .int .i64 a, .int .i64 b, .int .i64 c]] w fun e w' => e = .returned (.int .i64 (gateMoves l k a b c)) ∧ Below w.heap.size w w' := by
  have HB0 := hide (show Below w.heap.size w (w.alloc (.cells #[.int .i64 k, .int .i64 a, .int .i64 b, .int .i64 c] 33)) by go_grown)
  have HX0 := hide (Box4.made w k a b c 33)
  cases hg : gateQ l k a b c
  · have HG := Lib.hid hg
    clear hg
    go_enter Try.func27, Try.ntmps27
    go_wp2_with fail
    refine (gateValid_b false _ _ _ _ _ HG.out _).mono ?_
    rintro e w1 ⟨rfl, hb1⟩
    have HB1 := hide (HB0.out.trans (hb1.mono HB0.out.size))
    clear hb1
    go_wp2_with fail
    go_ret
    exact ⟨by rw [gateMoves_no HG.out]; rfl, HB1.out⟩
  · obtain ⟨n, a, b, c, rfl, rfl, rfl, rfl, hn1, hn8, ha, hb, hc⟩ := natsG hg
    have HG := Lib.hid hg
    have HK := Lib.hid (gateQ_kind hg)
    have HR := Lib.hid (gateMoves_ok hg)
    clear hg
    have hw := wrap_pow8 hn8
    have hP := pow_le8 hn8
    obtain ⟨P, hPP⟩ : ∃ P : Nat, 2 ^ n = P := ⟨_, rfl⟩
    rw [hPP] at hw hP HR
    clear hPP
    go_enter Try.func27, Try.ntmps27
    go_wp2_with fail
    refine (gateValid_b true _ _ _ _ _ HG.out _).mono ?_
    rintro e w1 ⟨rfl, hb1⟩
    have HB1 := hide (HB0.out.trans (hb1.mono HB0.out.size))
    have HX1 := hide (HX0.out.below hb1)
    clear hb1
    go_wp2_with fail
    rw [hw]
    go_loopw [5, 13] (fun mv iv wr => ∃ j : Nat, j ≤ P ∧ iv = .int .i64 j ∧ mv = .int .i64 (movesTo k a b c j : Nat) ∧ Hid (Below w.heap.size w wr) ∧ Hid (Box4 wr w.heap.size k a b c)) (fun _ iv _ => P - (intOf iv).toNat)
    case atStart => exact ⟨0, by omega, rfl, rfl, HB1.out, HX1.out⟩
    case round =>
      obtain ⟨j, hj, rfl, rfl, HB, HX⟩ := hrel
      have hml := movesTo_le k a b c j
      have HS := Lib.hid (movesTo_succ k a b c j)
      obtain ⟨M, hM⟩ : ∃ M, movesTo k a b c j = M := ⟨_, rfl⟩
      rw [hM] at hml HS ⊢
      have HM := Lib.hid hM
      clear hM
      by_cases hlt : j < P
      · obtain ⟨y, hy⟩ : ∃ y, runG k a b c j = y := ⟨_, rfl⟩
        have HY := Lib.hid hy
        clear hy
        obtain ⟨c0, c1, c2, c3⟩ := HX.out
        by_cases he : y = j
        · have e1 : ((y : Int) != (j : Int)) = false := by rw [he]; simp
          have HE := Lib.hid he
          clear he
          go_wp2_with fail
          refine (run_b y k a b c j HY.out HK.out (by omega) (by omega) (by omega) (by omega) _).mono ?_
          rintro e w2 ⟨rfl, hb2⟩
          have HB2 := hide (bseq HB.out hb2)
          have HX2 := hide (HX.out.below hb2)
          clear hb2 c0 c1 c2 c3
          go_wp2_with fail
          go_roundw
          case rel => exact ⟨j + 1, by omega, by go_num, by rw [HS.out, if_pos (by rw [HY.out, HE.out])]; rfl, HB2.out, HX2.out⟩
          case measure => simp [intOf]; omega
        · have e1 : ((y : Int) != (j : Int)) = true := by simp; omega
          have HE := Lib.hid he
          clear he
          go_wp2_with fail
          refine (run_b y k a b c j HY.out HK.out (by omega) (by omega) (by omega) (by omega) _).mono ?_
          rintro e w2 ⟨rfl, hb2⟩
          have HB2 := hide (bseq HB.out hb2)
          have HX2 := hide (HX.out.below hb2)
          clear hb2 c0 c1 c2 c3
          go_wp2_with fail
          go_roundw
          case rel => exact ⟨j + 1, by omega, by go_num, by rw [HS.out, if_neg (by rw [HY.out]; exact HE.out)]; go_num, HB2.out, HX2.out⟩
          case measure => simp [intOf]; omega
      · obtain rfl : j = P := by omega
        go_wp2_with fail
        go_ret
        exact ⟨by rw [HR.out, HM.out]; rfl, HB.out⟩
theorem sGateRun_b (v : Int) (l k a b c x : Int) (h : gateRun l k a b c x = v) (w : World) :
    Calls Try.prog 33 #[.int .i64 l, .agg #[.int .i64 k, .int .i64 a, .int .i64 b, .int .i64 c], .int .i64 x] w fun e w' => e = .returned (.int .i64 v) ∧ Below w.heap.size w w' := by
  subst h; exact sGateRun_any l k a b c x w
set_option maxHeartbeats 4000000 in
theorem sGateMoves_any (l k a b c : Int) (w : World) :
    Calls Try.prog 28 #[.int .i64 l, .agg #[.int .i64 k, .int .i64 a, .int .i64 b, .int .i64 c]] w fun e w' => e = .returned (.int .i64 (gateMoves l k a b c)) ∧ Below w.heap.size w w' := by
  have HB0 := hide (show Below w.heap.size w (w.alloc (.cells #[.int .i64 k, .int .i64 a, .int .i64 b, .int .i64 c] 33)) by go_grown)
  have HX0 := hide (Box4.made w k a b c 33)
  cases hg : gateQ l k a b c
  · have HG := Lib.hid hg
    clear hg
    go_enter Try.func28, Try.ntmps28
    go_wp2_with fail
    refine (sGateValid_b false _ _ _ _ _ HG.out _).mono ?_
    rintro e w1 ⟨rfl, hb1⟩
    have HB1 := hide (HB0.out.trans (hb1.mono HB0.out.size))
    clear hb1
    go_wp2_with fail
    go_ret
    exact ⟨by rw [gateMoves_no HG.out]; rfl, HB1.out⟩
  · obtain ⟨n, a, b, c, rfl, rfl, rfl, rfl, hn1, hn8, ha, hb, hc⟩ := natsG hg
    have HG := Lib.hid hg
    have HR := Lib.hid (gateMoves_ok hg)
    clear hg
    have hw := wrap_pow8 hn8
    have hP := pow_le8 hn8
    have HV := hide (fun x : Nat => wv_nat (x := x) hn1 hn8)
    obtain ⟨P, hPP⟩ : ∃ P : Nat, 2 ^ n = P := ⟨_, rfl⟩
    rw [hPP] at hw hP HR HV
    clear hPP
    go_enter Try.func28, Try.ntmps28
    go_wp2_with fail
    refine (sGateValid_b true _ _ _ _ _ HG.out _).mono ?_
    rintro e w1 ⟨rfl, hb1⟩
    have HB1 := hide (HB0.out.trans (hb1.mono HB0.out.size))
    have HX1 := hide (HX0.out.below hb1)
    clear hb1
    go_wp2_with fail
    go_loopw [5, 6] (fun mv iv wr => ∃ j : Nat, j ≤ P ∧ iv = .int .i64 j ∧ mv = .int .i64 (movesTo k a b c j : Nat) ∧ Hid (Below w.heap.size w wr) ∧ Hid (Box4 wr w.heap.size k a b c)) (fun _ iv _ => P - (intOf iv).toNat)
    case atStart => exact ⟨0, by omega, rfl, rfl, HB1.out, HX1.out⟩
    case round =>
      obtain ⟨j, hj, rfl, rfl, HB, HX⟩ := hrel
      have hml := movesTo_le k a b c j
      have HS := Lib.hid (movesTo_succ k a b c j)
      obtain ⟨M, hM⟩ : ∃ M, movesTo k a b c j = M := ⟨_, rfl⟩
      rw [hM] at hml HS ⊢
      have HM := Lib.hid hM
      clear hM
      by_cases hlt : j < P
      · obtain ⟨y, hy⟩ : ∃ y, runG k a b c j = y := ⟨_, rfl⟩
        have HY := Lib.hid hy
        have HY2 := Lib.hid (show gateRun n k a b c j = (y : Int) by rw [gateRun_ok HG.out (by rw [HV.out]; simpa using hlt), hy])
        clear hy
        obtain ⟨c0, c1, c2, c3⟩ := HX.out
        by_cases he : y = j
        · have e1 : ((y : Int) != (j : Int)) = false := by rw [he]; simp
          have HE := Lib.hid he
          clear he
          go_wp2_with fail
          refine (sGateRun_b y n k a b c j HY2.out _).mono ?_
          rintro e w2 ⟨rfl, hb2⟩
          have HB2 := hide (bseq HB.out hb2)
          have HX2 := hide (HX.out.below hb2)
          clear hb2 c0 c1 c2 c3
          go_wp2_with fail
          go_roundw
          case rel => exact ⟨j + 1, by omega, by go_num, by rw [HS.out, if_pos (by rw [HY.out, HE.out])]; rfl, HB2.out, HX2.out⟩
          case measure => simp [intOf]; omega
        · have e1 : ((y : Int) != (j : Int)) = true := by simp; omega
          have HE := Lib.hid he
          clear he
          go_wp2_with fail
          refine (sGateRun_b y n k a b c j HY2.out _).mono ?_
          rintro e w2 ⟨rfl, hb2⟩
          have HB2 := hide (bseq HB.out hb2)
          have HX2 := hide (HX.out.below hb2)
          clear hb2 c0 c1 c2 c3
          go_wp2_with fail
          go_roundw
          case rel => exact ⟨j + 1, by omega, by go_num, by rw [HS.out, if_neg (by rw [HY.out]; exact HE.out)]; go_num, HB2.out, HX2.out⟩
          case measure => simp [intOf]; omega
      · obtain rfl : j = P := by omega
        go_wp2_with fail
        go_ret
        exact ⟨by rw [HR.out, HM.out]; rfl, HB.out⟩
end Go.Proofs.Ytdkphnojloanoaa
