/-
  Which gates are valid, by the program and by the reference.
  No condition.
-/
import Derived.Test.YtpklpebngholcaaGates
import Derived.Test.YtpklpebngholcaaBox
namespace Go.Proofs.Ytpklpebngholcaa
open Go.RowKit Go.Sort base
theorem and_one (x : Int) (h : 0 ≤ x ∧ x < 9223372036854775808) : bits .and .i64 x 1 = x % 2 := by
  obtain ⟨a, rfl⟩ := Int.eq_ofNat_of_zero_le h.1
  have := i64_and_nat a 1 (by omega) (by omega)
  rw [show ((1 : Nat) : Int) = 1 by rfl] at this
  rw [this, Nat.and_one_is_mod]
  omega
theorem kLines_in (k : Int) : 1 ≤ kLines k ∧ kLines k ≤ 7 := by unfold kLines; split <;> (try split) <;> (try split) <;> (try split) <;> omega
theorem kLines_not (k : Int) : bits .xor .i64 (-1) (kLines k) = -1 - kLines k := by
  unfold kLines
  split
  · decide +kernel
  split
  · decide +kernel
  split
  · decide +kernel
  split <;> decide +kernel
theorem wrap_pow {z : Nat} (hz : z ≤ 7) : wrap64 (2 ^ z) = ((2 ^ z : Nat) : Int) := by
  rcases (show z = 0 ∨ z = 1 ∨ z = 2 ∨ z = 3 ∨ z = 4 ∨ z = 5 ∨ z = 6 ∨ z = 7 by omega) with rfl | rfl | rfl | rfl | rfl | rfl | rfl | rfl <;> decide +kernel
theorem or_pow {m z : Nat} (hm : m < 256) (hz : z ≤ 7) : bits .or .i64 (m : Int) (wrap64 (2 ^ z)) = ((m ||| 2 ^ z : Nat) : Int) := by
  have := two_pow_lt8 (show z < 8 by omega)
  rw [wrap_pow hz, i64_or_nat m (2 ^ z) (by omega) (by omega)]
theorem shr_bit {m n : Nat} : (m : Int) / 2 ^ n % 2 = ((m / 2 ^ n % 2 : Nat) : Int) := by simp
/- what nature's answer is laid in: a box of its own -/
def natWorld (w1 : World) (k : Int) : World := w1.alloc (.cells #[.string ⟨kName k⟩, .int .i64 (kLines k), .int .i64 (kChanges k), .int .i64 (kCost k)] 87)
theorem natWorld_size (w1 : World) (k : Int) : (natWorld w1 k).heap.size = w1.heap.size + 1 := by simp [natWorld]
theorem natWorld_below (w1 : World) (k : Int) : Below w1.heap.size w1 (natWorld w1 k) := (Below.refl _ w1).alloc (Nat.le_refl _) _
theorem natWorld_box {w1 : World} {g : Nat} {k a b c : Int} (j : Int) (h : Box4 w1 g k a b c) : Box4 (natWorld w1 j) g k a b c := h.below (natWorld_below w1 j)
theorem natWorld_lines (w1 : World) (k : Int) : (natWorld w1 k).cell? ⟨w1.heap.size, 1, none⟩ = some (.int .i64 (kLines k)) := cell_at rfl rfl
set_option maxHeartbeats 4000000 in
theorem gateValid_any (l k a b c : Int) (w : World) :
    Calls Try.prog 52 #[.int .i64 l, .agg #[.int .i64 k, .int .i64 a, .int .i64 b, .int .i64 c]] w fun e w' => e = .returned (.bool (gateQ l k a b c)) ∧ Below w.heap.size w w' := by
  have HB0 := hide (show Below w.heap.size w (w.alloc (.cells #[.int .i64 k, .int .i64 a, .int .i64 b, .int .i64 c] 60)) by go_grown)
  have HX0 := hide (Box4.made w k a b c 60)
  cases hk : kindQ k
  · have HQ := Lib.hid (show gateQ l k a b c = false by simp [gateQ, hk])
    have HK := Lib.hid hk
    clear hk
    go_enter Try.func52, Try.ntmps52
    go_wp2_with fail
    refine (nature_no k a b c HK.out _).mono ?_
    rintro e w1 ⟨rfl, hb1⟩
    go_wp2_with fail
    go_ret
    refine ⟨by rw [HQ.out]; rfl, ?_⟩
    have := HB0.out.trans (hb1.mono HB0.out.size)
    exact this.alloc (by have := this.size; omega) _
  · have HK := Lib.hid hk
    have HL := kLines_in k
    clear hk
    cases hl : lnOk l
    · have HQ := Lib.hid (show gateQ l k a b c = false by simp [gateQ, hl])
      have HLn := Lib.hid hl
      clear hl
      go_enter Try.func52, Try.ntmps52
      go_wp2_with fail
      refine (nature_ok k a b c HK.out _).mono ?_
      rintro e w1 ⟨rfl, hb1⟩
      have HB1 := hide (HB0.out.trans (hb1.mono HB0.out.size))
      clear hb1
      go_wp2_with fail
      refine calls_named fun wr hwr => ?_
      obtain rfl : natWorld w1 k = wr := hwr
      refine (linesOk_b false _ HLn.out _).mono ?_
      rintro e w' ⟨rfl, rfl⟩
      go_wp2_with fail
      go_ret
      exact ⟨by rw [HQ.out]; rfl, HB1.out.trans ((natWorld_below w1 k).mono HB1.out.size)⟩
    · obtain ⟨hl1, hl2⟩ := lnOk_iff.1 hl
      have HLn := Lib.hid hl
      clear hl
      go_enter Try.func52, Try.ntmps52
      go_wp2_with fail
      refine (nature_ok k a b c HK.out _).mono ?_
      rintro e w1 ⟨rfl, hb1⟩
      have HB1 := hide (HB0.out.trans (hb1.mono HB0.out.size))
      have HX1 := hide (HX0.out.below hb1)
      clear hb1
      go_wp2_with fail
      refine calls_named fun wr hwr => ?_
      obtain rfl : natWorld w1 k = wr := hwr
      have HB2 := hide (HB1.out.trans ((natWorld_below w1 k).mono HB1.out.size))
      have HX2 := hide (natWorld_box k HX1.out)
      obtain ⟨wn, hwn⟩ : ∃ wn, natWorld w1 k = wn := ⟨_, rfl⟩
      have hc1 := natWorld_lines w1 k
      have hz1 := natWorld_size w1 k
      have hs1 := HB1.out.size
      rw [hwn] at HB2 HX2 hc1 hz1 ⊢
      clear hwn
      refine (linesOk_b true _ HLn.out _).mono ?_
      rintro e w' ⟨rfl, rfl⟩
      obtain ⟨c0, c1, c2, c3⟩ := HX2.out
      go_wp2_with fail
      clear c0 c1 c2 c3
      refine (some_any k a b c (kLines k) (by omega) _).mono ?_
      rintro e w2 ⟨⟨v, rfl, ho⟩, hb2⟩
      obtain ⟨A, n, cp, rfl, hr⟩ := ho.slice'
      have HB3 := hide (HB2.out.trans (hb2.mono HB2.out.size))
      have HX3 := hide (HX2.out.below hb2)
      have hd1 : w2.cell? ⟨w1.heap.size, 1, none⟩ = some (.int .i64 (kLines k)) := (hb2.cell (p := ⟨w1.heap.size, 1, none⟩) (by simp; omega)).trans hc1
      clear hc1 hb2 ho
      have hn3 : n ≤ 3 := by have := hr.len; have := someOf_len a b c (kLines k); omega
      have HLen := Lib.hid hr.len
      have hat := hr.at_
      clear hr
      obtain ⟨L, hL⟩ : ∃ L, someOf a b c (kLines k) = L := ⟨_, rfl⟩
      rw [hL] at HLen hat
      have HLL := Lib.hid hL
      clear hL
      go_wp2_with fail
      go_loop [7, 29] (fun sv iv => ∃ j : Nat, j ≤ n ∧ iv = .int .i64 j ∧ sv = .int .i64 (mask (L.take j) : Nat) ∧ Hid (∀ i, i < j → goodLn l L i = true)) (fun _ iv => n - (intOf iv).toNat)
      case atStart => exact ⟨0, by omega, rfl, rfl, fun i hi => absurd hi (by omega)⟩
      case round =>
        obtain ⟨j, hj, rfl, rfl, HG⟩ := hrel
        by_cases hlt : j < n
        · obtain ⟨bb, o, rfl, hbl, hcc⟩ := hat (by omega)
          have h1 := hcc j hlt
          clear hcc hat
          cases hin : inLn l (nth L j)
          · have HQ := Lib.hid (show gateQ l k a b c = false by
              have := goodLs_no (k := j) (by rw [HLen.out]; exact hlt) (show goodLn l L j = false by simp [goodLn, hin])
              simp [gateQ, HLL.out, this])
            have HI := Lib.hid hin
            clear hin
            go_wp2_with fail
            refine (within_b false _ _ _ HI.out _).mono ?_
            rintro e w' ⟨rfl, rfl⟩
            go_wp2_with fail
            go_ret
            exact ⟨by rw [HQ.out]; rfl, HB3.out⟩
          · have hin' := hin
            simp [inLn] at hin'
            obtain ⟨zn, hz⟩ := Int.eq_ofNat_of_zero_le hin'.1
            have HZ := Lib.hid hz
            have HI := Lib.hid hin
            rw [hz] at h1 hin' HI
            have hz7 : zn ≤ 7 := by omega
            clear hin hz hin'
            have hm := mask_lt (take_good hl2 (by rw [HLen.out]; exact hj) HG.out)
            have hmb := mask_bit (L := L.take j) (y := zn) (fun z hz => (take_good hl2 (by rw [HLen.out]; exact hj) HG.out z hz).1)
            obtain ⟨m, hmm⟩ : ∃ m, mask (L.take j) = m := ⟨_, rfl⟩
            rw [hmm] at hm hmb ⊢
            have HM := Lib.hid hmm
            clear hmm
            have g1 : bits .and .i64 ((m : Int) / 2 ^ zn) 1 = (m : Int) / 2 ^ zn % 2 := by
              have e2 : m / 2 ^ zn ≤ m := Nat.div_le_self _ _
              rw [show (m : Int) / 2 ^ zn = ((m / 2 ^ zn : Nat) : Int) by simp]
              generalize m / 2 ^ zn = y at e2 ⊢
              rw [and_one _ (by omega)]
            cases hb : hasQ (L.take j) (zn : Int)
            · rw [hb] at hmb
              have e1 : ((m : Int) / 2 ^ zn % 2 == 1) = false := by
                rw [shr_bit]
                have := of_decide_eq_false hmb
                generalize m / 2 ^ zn % 2 = y at this ⊢
                simp; omega
              have HG' := hide (show goodLn l L j = true by rw [goodLn, HZ.out, HI.out, hb]; rfl)
              have HM' := hide (show mask (L.take (j + 1)) = m ||| 2 ^ zn by rw [take_succ_nth (by rw [HLen.out]; exact hlt), mask_snoc, HM.out, HZ.out]; rfl)
              clear hmb hb
              go_wp2_with fail
              refine (within_b true _ _ _ HI.out _).mono ?_
              rintro e w' ⟨rfl, rfl⟩
              have G2 := hide (or_pow hm hz7)
              go_wp2_with fail
              go_round
              case rel =>
                refine ⟨j + 1, by omega, by go_num, by rw [HM'.out, ← G2.out], fun i hi => ?_⟩
                rcases Nat.lt_or_ge i j with h | h
                · exact HG.out i h
                · obtain rfl : i = j := by omega
                  exact HG'.out
              case measure => simp [intOf]; omega
            · rw [hb] at hmb
              have e1 : ((m : Int) / 2 ^ zn % 2 == 1) = true := by rw [shr_bit, of_decide_eq_true hmb]; rfl
              have HQ := Lib.hid (show gateQ l k a b c = false by
                have := goodLs_no (l := l) (k := j) (by rw [HLen.out]; exact hlt) (show goodLn l L j = false by simp [goodLn, HZ.out, hb])
                simp [gateQ, HLL.out, this])
              clear hmb hb
              go_wp2_with fail
              refine (within_b true _ _ _ HI.out _).mono ?_
              rintro e w' ⟨rfl, rfl⟩
              go_wp2_with fail
              go_ret
              exact ⟨by rw [HQ.out]; rfl, HB3.out⟩
        · obtain rfl : j = n := by omega
          have HGood := Lib.hid (show goodLs l L = true from goodLs_iff.2 (by rw [HLen.out]; exact HG.out))
          clear hat
          obtain ⟨c0, c1, c2, c3⟩ := HX3.out
          have gx := kLines_not k
          go_wp2_with fail
          clear gx
          clear c0 c1 c2 c3
          refine (some_any k a b c (-1 - kLines k) (by omega) _).mono ?_
          rintro e w3 ⟨⟨v, rfl, ho⟩, hb3⟩
          obtain ⟨A2, n2, cp2, rfl, hr⟩ := ho.slice'
          have HB4 := hide (HB3.out.trans (hb3.mono HB3.out.size))
          clear hb3 ho hd1
          have hn2 : n2 ≤ 3 := by have := hr.len; have := someOf_len a b c (-1 - kLines k); omega
          have HLen2 := Lib.hid hr.len
          have hat := hr.at_
          clear hr
          obtain ⟨L2, hL2⟩ : ∃ L2, someOf a b c (-1 - kLines k) = L2 := ⟨_, rfl⟩
          rw [hL2] at HLen2 hat
          have HQ := Lib.hid (show gateQ l k a b c = zeros L2 by simp [gateQ, HLn.out, HK.out, HLL.out, HGood.out, hL2])
          clear hL2
          go_wp2_with fail
          go_loop [56] (fun iv => ∃ j : Nat, j ≤ n2 ∧ iv = .int .i64 j ∧ (L2.take j).all isZero = true) (fun iv => n2 - (intOf iv).toNat)
          case atStart => exact ⟨0, by omega, rfl, rfl⟩
          case round =>
            obtain ⟨i, hi, rfl, hz⟩ := hrel
            have HZ := Lib.hid hz
            clear hz
            by_cases hlt2 : i < n2
            · obtain ⟨bb, o, rfl, hbl, hcc⟩ := hat (by omega)
              have h1 := hcc i hlt2
              clear hcc hat
              have HT := Lib.hid (take_succ_nth (zs := L2) (k := i) (by rw [HLen2.out]; exact hlt2))
              by_cases h0 : nth L2 i = 0
              · have HZ' := Lib.hid h0
                have e1 : (nth L2 i != 0) = false := by simpa using h0
                rw [h0] at h1
                clear h0
                go_wp2_with fail
                go_round
                case rel => exact ⟨i + 1, by omega, by go_num, by rw [HT.out, List.all_append, HZ.out, HZ'.out]; rfl⟩
                case measure => simp [intOf]; omega
              · have HZ' := Lib.hid (show zeros L2 = false by
                  unfold zeros
                  rw [List.all_eq_false]
                  exact ⟨nth L2 i, nth_mem (by rw [HLen2.out]; exact hlt2), by simpa [isZero] using h0⟩)
                have e1 : (nth L2 i != 0) = true := by simpa using h0
                clear h0
                go_wp2_with fail
                go_ret
                exact ⟨by rw [HQ.out, HZ'.out]; rfl, HB4.out⟩
            · obtain rfl : i = n2 := by omega
              have HZ' := Lib.hid (show zeros L2 = true by have := HZ.out; rwa [List.take_of_length_le (by rw [HLen2.out]; omega)] at this)
              clear hat
              go_wp2_with fail
              go_ret
              exact ⟨by rw [HQ.out, HZ'.out]; rfl, HB4.out⟩
theorem gateValid_b (v : Bool) (l k a b c : Int) (h : gateQ l k a b c = v) (w : World) :
    Calls Try.prog 52 #[.int .i64 l, .agg #[.int .i64 k, .int .i64 a, .int .i64 b, .int .i64 c]] w fun e w' => e = .returned (.bool v) ∧ Below w.heap.size w w' := by subst h; exact gateValid_any l k a b c w
end Go.Proofs.Ytpklpebngholcaa
