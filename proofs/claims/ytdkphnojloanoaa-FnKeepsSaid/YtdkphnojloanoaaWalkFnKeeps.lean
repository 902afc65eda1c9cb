/-
  The walk of the law FnKeeps: it returns true at every input, and turns nothing that was there.
  No condition.
-/
import Derived.Test.YtdkphnojloanoaaDrawGates
import Derived.Test.YtdkphnojloanoaaGateLaw3
import Derived.Test.YtdkphnojloanoaaMoves
namespace Go.Proofs.Ytdkphnojloanoaa
open Go.RowKit Go.Sort base
def keepsQ (l k a b c : Int) : Bool := gateQ l k a b c && keepK k

set_option maxHeartbeats 2000000 in
theorem keeps_b (v : Bool) (l k a b c : Int) (h : keepsQ l k a b c = v) (w : World) :
    Calls Try.prog 19 #[.int .i64 l, .agg #[.int .i64 k, .int .i64 a, .int .i64 b, .int .i64 c]] w fun e w' => e = .returned (.bool v) ∧ Below w.heap.size w w' := by
  have HB0 := hide (show Below w.heap.size w (w.alloc (.cells #[.int .i64 k, .int .i64 a, .int .i64 b, .int .i64 c] 33)) by go_grown)
  have HX0 := hide (Box4.made w k a b c 33)
  cases hg : gateQ l k a b c
  · have HV := Lib.hid (show v = false by rw [← h, keepsQ, hg]; rfl)
    have HG := Lib.hid hg
    clear hg h
    go_enter Try.func19, Try.ntmps19
    go_wp2_with fail
    refine (gateValid_b false _ _ _ _ _ HG.out _).mono ?_
    rintro e w1 ⟨rfl, hb1⟩
    have HB1 := hide (HB0.out.trans (hb1.mono HB0.out.size))
    clear hb1
    go_wp2_with fail
    go_ret
    exact ⟨by rw [HV.out]; rfl, HB1.out⟩
  · have HV := Lib.hid (show v = keepK k by rw [← h, keepsQ, hg]; rfl)
    have HG := Lib.hid hg
    clear hg h
    unfold keepK at HV
    go_enter Try.func19, Try.ntmps19
    go_wp2_with fail
    refine (gateValid_b true _ _ _ _ _ HG.out _).mono ?_
    rintro e w1 ⟨rfl, hb1⟩
    have HB1 := hide (HB0.out.trans (hb1.mono HB0.out.size))
    obtain ⟨c0, c1, c2, c3⟩ := HX0.out.below hb1
    clear hb1
    cases h3 : (k == 3)
    · cases h4 : (k == 4)
      all_goals
        go_wp2_with fail
        go_ret
        exact ⟨by rw [HV.out, h3, h4]; rfl, HB1.out⟩
    · go_wp2_with fail
      go_ret
      exact ⟨by rw [HV.out, h3]; rfl, HB1.out⟩
set_option maxHeartbeats 2000000 in
theorem sKeeps_b (v : Bool) (l k a b c : Int) (h : keepsQ l k a b c = v) (w : World) :
    Calls Try.prog 20 #[.int .i64 l, .agg #[.int .i64 k, .int .i64 a, .int .i64 b, .int .i64 c]] w fun e w' => e = .returned (.bool v) ∧ Below w.heap.size w w' := by
  have HB0 := hide (show Below w.heap.size w (w.alloc (.cells #[.int .i64 k, .int .i64 a, .int .i64 b, .int .i64 c] 33)) by go_grown)
  have HX0 := hide (Box4.made w k a b c 33)
  cases hg : gateQ l k a b c
  · have HV := Lib.hid (show v = false by rw [← h, keepsQ, hg]; rfl)
    have HG := Lib.hid hg
    clear hg h
    go_enter Try.func20, Try.ntmps20
    go_wp2_with fail
    refine (sGateValid_b false _ _ _ _ _ HG.out _).mono ?_
    rintro e w1 ⟨rfl, hb1⟩
    have HB1 := hide (HB0.out.trans (hb1.mono HB0.out.size))
    clear hb1
    go_wp2_with fail
    go_ret
    exact ⟨by rw [HV.out]; rfl, HB1.out⟩
  · have HV := Lib.hid (show v = keepK k by rw [← h, keepsQ, hg]; rfl)
    have HG := Lib.hid hg
    clear hg h
    unfold keepK at HV
    go_enter Try.func20, Try.ntmps20
    go_wp2_with fail
    refine (sGateValid_b true _ _ _ _ _ HG.out _).mono ?_
    rintro e w1 ⟨rfl, hb1⟩
    have HB1 := hide (HB0.out.trans (hb1.mono HB0.out.size))
    obtain ⟨c0, c1, c2, c3⟩ := HX0.out.below hb1
    clear hb1
    cases h3 : (k == 3)
    · cases h4 : (k == 4)
      all_goals
        go_wp2_with fail
        go_ret
        exact ⟨by rw [HV.out, h3, h4]; rfl, HB1.out⟩
    · go_wp2_with fail
      go_ret
      exact ⟨by rw [HV.out, h3]; rfl, HB1.out⟩
theorem gateRun_b (v : Int) (l k a b c x : Int) (h : gateRun l k a b c x = v) (w : World) :
    Calls Try.prog 22 #[.int .i64 l, .agg #[.int .i64 k, .int .i64 a, .int .i64 b, .int .i64 c], .int .i64 x] w fun e w' => e = .returned (.int .i64 v) ∧ Below w.heap.size w w' := by
  subst h; exact gateRun_any l k a b c x w
theorem weight_nat {n x : Nat} (h1 : 1 ≤ n) (h8 : n ≤ 8) (hx : x < 2 ^ n) : weight (n : Int) (x : Int) = (ones x : Nat) := by
  rw [weight, if_pos (by rw [wv_nat h1 h8]; simpa using hx)]; rfl
set_option maxRecDepth 100000 in
set_option maxHeartbeats 8000000 in
theorem walk_FnKeeps (A : Option Addr) (n c : Nat) (zs : List Int) (w : World) (h : IRk .u8 w A n zs) (hz : ∀ z ∈ zs, (Lit.int .u8 z).wf = true) (hc : n ≤ c) :
    Calls Try.prog 4 #[.slice A n c] w fun e w' => e = .returned (.bool true) ∧ Below w.heap.size w w' := by
  have hmax := h.max
  by_cases hbig : 1048576 < n
  · clear h hz
    go_enter Try.func4, Try.ntmps4
    go_wp2_with fail
    go_ret
    exact ⟨rfl, Below.refl _ _⟩
  have H := hide (drawKeeps_b A n c zs w h hz hc)
  clear h hz
  go_enter Try.func4, Try.ntmps4
  go_wp2_with fail
  refine H.out.mono ?_
  rintro e w1 ⟨l, k, a, b, d, rfl, hl, hb1⟩
  have hs1 := hb1.size
  have X1 := hide (Box4.made w1 k a b d 33)
  have B1 := hide (hb1.alloc hs1 (.cells #[.int .i64 k, .int .i64 a, .int .i64 b, .int .i64 d] 33))
  clear hb1 hl
  obtain ⟨ok, hok⟩ : ∃ ok, keepsQ l k a b d = ok := ⟨_, rfl⟩
  have HOK := Lib.hid hok
  clear hok
  have e1 : (ok != ok) = false := by simp
  go_wp2_with fail
  refine (keeps_b ok l k a b d HOK.out _).mono ?_
  rintro e w2 ⟨rfl, hb⟩
  have X2 := hide (X1.out.below hb)
  have B2 := hide (B1.out.trans (hb.mono B1.out.size))
  clear hb
  obtain ⟨xc0, xc1, xc2, xc3⟩ := X2.out
  go_wp2_with fail
  clear xc0 xc1 xc2 xc3
  refine (sKeeps_b ok l k a b d HOK.out _).mono ?_
  rintro e w3 ⟨rfl, hb⟩
  have X3 := hide (X2.out.below hb)
  have B3 := hide (B2.out.trans (hb.mono B2.out.size))
  clear hb
  cases hg : gateQ l k a b d
  · have HG := Lib.hid hg
    obtain rfl : ok = false := by rw [← HOK.out, keepsQ, hg]; rfl
    clear hg
    obtain ⟨xc0, xc1, xc2, xc3⟩ := X3.out
    go_wp2_with fail
    clear xc0 xc1 xc2 xc3
    refine (sGateValid_b false l k a b d HG.out _).mono ?_
    rintro e w4 ⟨rfl, hb⟩
    have X4 := hide (X3.out.below hb)
    have B4 := hide (B3.out.trans (hb.mono B3.out.size))
    clear hb
    go_wp2_with fail
    refine (alive_any _).mono ?_
    rintro e w' ⟨rfl, rfl⟩
    go_wp2_with fail
    go_ret
    exact ⟨by first | rfl | simp | (simp; omega), B4.out⟩
  · have HG0 := Lib.hid hg
    have HKK := Lib.hid (show ok = keepK k by rw [← HOK.out, keepsQ, hg]; rfl)
    clear HOK
    obtain ⟨xc0, xc1, xc2, xc3⟩ := X3.out
    go_wp2_with fail
    clear xc0 xc1 xc2 xc3
    refine (sGateValid_b true l k a b d HG0.out _).mono ?_
    rintro e w4 ⟨rfl, hb⟩
    have X4 := hide (X3.out.below hb)
    have B4 := hide (B3.out.trans (hb.mono B3.out.size))
    clear hb
    obtain ⟨m, a, b, d, rfl, rfl, rfl, rfl, hn1, hn8, ha, hb, hd⟩ := natsG hg
    have HG := Lib.hid hg
    have HA := Lib.hid (keeps_all hg)
    have HW := hide (fun x hx => weight_nat (x := x) hn1 hn8 hx)
    have HV := hide (fun x : Nat => wv_nat (x := x) hn1 hn8)
    have HL := hide (fun x hx => runG_lt (k := k) (x := x) ha hb hd hx)
    have hw := wrap_pow8 hn8
    have hP := pow_le8 hn8
    clear hg HG0
    obtain ⟨P, hPP⟩ : ∃ P : Nat, 2 ^ m = P := ⟨_, rfl⟩
    rw [hPP] at hw hP HA HW HV HL
    clear hPP
    go_wp2_with fail
    go_loopw [6, 7] (fun sv iv wr => ∃ (j : Nat) (sb : Bool), j ≤ P ∧ iv = .int .i64 j ∧ sv = .bool sb ∧ Hid (keepsTo k a b d j = sb) ∧ Hid (Below w.heap.size w wr) ∧ Hid (Box4 wr w1.heap.size k a b d)) (fun _ iv _ => P - (intOf iv).toNat)
    case atStart => exact ⟨0, true, by omega, rfl, rfl, rfl, B4.out, X4.out⟩
    case round =>
      obtain ⟨j, sb, hj, rfl, rfl, HS, HB, HX⟩ := hrel
      by_cases hlt : j < P
      · cases sb
        · go_wp2_with fail
          go_roundw
          case rel => exact ⟨j + 1, false, by omega, by go_num, rfl, hide (by rw [keepsTo_succ, HS.out]; rfl), HB, HX⟩
          case measure => simp [intOf]; omega
        · obtain ⟨y, hy⟩ : ∃ y, runG k a b d j = y := ⟨_, rfl⟩
          have hyP := HL.out j hlt
          rw [hy] at hyP
          have HY := Lib.hid (show gateRun m k a b d j = (y : Int) by rw [gateRun_ok HG.out (by rw [HV.out]; simpa using hlt), hy])
          have HY2 := Lib.hid hy
          have HWj := Lib.hid (HW.out j hlt)
          have HWy := Lib.hid (HW.out y hyP)
          clear hy
          obtain ⟨c0, c1, c2, c3⟩ := HX.out
          go_wp2_with fail
          refine (gateRun_b y m k a b d j HY.out _).mono ?_
          rintro e w9 ⟨rfl, hb9⟩
          have HB9 := hide (bseq HB.out hb9)
          have HX9 := hide (HX.out.below hb9)
          clear hb9 c0 c1 c2 c3
          go_wp2_with fail
          refine (weight_b _ _ _ HWy.out _).mono ?_
          rintro e w' ⟨rfl, rfl⟩
          go_wp2_with fail
          refine (weight_b _ _ _ HWj.out _).mono ?_
          rintro e w' ⟨rfl, rfl⟩
          go_wp2_with fail
          go_roundw
          case rel => exact ⟨j + 1, _, by omega, by go_num, rfl, hide (by rw [keepsTo_succ, HS.out, HY2.out, Bool.true_and, Bool.eq_iff_iff]; simp; try omega), HB9, HX9⟩
          case measure => simp [intOf]; omega
      · obtain rfl : j = P := by omega
        go_wp2_with fail
        go_ret
        exact ⟨by rw [← HS.out, HA.out, HKK.out]; simp, HB.out⟩
end Go.Proofs.Ytdkphnojloanoaa
