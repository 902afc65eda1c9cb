/-
  How many lines of a word have 1: math/bits.OnesCount at small words, Weight, Differ, BitOf.
  No condition.
-/
import Derived.Test.YtdkphnojloanoaaGateLaw
namespace Go.Proofs.Ytdkphnojloanoaa
open Go.RowKit Go.Sort base
/-- how many of eight bits are 1 -/
def ones (x : Nat) : Nat := x % 2 + x / 2 % 2 + x / 4 % 2 + x / 8 % 2 + x / 16 % 2 + x / 32 % 2 + x / 64 % 2 + x / 128 % 2
theorem ones_le (x : Nat) : ones x ≤ 8 := by unfold ones; omega
theorem all256 {p : Nat → Prop} (x : Nat) (hx : x < 256) (h : ∀ x, x < 256 → p x) : p x := h x hx
set_option maxHeartbeats 1000000 in
theorem onesCount64_any (x : Nat) (hx : x < 256) (w : World) : Calls Try.prog 73 #[.int .u64 x] w fun e w' => e = .returned (.int .i64 (ones x)) ∧ w = w' := by
  go_enter Try.func73, Try.ntmps73
  go_wp2_with fail
  go_ret
  refine ⟨?_, rfl⟩
  refine congrArg (fun z => Ending.returned (.int .i64 z)) ?_
  generalize hy : (ones x : Int) = y
  have hy' : y = ((fun n : Nat => (ones n : Int)) x) := hy.symm
  rw [hy']
  clear hy hy'
  apply all256 x hx
  decide +kernel
set_option maxHeartbeats 1000000 in
theorem onesCount_any (x : Nat) (hx : x < 256) (w : World) : Calls Try.prog 47 #[.int .u64 x] w fun e w' => e = .returned (.int .i64 (ones x)) ∧ w = w' := by
  go_enter Try.func47, Try.ntmps47
  go_wp2_with fail
  refine (onesCount64_any x hx _).mono ?_
  rintro e w' ⟨rfl, rfl⟩
  go_wp2_with fail
  go_ret
  exact ⟨rfl, rfl⟩
theorem wv_lt {l x : Int} (h : wv l x = true) : 0 ≤ x ∧ x < 256 := by
  simp only [wv, Bool.and_eq_true, decide_eq_true_eq] at h
  obtain ⟨h1, h2, h3⟩ := h
  rcases lnOk_cases h1 with rfl | rfl | rfl | rfl | rfl | rfl | rfl | rfl <;> simp [pw] at h3 <;> omega
/-- the weight of a word, -1 where it is not valid -/
def weight (l x : Int) : Int := if wv l x = true then (ones x.toNat : Nat) else -1
set_option maxHeartbeats 1000000 in
theorem weight_any (l x : Int) (w : World) : Calls Try.prog 17 #[.int .i64 l, .int .i64 x] w fun e w' => e = .returned (.int .i64 (weight l x)) ∧ w = w' := by
  cases hv : wv l x
  · have HW := Lib.hid (show weight l x = -1 by simp [weight, hv])
    have HV := Lib.hid hv
    clear hv
    go_enter Try.func17, Try.ntmps17
    go_wp2_with fail
    refine (wordValid_b false _ _ HV.out _).mono ?_
    rintro e w' ⟨rfl, rfl⟩
    go_wp2_with fail
    go_ret
    exact ⟨by rw [HW.out]; rfl, rfl⟩
  · have HW := Lib.hid (show weight l x = (ones x.toNat : Nat) by simp [weight, hv])
    obtain ⟨h0, h1⟩ := wv_lt hv
    obtain ⟨x, rfl⟩ := Int.eq_ofNat_of_zero_le h0
    have HV := Lib.hid hv
    clear hv
    go_enter Try.func17, Try.ntmps17
    go_wp2_with fail
    refine (wordValid_b true _ _ HV.out _).mono ?_
    rintro e w' ⟨rfl, rfl⟩
    go_wp2_with fail
    refine (onesCount_any x (by omega) _).mono ?_
    rintro e w' ⟨rfl, rfl⟩
    go_wp2_with fail
    go_ret
    exact ⟨by rw [HW.out]; rfl, rfl⟩
theorem weight_b (v : Int) (l x : Int) (h : weight l x = v) (w : World) : Calls Try.prog 17 #[.int .i64 l, .int .i64 x] w fun e w' => e = .returned (.int .i64 v) ∧ w = w' := by
  subst h; exact weight_any l x w
def differ (l x y : Int) : Int := if wv l x = true ∧ wv l y = true then (ones (x.toNat ^^^ y.toNat) : Nat) else -1
theorem wv_xor {l : Int} {x y : Nat} (hx : wv l x = true) (hy : wv l y = true) : wv l ((x ^^^ y : Nat) : Int) = true := by
  simp only [wv, Bool.and_eq_true, decide_eq_true_eq] at hx hy ⊢
  obtain ⟨h1, h2, h3⟩ := hx
  obtain ⟨_, h4, h5⟩ := hy
  refine ⟨h1, by omega, ?_⟩
  rcases lnOk_cases h1 with rfl | rfl | rfl | rfl | rfl | rfl | rfl | rfl <;> simp only [pw, Int.toNat, Int.reducePow] at h3 h5 ⊢
  · have := Nat.xor_lt_two_pow (n := 1) (x := x) (y := y) (by omega) (by omega); omega
  · have := Nat.xor_lt_two_pow (n := 2) (x := x) (y := y) (by omega) (by omega); omega
  · have := Nat.xor_lt_two_pow (n := 3) (x := x) (y := y) (by omega) (by omega); omega
  · have := Nat.xor_lt_two_pow (n := 4) (x := x) (y := y) (by omega) (by omega); omega
  · have := Nat.xor_lt_two_pow (n := 5) (x := x) (y := y) (by omega) (by omega); omega
  · have := Nat.xor_lt_two_pow (n := 6) (x := x) (y := y) (by omega) (by omega); omega
  · have := Nat.xor_lt_two_pow (n := 7) (x := x) (y := y) (by omega) (by omega); omega
  · have := Nat.xor_lt_two_pow (n := 8) (x := x) (y := y) (by omega) (by omega); omega
set_option maxHeartbeats 1000000 in
theorem differ_ok (l : Int) (x y : Nat) (hx : wv l x = true) (hy : wv l y = true) (w : World) : Calls Try.prog 35 #[.int .i64 l, .int .i64 x, .int .i64 y] w fun e w' => e = .returned (.int .i64 (ones (x ^^^ y) : Nat)) ∧ w = w' := by
  have hx1 := (wv_lt hx).2
  have hy1 := (wv_lt hy).2
  have hb := i64_xor_nat x y (by omega) (by omega)
  have HX := Lib.hid hx
  have HY := Lib.hid hy
  have HW := Lib.hid (show weight l ((x ^^^ y : Nat) : Int) = (ones (x ^^^ y) : Nat) by rw [weight, if_pos (wv_xor hx hy)]; rfl)
  clear hx hy
  go_enter Try.func35, Try.ntmps35
  go_wp2_with fail
  refine (wordValid_b true _ _ HX.out _).mono ?_
  rintro e w' ⟨rfl, rfl⟩
  go_wp2_with fail
  refine (wordValid_b true _ _ HY.out _).mono ?_
  rintro e w' ⟨rfl, rfl⟩
  go_wp2_with fail
  refine (weight_b _ l ((x ^^^ y : Nat) : Int) HW.out _).mono ?_
  rintro e w' ⟨rfl, rfl⟩
  go_wp2_with fail
  go_ret
  exact ⟨rfl, rfl⟩
set_option maxHeartbeats 1000000 in
theorem bitOf_ok (l : Int) (x z : Nat) (hx : wv l x = true) (hz : (z : Int) ≤ l - 1) (w : World) : Calls Try.prog 16 #[.int .i64 l, .int .i64 x, .int .i64 z] w fun e w' => e = .returned (.int .i64 (bt x z : Nat)) ∧ w = w' := by
  have hx1 := (wv_lt hx).2
  have hl := lnOk_iff.1 (show lnOk l = true by simp only [wv, Bool.and_eq_true] at hx; exact hx.1)
  obtain ⟨hl1, hl2⟩ := hl
  have HX := Lib.hid hx
  have HZ := Lib.hid (show (decide ((0 : Int) ≤ z) && decide ((z : Int) ≤ l - 1)) = true by simp; omega)
  have hz8 : (z : Int) < 64 := by omega
  clear hx
  go_enter Try.func16, Try.ntmps16
  go_wp2_with fail
  refine (wordValid_b true _ _ HX.out _).mono ?_
  rintro e w' ⟨rfl, rfl⟩
  go_wp2_with fail
  refine (within_b true _ _ _ HZ.out _).mono ?_
  rintro e w' ⟨rfl, rfl⟩
  go_wp2_with fail
  go_ret
  have e : bits .and .i64 ((x : Int) / 2 ^ z) 1 = ((bt x z : Nat) : Int) := by
    have e1 : (x : Int) / 2 ^ z = ((x / 2 ^ z : Nat) : Int) := by simp
    have e2 : x / 2 ^ z ≤ x := Nat.div_le_self _ _
    rw [e1, show (1 : Int) = ((1 : Nat) : Int) from rfl, i64_and_nat _ _ (by omega) (by omega), Nat.and_one_is_mod]
    rfl
  exact ⟨by rw [e]; rfl, rfl⟩
end Go.Proofs.Ytdkphnojloanoaa
