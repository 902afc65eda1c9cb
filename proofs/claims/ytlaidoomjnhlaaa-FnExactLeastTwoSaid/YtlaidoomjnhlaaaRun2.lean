/-
  The word that a gate leads a word to, by the program and by the reference.
  No condition.
-/
import Derived.Test.YtlaidoomjnhlaaaRun
namespace Go.Proofs.Ytlaidoomjnhlaaa
open Go.RowKit Go.Sort base
theorem gateRun_no {l k a b c x : Int} (h : gateQ l k a b c = false) : gateRun l k a b c x = -1 := by unfold gateRun; rw [if_neg (by rw [h]; simp)]
theorem gateRun_no' {l k a b c x : Int} (h : wv l x = false) : gateRun l k a b c x = -1 := by unfold gateRun; rw [if_neg (by rw [h]; simp)]
theorem gateRun_ok {l k : Int} {a b c x : Nat} (h : gateQ l k a b c = true) (hv : wv l x = true) : gateRun l k a b c x = ((runG k a b c x : Nat) : Int) := by
  unfold gateRun; rw [if_pos ⟨h, hv⟩]; simp
theorem wv_out {l x : Int} (h : wv l x = true) : (1 ≤ l ∧ l ≤ 8) ∧ 0 ≤ x ∧ x < 2 ^ l.toNat ∧ x < 256 := by
  simp only [wv, Bool.and_eq_true, decide_eq_true_eq] at h
  obtain ⟨h1, h2, h3⟩ := h
  have h4 := lnOk_iff.1 h1
  have h5 : (2 : Int) ^ l.toNat ≤ 256 := by
    rcases lnOk_cases h1 with rfl | rfl | rfl | rfl | rfl | rfl | rfl | rfl <;> decide
  unfold pw at h3
  exact ⟨h4, h2, by omega, by omega⟩
/- what a valid gate and a valid word are, in natural numbers -/
theorem nats {l k a b c x : Int} (h : gateQ l k a b c = true) (hv : wv l x = true) : ∃ a' b' c' x' : Nat, a = a' ∧ b = b' ∧ c = c' ∧ x = x' ∧ a' ≤ 7 ∧ b' ≤ 7 ∧ c' ≤ 7 ∧ x' < 256 := by
  obtain ⟨h1, h2, h3, h4⟩ := gateQ_in h
  obtain ⟨h5, h6, h7, h8⟩ := wv_out hv
  exact ⟨a.toNat, b.toNat, c.toNat, x.toNat, by omega, by omega, by omega, by omega, by omega, by omega, by omega, by omega⟩
set_option maxHeartbeats 400000 in
theorem l1Bit_any (x a : Nat) (hx : x < 256) (ha : a ≤ 7) (w : World) : Calls Try.prog 18 #[.int .i64 x, .int .i64 a] w fun e w' => e = .returned (.int .i64 (bt x a : Nat)) ∧ w = w' := by
  have HC := Lib.hid (bt_cast x a)
  go_enter Try.func18, Try.ntmps18
  go_wp2_with fail
  go_ret
  exact ⟨by rw [← HC.out]; rfl, rfl⟩
theorem l1Bit_b (v : Int) (x a : Nat) (hx : x < 256) (ha : a ≤ 7) (h : ((bt x a : Nat) : Int) = v) (w : World) : Calls Try.prog 18 #[.int .i64 x, .int .i64 a] w fun e w' => e = .returned (.int .i64 v) ∧ w = w' := by
  subst h; exact l1Bit_any x a hx ha w
set_option maxHeartbeats 400000 in
theorem l1Turn_any (x a : Nat) (hx : x < 256) (ha : a ≤ 7) (w : World) : Calls Try.prog 19 #[.int .i64 x, .int .i64 a] w fun e w' => e = .returned (.int .i64 (x ^^^ 2 ^ a : Nat)) ∧ w = w' := by
  have HC := Lib.hid (turn_xor hx (show a < 8 by omega))
  have hw := wrap_pow ha
  have hp := two_pow_lt8 (show a < 8 by omega)
  obtain ⟨P, hP⟩ : ∃ P : Nat, 2 ^ a = P := ⟨_, rfl⟩
  rw [hP] at hw hp
  have hbt : (x : Int) / 2 ^ a % 2 = ((bt x a : Nat) : Int) := bt_cast x a
  have HT := Lib.hid (show turn (x : Int) (a : Int) = if (bt x a : Int) = 1 then (x : Int) - P else (x : Int) + P by rw [turn, Int.toNat_natCast, hbt, ← hP]; simp)
  clear hbt
  rcases bt_01 x a with h | h
  · have H0 := Lib.hid (show ((bt x a : Nat) : Int) = 0 by rw [h]; rfl)
    clear hP h
    go_enter Try.func19, Try.ntmps19
    go_wp2_with fail
    refine (l1Bit_b 0 x a hx ha H0.out _).mono ?_
    rintro e w' ⟨rfl, rfl⟩
    go_wp2_with fail
    go_ret
    exact ⟨by rw [← HC.out, HT.out, H0.out]; rfl, rfl⟩
  · have H0 := Lib.hid (show ((bt x a : Nat) : Int) = 1 by rw [h]; rfl)
    clear hP h
    go_enter Try.func19, Try.ntmps19
    go_wp2_with fail
    refine (l1Bit_b 1 x a hx ha H0.out _).mono ?_
    rintro e w' ⟨rfl, rfl⟩
    go_wp2_with fail
    go_ret
    exact ⟨by rw [← HC.out, HT.out, H0.out]; rfl, rfl⟩
end Go.Proofs.Ytlaidoomjnhlaaa
