/-
  The word that a gate leads a word to, by the program and by the reference.
  No condition.
-/
import Derived.Test.YtpklpebngholcaaRun
namespace Go.Proofs.Ytpklpebngholcaa
open Go.RowKit Go.Sort base
theorem gateRun_no {l k a b c x : Int} (h : gateQ l k a b c = false) : gateRun l k a b c x = -1 := by unfold gateRun; rw [if_neg (by rw [h]; simp)]
theorem gateRun_no' {l k a b c x : Int} (h : wv l x = false) : gateRun l k a b c x = -1 := by unfold gateRun; rw [if_neg (by rw [h]; simp)]
theorem gateRun_ok {l k : Int} {a b c x : Nat} (h : gateQ l k a b c = true) (hv : wv l x = true) : gateRun l k a b c x = ((runG k a b c x : Nat) : Int) := by
  unfold gateRun; rw [if_pos ⟨h, hv⟩]; simp
theorem wv_out {l x : Int} (h : wv l x = true) : (1 ≤ l ∧ l ≤ 8) ∧ 0 ≤ x ∧ x < 2 ^ l.toNat ∧ x < 256 := by
  simp only [wv, Bool.and_eq_true, decide_eq_true_eq] at h
  obtain ⟨h1, h2, h3⟩ := h
  have h4 := lnOk_iff.1 h1
  have h5 : (2 : Int) ^ l.toNat ≤ 256 := by
    rcases lnOk_cases h1 with rfl | rfl | rfl | rfl | rfl | rfl | rfl | rfl <;> decide
  unfold pw at h3
  exact ⟨h4, h2, by omega, by omega⟩
/- what a valid gate and a valid word are, in natural numbers -/
theorem nats {l k a b c x : Int} (h : gateQ l k a b c = true) (hv : wv l x = true) : ∃ a' b' c' x' : Nat, a = a' ∧ b = b' ∧ c = c' ∧ x = x' ∧ a' ≤ 7 ∧ b' ≤ 7 ∧ c' ≤ 7 ∧ x' < 256 := by
  obtain ⟨h1, h2, h3, h4⟩ := gateQ_in h
  obtain ⟨h5, h6, h7, h8⟩ := wv_out hv
  exact ⟨a.toNat, b.toNat, c.toNat, x.toNat, by omega, by omega, by omega, by omega, by omega, by omega, by omega, by omega⟩
set_option maxHeartbeats 400000 in
theorem l1Bit_any (x a : Nat) (hx : x < 256) (ha : a ≤ 7) (w : World) : Calls Try.prog 48 #[.int .i64 x, .int .i64 a] w fun e w' => e = .returned (.int .i64 (bt x a : Nat)) ∧ w = w' := by
  have HC := Lib.hid (bt_cast x a)
  go_enter Try.func48, Try.ntmps48
  go_wp2_with fail
  go_ret
  exact ⟨by rw [← HC.out]; rfl, rfl⟩
theorem l1Bit_b (v : Int) (x a : Nat) (hx : x < 256) (ha : a ≤ 7) (h : ((bt x a : Nat) : Int) = v) (w : World) : Calls Try.prog 48 #[.int .i64 x, .int .i64 a] w fun e w' => e = .returned (.int .i64 v) ∧ w = w' := by
  subst h; exact l1Bit_any x a hx ha w
end Go.Proofs.Ytpklpebngholcaa
