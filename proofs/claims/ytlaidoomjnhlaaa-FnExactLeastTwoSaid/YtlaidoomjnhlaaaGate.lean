/-
  Which gates are valid, by the program and by the reference.
  No condition.
-/
import Derived.Test.YtlaidoomjnhlaaaGates
import Derived.Test.YtlaidoomjnhlaaaBox
namespace Go.Proofs.Ytlaidoomjnhlaaa
open Go.RowKit Go.Sort base
theorem and_one (x : Int) (h : 0 ≤ x ∧ x < 9223372036854775808) : bits .and .i64 x 1 = x % 2 := by
  obtain ⟨a, rfl⟩ := Int.eq_ofNat_of_zero_le h.1
  have := i64_and_nat a 1 (by omega) (by omega)
  rw [show ((1 : Nat) : Int) = 1 by rfl] at this
  rw [this, Nat.and_one_is_mod]
  omega
theorem kLines_in (k : Int) : 1 ≤ kLines k ∧ kLines k ≤ 7 := by unfold kLines; split <;> (try split) <;> (try split) <;> (try split) <;> omega
theorem kLines_not (k : Int) : bits .xor .i64 (-1) (kLines k) = -1 - kLines k := by
  unfold kLines
  split
  · decide +kernel
  split
  · decide +kernel
  split
  · decide +kernel
  split <;> decide +kernel
theorem wrap_pow {z : Nat} (hz : z ≤ 7) : wrap64 (2 ^ z) = ((2 ^ z : Nat) : Int) := by
  rcases (show z = 0 ∨ z = 1 ∨ z = 2 ∨ z = 3 ∨ z = 4 ∨ z = 5 ∨ z = 6 ∨ z = 7 by omega) with rfl | rfl | rfl | rfl | rfl | rfl | rfl | rfl <;> decide +kernel
theorem or_pow {m z : Nat} (hm : m < 256) (hz : z ≤ 7) : bits .or .i64 (m : Int) (wrap64 (2 ^ z)) = ((m ||| 2 ^ z : Nat) : Int) := by
  have := two_pow_lt8 (show z < 8 by omega)
  rw [wrap_pow hz, i64_or_nat m (2 ^ z) (by omega) (by omega)]
theorem shr_bit {m n : Nat} : (m : Int) / 2 ^ n % 2 = ((m / 2 ^ n % 2 : Nat) : Int) := by simp
end Go.Proofs.Ytlaidoomjnhlaaa
