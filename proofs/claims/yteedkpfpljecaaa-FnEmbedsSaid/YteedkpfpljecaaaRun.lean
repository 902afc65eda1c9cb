/-
  What a gate makes of a word, by the program and by the reference.
  No condition.
-/
import Derived.Test.YteedkpfpljecaaaSGate
namespace Go.Proofs.Yteedkpfpljecaaa
open Go.RowKit Go.Sort base
theorem bt_cast (x a : Nat) : (x : Int) / 2 ^ a % 2 = ((bt x a : Nat) : Int) := by simp [bt]
theorem and_bt {x a : Nat} (hx : x < 256) : bits .and .i64 ((x : Int) / 2 ^ a) 1 = ((bt x a : Nat) : Int) := by
  have e2 : x / 2 ^ a ≤ x := Nat.div_le_self _ _
  rw [← bt_cast, show (x : Int) / 2 ^ a = ((x / 2 ^ a : Nat) : Int) by simp]
  generalize x / 2 ^ a = y at e2 ⊢
  rw [and_one _ (by omega)]
theorem wrap_mul_pow {p z : Nat} (hp : p ≤ 1) (hz : z ≤ 7) : wrap64 ((p : Int) * 2 ^ z) = ((p * 2 ^ z : Nat) : Int) := by
  rcases (show p = 0 ∨ p = 1 by omega) with rfl | rfl
  · simp; decide +kernel
  · have := wrap_pow hz
    simpa using this
theorem mul_pow_lt8 {p z : Nat} (hp : p ≤ 1) (hz : z ≤ 7) : p * 2 ^ z < 256 := by
  have := two_pow_lt8 (show z < 8 by omega)
  rcases (show p = 0 ∨ p = 1 by omega) with rfl | rfl <;> omega
theorem xor_lt8 {x y : Nat} (hx : x < 256) (hy : y < 256) : x ^^^ y < 256 := Nat.xor_lt_two_pow (n := 8) hx hy
theorem xor_cast {x y : Nat} (hx : x < 256) (hy : y < 256) : bits .xor .i64 (x : Int) (y : Int) = ((x ^^^ y : Nat) : Int) := i64_xor_nat x y (by omega) (by omega)
theorem and_cast {x y : Nat} (hx : x < 256) (hy : y < 256) : bits .and .i64 (x : Int) (y : Int) = ((x &&& y : Nat) : Int) := i64_and_nat x y (by omega) (by omega)
end Go.Proofs.Yteedkpfpljecaaa
