/-
  How many words a gate changes; which gates commute: by the program and by the reference.
  No condition.
-/
import Derived.Test.YteedkpfpljecaaaSRun
namespace Go.Proofs.Yteedkpfpljecaaa
open Go.RowKit Go.Sort base
theorem wrap_pow8 {z : Nat} (hz : z ≤ 8) : wrap64 (2 ^ z) = ((2 ^ z : Nat) : Int) := by
  rcases (show z = 0 ∨ z = 1 ∨ z = 2 ∨ z = 3 ∨ z = 4 ∨ z = 5 ∨ z = 6 ∨ z = 7 ∨ z = 8 by omega) with rfl | rfl | rfl | rfl | rfl | rfl | rfl | rfl | rfl <;> decide +kernel
theorem pow_le8 {z : Nat} (hz : z ≤ 8) : 2 ^ z ≤ 256 := Nat.pow_le_pow_right (n := 2) (by omega) hz
theorem wv_nat {n x : Nat} (h1 : 1 ≤ n) (h8 : n ≤ 8) : wv (n : Int) (x : Int) = decide (x < 2 ^ n) := by
  have hl : lnOk (n : Int) = true := lnOk_iff.2 ⟨by omega, by omega⟩
  have hp : pw (n : Int) = ((2 ^ n : Nat) : Int) := by simp [pw]
  rw [wv, hl, hp]
  generalize 2 ^ n = P
  rw [Bool.eq_iff_iff]
  simp
  omega
theorem natsG {l k a b c : Int} (h : gateQ l k a b c = true) : ∃ n a' b' c' : Nat, l = n ∧ a = a' ∧ b = b' ∧ c = c' ∧ 1 ≤ n ∧ n ≤ 8 ∧ a' < n ∧ b' < n ∧ c' < n := by
  obtain ⟨h1, h2, h3, h4⟩ := gateQ_in h
  exact ⟨l.toNat, a.toNat, b.toNat, c.toNat, by omega, by omega, by omega, by omega, by omega, by omega, by omega, by omega, by omega⟩
/-- of the words below m, how many a gate changes -/
def movesTo (k : Int) (a b c m : Nat) : Nat := ((List.range m).filter fun x => runG k a b c x != x).length
theorem movesTo_le (k : Int) (a b c m : Nat) : movesTo k a b c m ≤ m := by
  have := List.length_filter_le (fun x => runG k a b c x != x) (List.range m)
  simpa [movesTo] using this
theorem movesTo_succ (k : Int) (a b c m : Nat) : movesTo k a b c (m + 1) = movesTo k a b c m + if runG k a b c m = m then 0 else 1 := by
  unfold movesTo
  rw [List.range_succ, List.filter_append, List.length_append]
  congr 1
  by_cases h : runG k a b c m = m <;> simp [h]
def gateMoves (l k a b c : Int) : Int := if gateQ l k a b c = true then (movesTo k a.toNat b.toNat c.toNat (2 ^ l.toNat) : Nat) else -1
theorem gateMoves_no {l k a b c : Int} (h : gateQ l k a b c = false) : gateMoves l k a b c = -1 := by unfold gateMoves; rw [if_neg (by rw [h]; simp)]
theorem gateMoves_ok {k : Int} {n a b c : Nat} (h : gateQ n k a b c = true) : gateMoves n k a b c = ((movesTo k a b c (2 ^ n) : Nat) : Int) := by
  unfold gateMoves; rw [if_pos h]; simp
end Go.Proofs.Yteedkpfpljecaaa
