/-
  How many further lines a table needs, plainly: 2 to its power is enough, half of it is not.
  No condition.
-/
import Derived.Test.YteedkpfpljecaaaKeep
namespace Go.Proofs.Yteedkpfpljecaaa
open Go.RowKit Go.Sort base
theorem keep_fin2 : ∀ m : Fin 17, 1 ≤ m.val → m.val ≤ 2 ^ Lib.bitLen (m.val - 1) ∧ (Lib.bitLen (m.val - 1) = 0 ∨ 2 ^ (Lib.bitLen (m.val - 1) - 1) < m.val) := by decide +kernel
theorem keep_law {i o : Int} {f : List Int} (h : fnOk i o f = true) : ∃ n : Nat, keepLines i o f = (n : Int) ∧ n ≤ 4 ∧ sameMost i o f ≤ ((2 ^ n : Nat) : Int) ∧ (n = 0 ∨ ((2 ^ (n - 1) : Nat) : Int) < sameMost i o f) ∧ (n : Int) ≤ i := by
  obtain ⟨m, _, _, _, ⟨j, hj, ej⟩, _, _, h1, h2⟩ := most_facts h
  obtain ⟨hi, _, hl, _⟩ := fnOk_out h
  have hc := (cnt_le f (j : Nat)).2
  have hle : sameMost i o f ≤ pw i := by rw [ej, ← hl]; exact hc
  obtain ⟨a, ha⟩ := Int.eq_ofNat_of_zero_le (show 0 ≤ sameMost i o f by omega)
  have hk := bitLen_le h1 h2
  have e : keepLines i o f = ((Lib.bitLen (a - 1) : Nat) : Int) := by
    simp only [keepLines, h, if_true, ha]
    rw [show ((a : Int) - 1).toNat = a - 1 by omega]
  rw [ha, show ((a : Int) - 1).toNat = a - 1 by omega] at hk
  have hf := keep_fin2 ⟨a, by omega⟩ (by simp only; omega)
  simp only at hf
  refine ⟨Lib.bitLen (a - 1), e, hk, by rw [ha]; exact Int.ofNat_le.2 hf.1, ?_, ?_⟩
  · rcases hf.2 with h | h
    · exact .inl h
    · right; rw [ha]; exact Int.ofNat_lt.2 h
  · rw [ha] at hle
    have hb := hf.2
    generalize Lib.bitLen (a - 1) = k at hk hb
    rcases pw_cases hi with ⟨rfl, e'⟩ | ⟨rfl, e'⟩ | ⟨rfl, e'⟩ | ⟨rfl, e'⟩ <;> rw [e'] at hle <;> rcases (show k = 0 ∨ k = 1 ∨ k = 2 ∨ k = 3 ∨ k = 4 by omega) with rfl | rfl | rfl | rfl | rfl <;> simp at hb ⊢ <;> omega
end Go.Proofs.Yteedkpfpljecaaa
