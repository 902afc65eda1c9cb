/-
  Which gates are valid, by the reference.
  No condition.
-/
import Derived.Test.YtpklpebngholcaaGate
namespace Go.Proofs.Ytpklpebngholcaa
open Go.RowKit Go.Sort base
theorem Own.sliceC {w : World} {base : Nat} {v : Value} {zs : List Int} (h : Own w base v zs) : ∃ A n c, v = .slice A n c ∧ IR w A n zs ∧ n ≤ c := by
  rcases h.form with ⟨rfl, rfl⟩ | ⟨g, c, rfl, _, _, hc, _⟩
  · exact ⟨none, 0, 0, rfl, IR.nil _ _, by omega⟩
  · exact ⟨_, _, c, rfl, h.reads, hc⟩
theorem Box4.drewN {w : World} {g : Nat} {k a b c : Int} (h : Box4 w g k a b c) (q : Nat) : Box4 (w.drewN q) g k a b c := h
def linesQ (k a b c : Int) : List Int := if k = 0 then [a] else if k = 1 then [a, b] else if k = 2 then [a, b, c] else if k = 3 then [a, b] else if k = 4 then [a, b, c] else []
theorem linesQ_no {k : Int} (a b c : Int) (h : kindQ k = false) : linesQ k a b c = [] := by
  simp [kindQ] at h
  unfold linesQ
  rw [if_neg (by omega), if_neg (by omega), if_neg (by omega), if_neg (by omega), if_neg (by omega)]
theorem linesQ_some {k : Int} (a b c : Int) (h : kindQ k = true) : linesQ k a b c = someOf a b c (kLines k) := by
  rcases kind_cases h with rfl | rfl | rfl | rfl | rfl <;> rfl
end Go.Proofs.Ytpklpebngholcaa
