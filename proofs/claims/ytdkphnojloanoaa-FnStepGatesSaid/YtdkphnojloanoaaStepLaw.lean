/-
  Plain law: the gates of a step compute it.
  No condition.
-/
import Derived.Test.YtdkphnojloanoaaStep3
namespace Go.Proofs.Ytdkphnojloanoaa
open Go.RowKit Go.Sort base
def want (op a b : Nat) : Nat := if op = 0 then min a b else if op = 1 then max a b else if op = 2 then max a b - min a b else 1 - a
def stepAt (op x y l : Nat) : Bool := (stepG op x y l).isEmpty || (circQ 8 (stepG op x y l) && (List.range 256).all fun j => bt j l != 0 || circN (stepG op x y l) j == j + want op (bt j x) (bt j y) * 2 ^ l)
def stepsB (op : Nat) : Bool := (List.range 4).all fun x => (List.range 4).all fun y => (List.range 8).all fun l => stepAt op x y l
theorem steps0 : stepsB 0 = true := by decide +kernel
theorem steps1 : stepsB 1 = true := by decide +kernel
theorem steps2 : stepsB 2 = true := by decide +kernel
theorem steps3 : stepsB 3 = true := by decide +kernel
theorem step_line {op x y l : Int} (h : stepG op x y l ≠ []) (hop : 0 ≤ op ∧ op ≤ 4) : op ≤ 3 ∧ 0 ≤ l ∧ l ≤ 7 := by
  have hq : stepQ op x y l = true := by
    cases hq : stepQ op x y l
    · exact absurd (by rw [stepG, if_neg (by rw [hq]; simp)]) h
    · rfl
  rcases (show op = 0 ∨ op = 1 ∨ op = 2 ∨ op = 3 ∨ op = 4 by omega) with rfl | rfl | rfl | rfl | rfl
  · simp only [stepQ, Bool.and_eq_true] at hq
    have := gate2.1 (show gateQ 8 2 x y l = true by simpa using hq.1)
    omega
  · simp only [stepQ, Bool.and_eq_true] at hq
    have := gate2.1 (show gateQ 8 2 x y l = true by simpa using hq.1)
    omega
  · simp only [stepQ, Bool.and_eq_true] at hq
    have := gate2.1 (show gateQ 8 2 x y l = true by simpa using hq.1)
    omega
  · simp only [stepQ, Bool.and_eq_true] at hq
    have h2 := hq.2
    simp [stepL, gateOk] at h2
    have := gate1.1 h2.1
    omega
  · exact absurd (show stepG 4 x y l = [] by simp [stepG, stepL]) h
structure StepF (op x y l Q : Nat) (gs : List G4) : Prop where
  w : wrap64 (2 ^ l) = (Q : Int)
  q : Q ≤ 128
  run : ∀ j, j < 256 → bt j l = 0 → circRun 8 gs (j : Int) = ((j + want op (bt j x) (bt j y) * Q : Nat) : Int)
theorem step_facts {op x y l : Nat} (hop : op ≤ 3) (hx : x ≤ 3) (hy : y ≤ 3) (hl : l ≤ 7) (h : stepG op x y l ≠ []) : ∃ Q, StepF op x y l Q (stepG op x y l) := by
  have hs : stepsB op = true := by
    rcases (show op = 0 ∨ op = 1 ∨ op = 2 ∨ op = 3 by omega) with rfl | rfl | rfl | rfl
    · exact steps0
    · exact steps1
    · exact steps2
    · exact steps3
  simp only [stepsB, List.all_eq_true, List.mem_range] at hs
  have h1 := hs x (by omega) y (by omega) l (by omega)
  have he : (stepG op x y l).isEmpty = false := by
    cases hh : stepG op x y l
    · exact absurd hh h
    · rfl
  simp only [stepAt, he, Bool.false_or, Bool.and_eq_true, List.all_eq_true, List.mem_range, Bool.or_eq_true, bne_iff_ne, beq_iff_eq] at h1
  refine ⟨2 ^ l, wrap_pow8 (by omega), (show 2 ^ l ≤ 2 ^ 7 from Nat.pow_le_pow_right (by omega) hl), fun j hj hb => ?_⟩
  rw [circRun_ok h1.1 (by rw [show (8 : Int) = ((8 : Nat) : Int) from rfl, wv_nat (by omega) (by omega)]; simpa using hj)]
  rcases h1.2 j hj with h2 | h2
  · exact absurd hb h2
  · rw [h2]
end Go.Proofs.Ytdkphnojloanoaa
