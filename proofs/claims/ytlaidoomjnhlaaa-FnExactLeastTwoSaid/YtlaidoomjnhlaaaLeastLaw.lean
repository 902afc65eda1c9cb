/-
  The search for the least circuits of two lines, in plain Lean: all tables, in the order in which they are found.
  No condition.
-/
import Derived.Test.YtlaidoomjnhlaaaGateLaw
namespace Go.Proofs.Ytlaidoomjnhlaaa
abbrev T4 := Nat × Nat × Nat × Nat
/-- the five gates of two lines -/
def tgates : List (Int × Nat × Nat × Nat) := [(0, 0, 0, 0), (0, 1, 0, 0), (1, 0, 1, 0), (1, 1, 0, 0), (3, 0, 1, 0)]
def tgate (j : Nat) : Int × Nat × Nat × Nat := tgates.getD j (0, 0, 0, 0)
def one4 (j x : Nat) : Nat := runG (tgate j).1 (tgate j).2.1 (tgate j).2.2.1 (tgate j).2.2.2 x
def act (j : Nat) (t : T4) : T4 := (one4 j t.1, one4 j t.2.1, one4 j t.2.2.1, one4 j t.2.2.2)
/-- the tables, as they are found -/
def order : List T4 := [(0, 1, 2, 3), (1, 0, 3, 2), (2, 3, 0, 1), (0, 3, 2, 1), (0, 1, 3, 2), (0, 2, 1, 3), (3, 2, 1, 0), (3, 0, 1, 2), (1, 0, 2, 3), (2, 0, 3, 1), (2, 1, 0, 3), (3, 2, 0, 1), (1, 3, 0, 2), (1, 2, 3, 0), (0, 2, 3, 1), (0, 3, 1, 2), (2, 3, 1, 0), (3, 1, 2, 0), (2, 0, 1, 3), (3, 0, 2, 1), (3, 1, 0, 2), (1, 2, 0, 3), (1, 3, 2, 0), (2, 1, 3, 0)]
def steps4 : List Nat := [0, 1, 1, 1, 1, 1, 2, 2, 2, 2, 2, 2, 2, 2, 2, 2, 2, 3, 3, 3, 3, 3, 3, 3]
/-- how many tables are found when the k-th table has been led through j gates: at 5 k + j -/
def founds : List Nat := [1, 2, 3, 4, 5, 6, 6, 7, 8, 9, 10, 10, 10, 11, 12, 13, 14, 14, 14, 15, 16, 16, 17, 17, 17, 17, 17, 17, 17, 17, 17, 17, 17, 17, 17, 18, 18, 18, 18, 19, 20, 20, 20, 20, 20, 20, 20, 20, 20, 20, 20, 20, 20, 20, 21, 22, 22, 22, 22, 22, 22, 22, 22, 22, 22, 22, 22, 22, 22, 23, 24, 24, 24, 24, 24, 24, 24, 24, 24, 24, 24, 24, 24, 24, 24, 24, 24, 24, 24, 24, 24, 24, 24, 24, 24, 24, 24, 24, 24, 24, 24, 24, 24, 24, 24, 24, 24, 24, 24, 24, 24, 24, 24, 24, 24, 24, 24, 24, 24, 24, 24]
def tab4 (k : Nat) : T4 := order.getD k (0, 0, 0, 0)
def far4 (k : Nat) : Nat := steps4.getD k 0
def found (i : Nat) : Nat := founds.getD i 0
def nextOk (i : Nat) : Bool :=
  let nx := act (i % 5) (tab4 (i / 5))
  if (order.take (found i)).contains nx then found (i + 1) == found i
  else found (i + 1) == found i + 1 && decide (found i < 24) && (tab4 (found i) == nx) && (far4 (found i) == far4 (i / 5) + 1)
theorem next_all : ∀ i, i < 120 → nextOk i = true := by decide +kernel
theorem found_all : ∀ i, i < 121 → 1 ≤ found i ∧ found i ≤ 24 := by decide +kernel
theorem found_more : ∀ k, k < 24 → k < found (5 * k) := by decide +kernel
theorem tab_small : ∀ k, k < 24 → (tab4 k).1 < 4 ∧ (tab4 k).2.1 < 4 ∧ (tab4 k).2.2.1 < 4 ∧ (tab4 k).2.2.2 < 4 := by decide +kernel
theorem tab_other : ∀ i, i < 24 → ∀ k, k < 24 → tab4 i = tab4 k → i = k := by decide +kernel
theorem far_small : ∀ k, k < 24 → far4 k ≤ 24 := by decide +kernel
def rank4 (t : T4) : Nat := 64 * t.1 + 16 * t.2.1 + 4 * t.2.2.1 + t.2.2.2
theorem rank_inj {s t : T4} (hs : s.1 < 4 ∧ s.2.1 < 4 ∧ s.2.2.1 < 4 ∧ s.2.2.2 < 4) (ht : t.1 < 4 ∧ t.2.1 < 4 ∧ t.2.2.1 < 4 ∧ t.2.2.2 < 4) (h : rank4 s = rank4 t) : s = t := by
  obtain ⟨a, b, c, d⟩ := s
  obtain ⟨a', b', c', d'⟩ := t
  unfold rank4 at h
  simp only [] at hs ht h
  simp only [Prod.mk.injEq]
  omega
/-- what the search answers: the steps to the first table that is the goal -/
def leastFrom (t : T4) : Nat → Nat → Int
  | 0, _ => -1
  | n + 1, k => if tab4 k = t then (far4 k : Int) else leastFrom t n (k + 1)
def least4 (t : T4) : Int := leastFrom t 24 0
end Go.Proofs.Ytlaidoomjnhlaaa
