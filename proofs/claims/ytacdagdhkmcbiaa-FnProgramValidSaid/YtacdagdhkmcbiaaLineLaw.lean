/-
  Statements in plain words: which are valid, and what undoes one.
  No condition.
-/
import Derived.Test.YtacdagdhkmcbiaaBox
namespace Go.Proofs.Ytacdagdhkmcbiaa
open Go.RowKit Go.Sort base
def inR (lo hi x : Int) : Bool := decide (lo ≤ x) && decide (x ≤ hi)
theorem inR_iff {lo hi x : Int} : inR lo hi x = true ↔ lo ≤ x ∧ x ≤ hi := by simp [inR]
theorem inR_zero {x : Int} : inR 0 0 x = (x == 0) := by rw [Bool.eq_iff_iff]; simp [inR]; omega
theorem kind9 {k : Int} (h : inR 0 8 k = true) : k = 0 ∨ k = 1 ∨ k = 2 ∨ k = 3 ∨ k = 4 ∨ k = 5 ∨ k = 6 ∨ k = 7 ∨ k = 8 := by rw [inR_iff] at h; omega
def hasV (k : Int) : Bool := k == 0 || k == 1 || k == 2 || k == 3 || k == 6 || k == 8
def hasW (k : Int) : Bool := k == 0 || k == 1 || k == 3
def hasN (k : Int) : Bool := k == 2 || k == 4 || k == 6 || k == 8
def mostOf (k : Int) : Int := if k = 2 then 63 else if k = 4 then 3 else if k = 6 then 63 else if k = 8 then 63 else 0
def sName (k : Int) : Array UInt8 := if k = 0 then #[97, 100, 100] else if k = 1 then #[116, 97, 107, 101] else if k = 2 then #[109, 111, 114, 101] else if k = 3 then #[115, 119, 97, 112] else if k = 4 then #[114, 101, 112, 101, 97, 116] else if k = 5 then #[101, 110, 100] else if k = 6 then #[105, 102] else if k = 7 then #[101, 108, 115, 101] else #[102, 105]
def mostN (k : Int) : Int := if k = 2 ∨ k = 6 ∨ k = 8 then 63 else if k = 4 then 3 else 0
/-- the statement is valid -/
def lineQ (k v w n : Int) : Bool := inR 0 8 k && (inR 0 (if hasV k then 3 else 0) v && inR 0 (if hasW k then 3 else 0) w && inR 0 (mostN k) n && !(hasW k && v == w))
end Go.Proofs.Ytacdagdhkmcbiaa
