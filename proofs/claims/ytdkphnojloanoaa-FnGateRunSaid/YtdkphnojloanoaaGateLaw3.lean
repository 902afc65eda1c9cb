/-
  Plain laws of gates: which keep the weight of every word; on how many lines a word and its image differ.
  No condition.
-/
import Derived.Test.YtdkphnojloanoaaGateLaw2
import Derived.Test.YtdkphnojloanoaaWeight
namespace Go.Proofs.Ytdkphnojloanoaa
open Go.RowKit Go.Sort base
/-- of the words below m: does a gate keep the weight of each? -/
def keepsTo (k : Int) (a b c m : Nat) : Bool := (List.range m).all fun x => ones (runG k a b c x) == ones x
theorem keepsTo_succ (k : Int) (a b c m : Nat) : keepsTo k a b c (m + 1) = (keepsTo k a b c m && ones (runG k a b c m) == ones m) := by
  simp [keepsTo, List.range_succ, List.all_append]
def keepK (k : Int) : Bool := k == 3 || k == 4
def keepsB (n : Nat) (k : Int) (a b c : Nat) : Bool := keepsTo k a b c (2 ^ n) == keepK k
def keeps8 (n : Nat) : Bool := (List.range n).all (fun a => keepsB n 0 a 0 0) && twos n (fun a b => keepsB n 1 a b 0) && threes n (fun a b c => keepsB n 2 a b c) && twos n (fun a b => keepsB n 3 a b 0) && threes n (fun a b c => keepsB n 4 a b c)
theorem keeps_small : (List.range 8).all keeps8 = true := by decide +kernel
theorem keeps_big : keeps8 8 = true := by decide +kernel
theorem keeps_ok {n : Nat} (h : n ≤ 8) : keeps8 n = true := by
  by_cases h8 : n = 8
  · subst h8; exact keeps_big
  · have := keeps_small; rw [List.all_eq_true] at this; exact this n (by simp; omega)
theorem keeps_all {n a b c : Nat} {k : Int} (h : gateQ n k a b c = true) : keepsTo k a b c (2 ^ n) = keepK k := by
  have hn := (gateQ_in h).1
  have hm := keeps_ok (n := n) (by omega)
  simp only [keeps8, Bool.and_eq_true] at hm
  obtain ⟨⟨⟨⟨m0, m1⟩, m2⟩, m3⟩, m4⟩ := hm
  have key : keepsB n k a b c = true := by
    refine gate_fact (p := keepsB n) h (fun h1 => ?_) (fun h1 h2 h3 => ?_) (fun h1 h2 h3 h4 h5 h6 => ?_) (fun h1 h2 h3 => ?_) (fun h1 h2 h3 h4 h5 h6 => ?_)
    · rw [List.all_eq_true] at m0; exact m0 a (by simp; omega)
    · exact twos_out m1 h1 h2 h3
    · exact threes_out m2 h1 h2 h3 h4 h5 h6
    · exact twos_out m3 h1 h2 h3
    · exact threes_out m4 h1 h2 h3 h4 h5 h6
  simpa [keepsB] using key
def nearB (k : Int) (a b c : Nat) : Bool := (List.range 256).all fun x => decide (ones (x ^^^ runG k a b c x) ≤ 2)
theorem near0 : (List.range 8).all (fun a => nearB 0 a 0 0) = true := by decide +kernel
theorem near1 : twos 8 (fun a b => nearB 1 a b 0) = true := by decide +kernel
theorem near3 : twos 8 (fun a b => nearB 3 a b 0) = true := by decide +kernel
theorem near2 : threes 8 (fun a b c => nearB 2 a b c) = true := by decide +kernel
theorem near4 : threes 8 (fun a b c => nearB 4 a b c) = true := by decide +kernel
theorem near_all {n a b c x : Nat} {k : Int} (h : gateQ n k a b c = true) (hx : x < 256) : ones (x ^^^ runG k a b c x) ≤ 2 := by
  have hn := (gateQ_in h).1
  have key : nearB k a b c = true := by
    refine gate_fact (p := nearB) h (fun h1 => ?_) (fun h1 h2 h3 => ?_) (fun h1 h2 h3 h4 h5 h6 => ?_) (fun h1 h2 h3 => ?_) (fun h1 h2 h3 h4 h5 h6 => ?_)
    · have := near0; rw [List.all_eq_true] at this; exact this a (by simp; omega)
    · exact twos_out near1 (by omega) (by omega) h3
    · exact threes_out near2 (by omega) (by omega) (by omega) h4 h5 h6
    · exact twos_out near3 (by omega) (by omega) h3
    · exact threes_out near4 (by omega) (by omega) (by omega) h4 h5 h6
  rw [nearB, List.all_eq_true] at key
  simpa using key x (by simpa using hx)
end Go.Proofs.Ytdkphnojloanoaa
