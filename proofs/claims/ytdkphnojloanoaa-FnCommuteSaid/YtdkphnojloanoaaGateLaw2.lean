/-
  Plain laws of gates: every gate undoes itself; how many words one moves; which keep the weight; on how many lines a word and its image differ.
  No condition.
-/
import Derived.Test.YtdkphnojloanoaaGateLaw
namespace Go.Proofs.Ytdkphnojloanoaa
open Go.RowKit Go.Sort base
/-- all different lines below n, in twos and threes -/
def twos (n : Nat) (p : Nat → Nat → Bool) : Bool := (List.range n).all fun a => (List.range n).all fun b => a == b || p a b
def threes (n : Nat) (p : Nat → Nat → Nat → Bool) : Bool := (List.range n).all fun a => (List.range n).all fun b => a == b || (List.range n).all fun c => a == c || (b == c || p a b c)
theorem twos_out {n : Nat} {p : Nat → Nat → Bool} (h : twos n p = true) {a b : Nat} (ha : a < n) (hb : b < n) (hab : a ≠ b) : p a b = true := by
  simp only [twos, List.all_eq_true, List.mem_range] at h
  have := h a ha b hb
  simpa [hab] using this
theorem threes_out {n : Nat} {p : Nat → Nat → Nat → Bool} (h : threes n p = true) {a b c : Nat} (ha : a < n) (hb : b < n) (hc : c < n) (hab : a ≠ b) (hac : a ≠ c) (hbc : b ≠ c) : p a b c = true := by
  simp only [threes, List.all_eq_true, List.mem_range] at h
  have h1 := h a ha b hb
  simp only [Bool.or_eq_true, beq_iff_eq, hab, false_or, List.all_eq_true, List.mem_range] at h1
  have h2 := h1 c hc
  simpa [hac, hbc] using h2
def undoes (k : Int) (a b c : Nat) : Bool := (List.range 256).all fun x => runG k a b c (runG k a b c x) == x
theorem undo0 : (List.range 8).all (fun a => undoes 0 a 0 0) = true := by decide +kernel
theorem undo1 : twos 8 (fun a b => undoes 1 a b 0) = true := by decide +kernel
theorem undo3 : twos 8 (fun a b => undoes 3 a b 0) = true := by decide +kernel
theorem undo2 : threes 8 (fun a b c => undoes 2 a b c) = true := by decide +kernel
theorem undo4 : threes 8 (fun a b c => undoes 4 a b c) = true := by decide +kernel
/-- a fact of every gate, out of its five kinds -/
theorem gate_fact {n a b c : Nat} {k : Int} {p : Int → Nat → Nat → Nat → Bool} (h : gateQ n k a b c = true)
    (p0 : a < n → p 0 a 0 0 = true) (p1 : a < n → b < n → a ≠ b → p 1 a b 0 = true) (p2 : a < n → b < n → c < n → a ≠ b → a ≠ c → b ≠ c → p 2 a b c = true)
    (p3 : a < n → b < n → a ≠ b → p 3 a b 0 = true) (p4 : a < n → b < n → c < n → a ≠ b → a ≠ c → b ≠ c → p 4 a b c = true) : p k a b c = true := by
  rcases kind_cases (gateQ_kind h) with rfl | rfl | rfl | rfl | rfl
  · have := gate0.1 h
    obtain rfl : b = 0 := by omega
    obtain rfl : c = 0 := by omega
    exact p0 (by omega)
  · have := gate1.1 h
    obtain rfl : c = 0 := by omega
    exact p1 (by omega) (by omega) (by omega)
  · have := gate2.1 h
    exact p2 (by omega) (by omega) (by omega) (by omega) (by omega) (by omega)
  · have := gate3.1 h
    obtain rfl : c = 0 := by omega
    exact p3 (by omega) (by omega) (by omega)
  · have := gate4.1 h
    exact p4 (by omega) (by omega) (by omega) (by omega) (by omega) (by omega)
theorem undo_all {n a b c x : Nat} {k : Int} (h : gateQ n k a b c = true) (hx : x < 256) : runG k a b c (runG k a b c x) = x := by
  have hn := (gateQ_in h).1
  have key : undoes k a b c = true := by
    refine gate_fact (p := undoes) h (fun h1 => ?_) (fun h1 h2 h3 => ?_) (fun h1 h2 h3 h4 h5 h6 => ?_) (fun h1 h2 h3 => ?_) (fun h1 h2 h3 h4 h5 h6 => ?_)
    · have := undo0; rw [List.all_eq_true] at this; exact this a (by simp; omega)
    · exact twos_out undo1 (by omega) (by omega) h3
    · exact threes_out undo2 (by omega) (by omega) (by omega) h4 h5 h6
    · exact twos_out undo3 (by omega) (by omega) h3
    · exact threes_out undo4 (by omega) (by omega) (by omega) h4 h5 h6
  rw [undoes, List.all_eq_true] at key
  simpa using key x (by simpa using hx)
/-! ### how many words a gate moves -/
def movesN (k : Int) (a b c m : Nat) : Nat := ((List.range m).filter fun x => runG k a b c x != x).length
def moved (n : Nat) (k : Int) : Nat := if k = 0 then 2 ^ n else if k = 1 then 2 ^ n / 2 else if k = 2 then 2 ^ n / 4 else if k = 3 then 2 ^ n / 2 else 2 ^ n / 4
def movesB (n : Nat) (k : Int) (a b c : Nat) : Bool := movesN k a b c (2 ^ n) == moved n k
def moves8 (n : Nat) : Bool := (List.range n).all (fun a => movesB n 0 a 0 0) && twos n (fun a b => movesB n 1 a b 0) && threes n (fun a b c => movesB n 2 a b c) && twos n (fun a b => movesB n 3 a b 0) && threes n (fun a b c => movesB n 4 a b c)
theorem moves_small : (List.range 8).all moves8 = true := by decide +kernel
theorem moves_big : moves8 8 = true := by decide +kernel
theorem moves_ok {n : Nat} (h : n ≤ 8) : moves8 n = true := by
  by_cases h8 : n = 8
  · subst h8; exact moves_big
  · have := moves_small; rw [List.all_eq_true] at this; exact this n (by simp; omega)
theorem moves_all {n a b c : Nat} {k : Int} (h : gateQ n k a b c = true) : movesN k a b c (2 ^ n) = moved n k := by
  have hn := (gateQ_in h).1
  have hm := moves_ok (n := n) (by omega)
  simp only [moves8, Bool.and_eq_true] at hm
  obtain ⟨⟨⟨⟨m0, m1⟩, m2⟩, m3⟩, m4⟩ := hm
  have key : movesB n k a b c = true := by
    refine gate_fact (p := movesB n) h (fun h1 => ?_) (fun h1 h2 h3 => ?_) (fun h1 h2 h3 h4 h5 h6 => ?_) (fun h1 h2 h3 => ?_) (fun h1 h2 h3 h4 h5 h6 => ?_)
    · rw [List.all_eq_true] at m0; exact m0 a (by simp; omega)
    · exact twos_out m1 h1 h2 h3
    · exact threes_out m2 h1 h2 h3 h4 h5 h6
    · exact twos_out m3 h1 h2 h3
    · exact threes_out m4 h1 h2 h3 h4 h5 h6
  simpa [movesB] using key
end Go.Proofs.Ytdkphnojloanoaa
