/-
  Gates in plain words: which gates are valid; what a gate makes of a word.
  No condition.
-/
import Derived.Test.YtlaidoomjnhlaaaHas
namespace Go.Proofs.Ytlaidoomjnhlaaa
open Go.RowKit Go.Sort base
/-- the lines that a kind has, those that it changes: as sets -/
def kLines (k : Int) : Int := if k = 0 then 1 else if k = 1 then 3 else if k = 2 then 7 else if k = 3 then 3 else 7
def kChanges (k : Int) : Int := if k = 0 then 1 else if k = 1 then 2 else if k = 2 then 4 else if k = 3 then 3 else 6
def kindQ (k : Int) : Bool := decide (0 ≤ k) && decide (k ≤ 4)
theorem kind_cases {k : Int} (h : kindQ k = true) : k = 0 ∨ k = 1 ∨ k = 2 ∨ k = 3 ∨ k = 4 := by simp [kindQ] at h; omega
/-- the lines a, b, c of a gate that a set has -/
def someOf (a b c s : Int) : List Int := (if s % 2 = 1 then [a] else []) ++ (if s / 2 % 2 = 1 then [b] else []) ++ (if s / 4 % 2 = 1 then [c] else [])
theorem someOf_len (a b c s : Int) : (someOf a b c s).length ≤ 3 := by
  unfold someOf
  split <;> split <;> split <;> simp
def inLn (l z : Int) : Bool := decide (0 ≤ z) && decide (z ≤ l - 1)
/-- the element k is a line, and none before it is the same -/
def goodLn (l : Int) (L : List Int) (k : Nat) : Bool := inLn l (nth L k) && !hasQ (L.take k) (nth L k)
def goodLs (l : Int) (L : List Int) : Bool := (List.range L.length).all fun k => goodLn l L k
theorem goodLs_iff {l : Int} {L : List Int} : goodLs l L = true ↔ ∀ k, k < L.length → goodLn l L k = true := by simp [goodLs]
theorem goodLs_no {l : Int} {L : List Int} {k : Nat} (hk : k < L.length) (h : goodLn l L k = false) : goodLs l L = false := by
  cases hg : goodLs l L
  · rfl
  · rw [goodLs_iff.1 hg k hk] at h; cases h
def isZero (z : Int) : Bool := z == 0
def zeros (L : List Int) : Bool := L.all isZero
/-- the gate is valid -/
def gateQ (l k a b c : Int) : Bool := lnOk l && kindQ k && goodLs l (someOf a b c (kLines k)) && zeros (someOf a b c (-1 - kLines k))
theorem some1 (a b c : Int) : someOf a b c 1 = [a] := rfl
theorem some3 (a b c : Int) : someOf a b c 3 = [a, b] := rfl
theorem some7 (a b c : Int) : someOf a b c 7 = [a, b, c] := rfl
theorem somem2 (a b c : Int) : someOf a b c (-2) = [b, c] := rfl
theorem somem4 (a b c : Int) : someOf a b c (-4) = [c] := rfl
theorem somem8 (a b c : Int) : someOf a b c (-8) = [] := rfl
/- what a valid gate has -/
def two (l a b : Int) : Prop := (0 ≤ a ∧ a ≤ l - 1) ∧ (0 ≤ b ∧ b ≤ l - 1) ∧ a ≠ b
theorem good1 {l a : Int} : goodLs l [a] = true ↔ 0 ≤ a ∧ a ≤ l - 1 := by
  simp [goodLs_iff, goodLn, inLn, nth, hasQ]
theorem good2 {l a b : Int} : goodLs l [a, b] = true ↔ (0 ≤ a ∧ a ≤ l - 1) ∧ (0 ≤ b ∧ b ≤ l - 1) ∧ a ≠ b := by
  constructor
  · intro h
    have h0 := goodLs_iff.1 h 0 (by simp)
    have h1 := goodLs_iff.1 h 1 (by simp)
    simp [goodLn, inLn, nth, hasQ] at h0 h1
    omega
  · rintro ⟨h0, h1, h2⟩
    refine goodLs_iff.2 fun k hk => ?_
    rcases (show k = 0 ∨ k = 1 by simp at hk; omega) with rfl | rfl <;> simp [goodLn, inLn, nth, hasQ] <;> omega
theorem good3 {l a b c : Int} : goodLs l [a, b, c] = true ↔ (0 ≤ a ∧ a ≤ l - 1) ∧ (0 ≤ b ∧ b ≤ l - 1) ∧ (0 ≤ c ∧ c ≤ l - 1) ∧ a ≠ b ∧ a ≠ c ∧ b ≠ c := by
  constructor
  · intro h
    have h0 := goodLs_iff.1 h 0 (by simp)
    have h1 := goodLs_iff.1 h 1 (by simp)
    have h2 := goodLs_iff.1 h 2 (by simp)
    simp [goodLn, inLn, nth, hasQ] at h0 h1 h2
    omega
  · rintro ⟨h0, h1, h2, h3, h4, h5⟩
    refine goodLs_iff.2 fun k hk => ?_
    rcases (show k = 0 ∨ k = 1 ∨ k = 2 by simp at hk; omega) with rfl | rfl | rfl <;> simp [goodLn, inLn, nth, hasQ] <;> omega
theorem gate0 {l a b c : Int} : gateQ l 0 a b c = true ↔ (1 ≤ l ∧ l ≤ 8) ∧ (0 ≤ a ∧ a ≤ l - 1) ∧ b = 0 ∧ c = 0 := by
  have : gateQ l 0 a b c = (lnOk l && true && goodLs l [a] && zeros [b, c]) := rfl
  rw [this, Bool.and_eq_true, Bool.and_eq_true, Bool.and_true, lnOk_iff, good1]
  simp [zeros, isZero]
  omega
theorem gate1 {l a b c : Int} : gateQ l 1 a b c = true ↔ (1 ≤ l ∧ l ≤ 8) ∧ ((0 ≤ a ∧ a ≤ l - 1) ∧ (0 ≤ b ∧ b ≤ l - 1) ∧ a ≠ b) ∧ c = 0 := by
  have : gateQ l 1 a b c = (lnOk l && true && goodLs l [a, b] && zeros [c]) := rfl
  rw [this, Bool.and_eq_true, Bool.and_eq_true, Bool.and_true, lnOk_iff, good2]
  simp only [zeros, isZero, List.all_cons, List.all_nil, Bool.and_true, beq_iff_eq]
  constructor
  · rintro ⟨⟨h1, h2⟩, h3⟩; exact ⟨h1, h2, h3⟩
  · rintro ⟨h1, h2, h3⟩; exact ⟨⟨h1, h2⟩, h3⟩
theorem gate3 {l a b c : Int} : gateQ l 3 a b c = true ↔ (1 ≤ l ∧ l ≤ 8) ∧ ((0 ≤ a ∧ a ≤ l - 1) ∧ (0 ≤ b ∧ b ≤ l - 1) ∧ a ≠ b) ∧ c = 0 := by
  have : gateQ l 3 a b c = gateQ l 1 a b c := rfl
  rw [this]; exact gate1
theorem gate2 {l a b c : Int} : gateQ l 2 a b c = true ↔ (1 ≤ l ∧ l ≤ 8) ∧ (0 ≤ a ∧ a ≤ l - 1) ∧ (0 ≤ b ∧ b ≤ l - 1) ∧ (0 ≤ c ∧ c ≤ l - 1) ∧ a ≠ b ∧ a ≠ c ∧ b ≠ c := by
  have : gateQ l 2 a b c = (lnOk l && true && goodLs l [a, b, c] && zeros []) := rfl
  rw [this, Bool.and_eq_true, Bool.and_eq_true, Bool.and_true, lnOk_iff, good3]
  simp only [zeros, List.all_nil, and_true]
theorem gate4 {l a b c : Int} : gateQ l 4 a b c = true ↔ (1 ≤ l ∧ l ≤ 8) ∧ (0 ≤ a ∧ a ≤ l - 1) ∧ (0 ≤ b ∧ b ≤ l - 1) ∧ (0 ≤ c ∧ c ≤ l - 1) ∧ a ≠ b ∧ a ≠ c ∧ b ≠ c := by
  have : gateQ l 4 a b c = gateQ l 2 a b c := rfl
  rw [this]; exact gate2
theorem gateQ_kind {l k a b c : Int} (h : gateQ l k a b c = true) : kindQ k = true := by
  simp [gateQ] at h; exact h.1.1.2
theorem gateQ_ln {l k a b c : Int} (h : gateQ l k a b c = true) : lnOk l = true := by
  simp [gateQ] at h; exact h.1.1.1
/-- all the lines of a valid gate lie in 0 .. l - 1 -/
theorem gateQ_in {l k a b c : Int} (h : gateQ l k a b c = true) : (1 ≤ l ∧ l ≤ 8) ∧ (0 ≤ a ∧ a ≤ l - 1) ∧ (0 ≤ b ∧ b ≤ l - 1) ∧ (0 ≤ c ∧ c ≤ l - 1) := by
  rcases kind_cases (gateQ_kind h) with rfl | rfl | rfl | rfl | rfl
  · have := gate0.1 h; omega
  · have := gate1.1 h; omega
  · have := gate2.1 h; omega
  · have := gate3.1 h; omega
  · have := gate4.1 h; omega
/-- the lines that a list has, as a set -/
def mask (L : List Int) : Nat := L.foldl (fun m z => m ||| 2 ^ z.toNat) 0
theorem mask_snoc (L : List Int) (z : Int) : mask (L ++ [z]) = mask L ||| 2 ^ z.toNat := by simp [mask, List.foldl_append]
theorem mask_from : ∀ (L : List Int) (m : Nat) (y : Int), (∀ z ∈ L, 0 ≤ z) → 0 ≤ y → (L.foldl (fun m z => m ||| 2 ^ z.toNat) m).testBit y.toNat = (m.testBit y.toNat || hasQ L y)
  | [], m, y, _, _ => by simp [hasQ]
  | z :: L, m, y, h, hy => by
    have hz := h z (by simp)
    rw [List.foldl_cons, mask_from L _ y (fun x hx => h x (by simp [hx])) hy, Nat.testBit_or, Nat.testBit_two_pow, Bool.or_assoc]
    congr 1
    rw [Bool.eq_iff_iff]
    simp only [hasQ, Bool.or_eq_true, decide_eq_true_eq, List.contains_iff_mem, List.mem_cons]
    constructor
    · rintro (h1 | h1)
      · exact .inl (by omega)
      · exact .inr h1
    · rintro (h1 | h1)
      · exact .inl (by omega)
      · exact .inr h1
theorem mask_bit {L : List Int} {y : Nat} (h : ∀ z ∈ L, 0 ≤ z) : decide (mask L / 2 ^ y % 2 = 1) = hasQ L (y : Int) := by
  have := mask_from L 0 (y : Int) h (by omega)
  rw [Nat.zero_testBit, Bool.false_or, Int.toNat_natCast, Nat.testBit_eq_decide_div_mod_eq] at this
  exact this
theorem mask_lt_from : ∀ (L : List Int) (m : Nat), (∀ z ∈ L, 0 ≤ z ∧ z ≤ 7) → m < 2 ^ 8 → (L.foldl (fun m z => m ||| 2 ^ z.toNat) m) < 2 ^ 8
  | [], m, _, hm => hm
  | z :: L, m, h, hm => by
    rw [List.foldl_cons]
    refine mask_lt_from L _ (fun x hx => h x (by simp [hx])) (Nat.or_lt_two_pow hm ?_)
    have := h z (by simp)
    exact Nat.pow_lt_pow_right (by omega) (by omega)
theorem mask_lt {L : List Int} (h : ∀ z ∈ L, 0 ≤ z ∧ z ≤ 7) : mask L < 256 := mask_lt_from L 0 h (by decide)
theorem take_good {l : Int} {L : List Int} {k : Nat} (hl : l ≤ 8) (hk : k ≤ L.length) (h : ∀ j, j < k → goodLn l L j = true) : ∀ z ∈ L.take k, 0 ≤ z ∧ z ≤ 7 := by
  intro z hz
  obtain ⟨j, hj, rfl⟩ := List.getElem_of_mem hz
  have hj' : j < k := by simp at hj; omega
  have := h j hj'
  rw [List.getElem_take, ← nth_lt]
  simp [goodLn, inLn] at this
  omega
/-! ### what a gate makes of a word -/
def bt (x l : Nat) : Nat := x / 2 ^ l % 2
theorem bt_01 (x l : Nat) : bt x l = 0 ∨ bt x l = 1 := by unfold bt; omega
def runG (k : Int) (a b c x : Nat) : Nat :=
  if k = 0 then x ^^^ 2 ^ a
  else if k = 1 then x ^^^ bt x a * 2 ^ b
  else if k = 2 then x ^^^ (bt x a &&& bt x b) * 2 ^ c
  else if k = 3 then x ^^^ (bt x a ^^^ bt x b) * 2 ^ a ^^^ (bt x a ^^^ bt x b) * 2 ^ b
  else x ^^^ (bt x a &&& (bt x b ^^^ bt x c)) * 2 ^ b ^^^ (bt x a &&& (bt x b ^^^ bt x c)) * 2 ^ c
/-- the word of a gate: -1 where the arguments are not valid -/
def gateRun (l k a b c x : Int) : Int := if gateQ l k a b c = true ∧ wv l x = true then (runG k a.toNat b.toNat c.toNat x.toNat : Int) else -1
theorem two_pow_lt8 {a : Nat} (h : a < 8) : 2 ^ a < 256 := Nat.pow_lt_pow_right (n := 8) (by omega) h
theorem bit_and_01 {p q : Nat} (hp : p = 0 ∨ p = 1) (hq : q = 0 ∨ q = 1) : (p &&& q) = 0 ∨ (p &&& q) = 1 := by
  rcases hp with rfl | rfl <;> rcases hq with rfl | rfl <;> decide
theorem bit_xor_01 {p q : Nat} (hp : p = 0 ∨ p = 1) (hq : q = 0 ∨ q = 1) : (p ^^^ q) = 0 ∨ (p ^^^ q) = 1 := by
  rcases hp with rfl | rfl <;> rcases hq with rfl | rfl <;> decide
theorem mul_pow_lt {p a n : Nat} (hp : p = 0 ∨ p = 1) (h : a < n) : p * 2 ^ a < 2 ^ n := by
  rcases hp with rfl | rfl
  · rw [Nat.zero_mul]; exact Nat.two_pow_pos n
  · rw [Nat.one_mul]; exact Nat.pow_lt_pow_right (by omega) h
theorem runG_lt {k : Int} {a b c x n : Nat} (ha : a < n) (hb : b < n) (hc : c < n) (hx : x < 2 ^ n) : runG k a b c x < 2 ^ n := by
  have t := @bt_01
  unfold runG
  split
  · exact Nat.xor_lt_two_pow hx (Nat.pow_lt_pow_right (by omega) ha)
  split
  · exact Nat.xor_lt_two_pow hx (mul_pow_lt (t _ _) hb)
  split
  · exact Nat.xor_lt_two_pow hx (mul_pow_lt (bit_and_01 (t _ _) (t _ _)) hc)
  split
  · exact Nat.xor_lt_two_pow (Nat.xor_lt_two_pow hx (mul_pow_lt (bit_xor_01 (t _ _) (t _ _)) ha)) (mul_pow_lt (bit_xor_01 (t _ _) (t _ _)) hb)
  · exact Nat.xor_lt_two_pow (Nat.xor_lt_two_pow hx (mul_pow_lt (bit_and_01 (t _ _) (bit_xor_01 (t _ _) (t _ _))) hb)) (mul_pow_lt (bit_and_01 (t _ _) (bit_xor_01 (t _ _) (t _ _))) hc)
/-- a word with a bit changed -/
def turn (x l : Int) : Int := if x / 2 ^ l.toNat % 2 = 1 then x - 2 ^ l.toNat else x + 2 ^ l.toNat
theorem turn_all : ∀ x : Fin 256, ∀ l : Fin 8, turn (x.val : Int) (l.val : Int) = ((x.val ^^^ 2 ^ l.val : Nat) : Int) := by decide +kernel
theorem turn_xor {x l : Nat} (hx : x < 256) (hl : l < 8) : turn (x : Int) (l : Int) = ((x ^^^ 2 ^ l : Nat) : Int) := turn_all ⟨x, hx⟩ ⟨l, hl⟩
end Go.Proofs.Ytlaidoomjnhlaaa
