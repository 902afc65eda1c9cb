/-
  How often words come out, plainly: over all words together it is the number of words that go in; the greatest number is reached, and it is at least the average.
  No condition.
-/
import Derived.Test.YteedkpfpljecaaaMost
namespace Go.Proofs.Yteedkpfpljecaaa
open Go.RowKit Go.Sort base
def sumTo : Nat → (Nat → Int) → Int
  | 0, _ => 0
  | k + 1, g => sumTo k g + g k
theorem sumTo_zero : ∀ m, sumTo m (fun _ => 0) = 0
  | 0 => rfl
  | k + 1 => by rw [sumTo, sumTo_zero k]; rfl
theorem sumTo_add (g h : Nat → Int) : ∀ m, sumTo m (fun j => g j + h j) = sumTo m g + sumTo m h
  | 0 => rfl
  | k + 1 => by rw [sumTo, sumTo_add g h k, sumTo, sumTo]; omega
theorem sumTo_congr {g h : Nat → Int} : ∀ m, (∀ j, j < m → g j = h j) → sumTo m g = sumTo m h
  | 0, _ => rfl
  | k + 1, e => by rw [sumTo, sumTo, sumTo_congr k fun j hj => e j (by omega), e k (by omega)]
theorem sumTo_one (x : Nat) : ∀ m, sumTo m (fun j => if x = j then 1 else 0) = if x < m then 1 else 0
  | 0 => by simp [sumTo]
  | k + 1 => by
    rw [sumTo, sumTo_one x k]
    by_cases h : x < k
    · rw [if_pos h, if_neg (by omega), if_pos (by omega)]; rfl
    · by_cases h2 : x = k
      · rw [if_neg h, if_pos h2, if_pos (by omega)]; rfl
      · rw [if_neg h, if_neg h2, if_neg (by omega)]; rfl
theorem sumTo_le {g : Nat → Int} {M : Int} : ∀ m, (∀ j, j < m → g j ≤ M) → sumTo m g ≤ m * M
  | 0, _ => by simp [sumTo]
  | k + 1, h => by
    have h1 := sumTo_le k fun j hj => h j (by omega)
    have h2 := h k (by omega)
    rw [sumTo, Int.natCast_succ, Int.add_mul]
    omega
theorem cnt_cons (x : Int) (f : List Int) (y : Int) : cnt (x :: f) y = cnt f y + if x = y then 1 else 0 := by
  unfold cnt
  rw [List.count_cons]
  by_cases h : x = y
  · subst h; simp
  · simp [h]
theorem sum_cnt {m : Nat} : ∀ (f : List Int), (∀ x ∈ f, 0 ≤ x ∧ x < (m : Int)) → sumTo m (fun j => cnt f (j : Nat)) = f.length
  | [], _ => by
    rw [sumTo_congr (h := fun _ => 0) m fun j _ => by simp [cnt], sumTo_zero]; rfl
  | x :: f, h => by
    obtain ⟨h1, h2⟩ := h x (by simp)
    obtain ⟨k, rfl⟩ := Int.eq_ofNat_of_zero_le h1
    rw [sumTo_congr (h := fun j => cnt f (j : Nat) + if k = j then 1 else 0) m fun j _ => by
      rw [cnt_cons]; congr 1
      by_cases e : k = j
      · subst e; simp
      · rw [if_neg e, if_neg (by omega)]]
    rw [sumTo_add, sum_cnt f fun y hy => h y (by simp [hy]), sumTo_one, if_pos (by omega)]
    simp
theorem maxFrom_ge : ∀ (l : List Int) (a : Int), a ≤ maxFrom a l ∧ ∀ x ∈ l, x ≤ maxFrom a l
  | [], a => ⟨Int.le_refl _, fun x h => by cases h⟩
  | y :: l, a => by
    have := maxFrom_ge l (max a y)
    simp only [maxFrom, List.foldl_cons, List.mem_cons, forall_eq_or_imp] at this ⊢
    refine ⟨by omega, by omega, this.2⟩
theorem maxFrom_mem : ∀ (l : List Int) (a : Int), maxFrom a l = a ∨ maxFrom a l ∈ l
  | [], a => .inl rfl
  | y :: l, a => by
    have := maxFrom_mem l (max a y)
    simp only [maxFrom, List.foldl_cons, List.mem_cons] at this ⊢
    rcases this with h | h
    · rw [h]
      by_cases hy : y ≤ a
      · left; omega
      · right; left; omega
    · exact .inr (.inr h)
/-- a valid function's greatest number: it is some word's, no word's is greater, and together with the number of words that come out it is at least the number of words that go in -/
theorem most_facts {i o : Int} {f : List Int} (h : fnOk i o f = true) : ∃ m : Nat, pw o = (m : Int) ∧ 0 < m ∧ m ≤ 16 ∧ (∃ j, j < m ∧ sameMost i o f = cnt f (j : Nat)) ∧ (∀ j, j < m → cnt f (j : Nat) ≤ sameMost i o f) ∧ (f.length : Int) ≤ m * sameMost i o f ∧ 1 ≤ sameMost i o f ∧ sameMost i o f ≤ 16 := by
  obtain ⟨hi, ho, hl, hr⟩ := fnOk_out h
  obtain ⟨m, hm, hm0⟩ := pw_nat ho
  have hm16 : m ≤ 16 := by rcases pw_cases ho with ⟨_, e⟩ | ⟨_, e⟩ | ⟨_, e⟩ | ⟨_, e⟩ <;> omega
  have hs : sameMost i o f = maxFrom (-1) (counts m f) := by simp [sameMost, h, most, hm]
  have hmem : ∀ x ∈ f, 0 ≤ x ∧ x < (m : Int) := by
    intro x hx
    obtain ⟨k, hk, rfl⟩ := List.getElem_of_mem hx
    have := hr k hk
    rw [nth_lt hk, hm] at this
    exact this
  have hle : ∀ j, j < m → cnt f (j : Nat) ≤ sameMost i o f := fun j hj => by
    rw [hs]
    exact (maxFrom_ge (counts m f) (-1)).2 _ (by rw [← nth_counts f hj]; exact nth_mem (by rw [counts_len]; exact hj))
  have hsum := sum_cnt f hmem
  have hlen : (f.length : Int) ≤ m * sameMost i o f := by rw [← hsum]; exact sumTo_le m hle
  have hpos : 0 < f.length := by rcases pw_cases hi with ⟨_, e⟩ | ⟨_, e⟩ | ⟨_, e⟩ | ⟨_, e⟩ <;> omega
  have hl16 := in14_len hi hl
  have h0 : 0 ≤ sameMost i o f := by have := hle 0 hm0; have := (cnt_le f (0 : Nat)).1; omega
  have h1 : 1 ≤ sameMost i o f := by
    rcases Int.lt_or_le (sameMost i o f) 1 with h | h
    · have : sameMost i o f = 0 := by omega
      rw [this, Int.mul_zero] at hlen; omega
    · exact h
  have hex : ∃ j, j < m ∧ sameMost i o f = cnt f (j : Nat) := by
    rw [hs] at h0 ⊢
    rcases maxFrom_mem (counts m f) (-1) with h | h
    · omega
    · obtain ⟨j, hj, e⟩ := List.getElem_of_mem h
      rw [counts_len] at hj
      refine ⟨j, hj, ?_⟩
      rw [← e, ← nth_lt, nth_counts f hj]
  obtain ⟨j, hj, e⟩ := hex
  exact ⟨m, hm, hm0, hm16, ⟨j, hj, e⟩, hle, hlen, h1, by rw [e]; have := (cnt_le f (j : Nat)).2; omega⟩
end Go.Proofs.Yteedkpfpljecaaa
