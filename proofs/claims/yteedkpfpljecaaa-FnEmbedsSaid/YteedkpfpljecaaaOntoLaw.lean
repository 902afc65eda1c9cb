/-
  Plain laws of functions: what loses nothing; as many in as out.
  No condition.
-/
import Derived.Test.YteedkpfpljecaaaMostLaw
import Derived.Test.YteedkpfpljecaaaOne
import Derived.Test.YteedkpfpljecaaaOnto
import Derived.Test.YteedkpfpljecaaaKeep
import Derived.Test.YteedkpfpljecaaaTable
namespace Go.Proofs.Yteedkpfpljecaaa
open Go.RowKit Go.Sort base
theorem sumTo_lt {g : Nat → Int} : ∀ m, (∀ j, j < m → g j ≤ 1) → sumTo m g = m → ∀ j, j < m → g j = 1
  | 0, _, _, j, hj => by omega
  | k + 1, h, e, j, hj => by
    have h1 := sumTo_le (M := 1) k fun j hj => h j (by omega)
    have h2 := h k (by omega)
    rw [sumTo] at e
    rcases Nat.lt_or_ge j k with hk | hk
    · exact sumTo_lt k (fun j hj => h j (by omega)) (by omega) j hk
    · obtain rfl : j = k := by omega
      omega
theorem sumTo_ge {g : Nat → Int} : ∀ m, (∀ j, j < m → 1 ≤ g j) → (m : Int) ≤ sumTo m g
  | 0, _ => by simp [sumTo]
  | k + 1, h => by
    have h1 := sumTo_ge k fun j hj => h j (by omega)
    have h2 := h k (by omega)
    rw [sumTo]
    omega
theorem sumTo_gt {g : Nat → Int} : ∀ m, (∀ j, j < m → 1 ≤ g j) → sumTo m g = m → ∀ j, j < m → g j = 1
  | 0, _, _, j, hj => by omega
  | k + 1, h, e, j, hj => by
    have h1 := sumTo_ge k fun j hj => h j (by omega)
    have h2 := h k (by omega)
    rw [sumTo] at e
    rcases Nat.lt_or_ge j k with hk | hk
    · exact sumTo_gt k (fun j hj => h j (by omega)) (by omega) j hk
    · obtain rfl : j = k := by omega
      omega
theorem fn_mem {i o : Int} {f : List Int} (h : fnOk i o f = true) {m : Nat} (hm : pw o = (m : Int)) : ∀ x ∈ f, 0 ≤ x ∧ x < (m : Int) := by
  intro x hx
  obtain ⟨k, hk, rfl⟩ := List.getElem_of_mem hx
  have := (fnOk_out h).2.2.2 k hk
  rw [nth_lt hk, hm] at this
  exact this
theorem pw_le_iff {i o : Int} (hi : in14 i = true) (ho : in14 o = true) : pw i ≤ pw o ↔ i ≤ o := by
  rcases pw_cases hi with ⟨rfl, e⟩ | ⟨rfl, e⟩ | ⟨rfl, e⟩ | ⟨rfl, e⟩ <;> rcases pw_cases ho with ⟨rfl, e'⟩ | ⟨rfl, e'⟩ | ⟨rfl, e'⟩ | ⟨rfl, e'⟩ <;> (simp only [e, e']; decide)
/-- what loses nothing keeps nothing, and no fewer lines come out -/
theorem one_law (i o : Int) (f : List Int) : (oneToOne i o f == (keepLines i o f == 0)) = true ∧ (oneToOne i o f = true → i ≤ o) := by
  cases h : fnOk i o f
  · have e : sameMost i o f = -1 := by simp [sameMost, h]
    refine ⟨by simp [oneToOne, e, keepLines, h], fun h1 => by simp [oneToOne, e] at h1⟩
  · obtain ⟨m, hm, _, hm16, _, _, hlen, h1, h16⟩ := most_facts h
    obtain ⟨hi, ho, hl, _⟩ := fnOk_out h
    have hk : keepLines i o f = ((Lib.bitLen (sameMost i o f - 1).toNat : Nat) : Int) := by simp [keepLines, h]
    obtain ⟨s, hs⟩ := Int.eq_ofNat_of_zero_le (show 0 ≤ sameMost i o f - 1 by omega)
    have hs' : sameMost i o f = (s : Int) + 1 := by omega
    have hb : ∀ s : Fin 16, (Lib.bitLen s.val = 0 ↔ s.val = 0) := by decide +kernel
    have hb' := hb ⟨s, by omega⟩
    simp only at hb'
    refine ⟨?_, fun h2 => ?_⟩
    · rw [oneToOne, hk, hs, Int.toNat_natCast, hs']
      rw [beq_iff_eq, Bool.eq_iff_iff]
      simp
      omega
    · have : sameMost i o f = 1 := by simpa [oneToOne] using h2
      rw [this] at hlen
      exact (pw_le_iff hi ho).1 (by rw [← hl, hm]; omega)
theorem cnt_mem {f : List Int} {x : Int} : x ∈ f ↔ 1 ≤ cnt f x := by
  unfold cnt
  have := List.count_pos_iff (a := x) (l := f)
  constructor
  · intro h; have := this.2 h; omega
  · intro h; exact this.1 (by omega)
theorem cnt_take {f : List Int} {k : Nat} (hk : k < f.length) (x : Int) : cnt (f.take (k + 1)) x = cnt (f.take k) x + if nth f k = x then 1 else 0 := by
  rw [take_succ_nth hk, cnt_snoc]
theorem cnt_take_le (f : List Int) (x : Int) : ∀ d k, k + d = f.length → cnt (f.take k) x ≤ cnt f x
  | 0, k, h => by rw [List.take_of_length_le (by omega)]; exact Int.le_refl _
  | d + 1, k, h => by
    have h1 := cnt_take_le f x d (k + 1) (by omega)
    rw [cnt_take (by omega)] at h1
    split at h1 <;> omega
/-- a list of as many numbers as words: no number twice is a table -/
theorem good_iff {f : List Int} {m : Nat} (hm : f.length = m) (hr : ∀ x ∈ f, 0 ≤ x ∧ x < (m : Int)) : goodL f = true ↔ ∀ x, cnt f x ≤ 1 := by
  constructor
  · intro h x
    have key : ∀ k, k ≤ f.length → cnt (f.take k) x ≤ 1 := by
      intro k
      induction k with
      | zero => intro _; simp [cnt]
      | succ k ih =>
        intro hk
        rw [cnt_take (by omega)]
        have h1 := ih (by omega)
        by_cases e : nth f k = x
        · rw [if_pos e]
          have hg := goodL_iff.1 h k (by omega)
          simp only [goodAt, Bool.and_eq_true, Bool.not_eq_true'] at hg
          have h2 := hasQ_no.1 hg.2
          rw [e] at h2
          have := mt cnt_mem.2 h2
          omega
        · rw [if_neg e]; omega
    have := key f.length (Nat.le_refl _)
    rwa [List.take_length] at this
  · intro h
    refine goodL_iff.2 fun k hk => ?_
    have hx := hr _ (nth_mem hk)
    have h1 := cnt_take hk (nth f k)
    rw [if_pos rfl] at h1
    have h2 := cnt_take_le f (nth f k) (f.length - (k + 1)) (k + 1) (by omega)
    have h3 := h (nth f k)
    have h4 : hasQ (f.take k) (nth f k) = false := hasQ_no.2 fun hm => by have := cnt_mem.1 hm; omega
    simp only [goodAt, h4, Bool.not_false, Bool.and_true, Bool.and_eq_true, decide_eq_true_eq]
    omega
theorem onto_iff {i o : Int} {f : List Int} (h : fnOk i o f = true) {m : Nat} (hm : pw o = (m : Int)) : onto i o f = true ↔ ∀ j : Nat, j < m → 1 ≤ cnt f (j : Nat) := by
  rw [onto, h, Bool.true_and, hm, Int.toNat_natCast, all_nth]
  constructor
  · intro H j hj
    have := H j (by rw [counts_len]; exact hj)
    rw [nth_counts f hj] at this
    simp at this
    omega
  · intro H j hj
    rw [counts_len] at hj
    rw [nth_counts f hj]
    have := H j hj
    simp
    omega
/-- as many in as out -/
theorem onto_law (i o : Int) (f : List Int) : (onto i o f = true → o ≤ i) ∧ (i = o → oneToOne i o f = onto i o f ∧ (fnOk i o f && tableOk i f) = onto i o f) := by
  cases h : fnOk i o f
  · have e : sameMost i o f = -1 := by simp [sameMost, h]
    refine ⟨fun h1 => by simp [onto, h] at h1, fun _ => ⟨by simp [oneToOne, e, onto, h], by simp [onto, h]⟩⟩
  · obtain ⟨m, hm, hm0, hm16, ⟨j0, hj0, ej0⟩, hle, hlen, h1, h16⟩ := most_facts h
    obtain ⟨hi, ho, hl, _⟩ := fnOk_out h
    have hmem := fn_mem h hm
    have hsum := sum_cnt f hmem
    refine ⟨fun hon => ?_, fun hio => ?_⟩
    · have h2 := sumTo_ge m ((onto_iff h hm).1 hon)
      rw [hsum] at h2
      exact (pw_le_iff ho hi).1 (by omega)
    · subst hio
      have hfm : f.length = m := by omega
      rw [hfm] at hsum
      have key : onto i i f = true ↔ sameMost i i f = 1 := by
        rw [onto_iff h hm]
        constructor
        · intro H
          have := sumTo_gt m H hsum j0 hj0
          omega
        · intro H j hj
          have := sumTo_lt m (fun j hj => by have := hle j hj; omega) hsum j hj
          omega
      have key2 : goodL f = true ↔ sameMost i i f = 1 := by
        rw [good_iff hfm hmem]
        constructor
        · intro H
          have := H (j0 : Nat)
          omega
        · intro H x
          rcases Int.lt_or_le (cnt f x) 1 with hx | hx
          · omega
          · obtain ⟨x0, x1⟩ := hmem x (cnt_mem.2 hx)
            obtain ⟨j, rfl⟩ := Int.eq_ofNat_of_zero_le x0
            have := hle j (by omega)
            omega
      have ht : tableOk i f = goodL f := by rw [tableOk, in14_lnOk hi]; simp [hl]
      refine ⟨?_, ?_⟩
      · rw [Bool.eq_iff_iff, key]; simp [oneToOne]
      · rw [ht, Bool.true_and, Bool.eq_iff_iff, key, key2]
end Go.Proofs.Yteedkpfpljecaaa
