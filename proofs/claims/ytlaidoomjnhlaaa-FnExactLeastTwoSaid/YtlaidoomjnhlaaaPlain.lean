/-
  Plain lists of numbers: the element at a place, lists told by a function of the place.
  No condition.
-/
namespace Go.Proofs.Ytlaidoomjnhlaaa
/-- the element k of a list of numbers, 0 behind its end -/
def nth (zs : List Int) (k : Nat) : Int := zs.getD k 0
theorem nth_lt {zs : List Int} {k : Nat} (h : k < zs.length) : nth zs k = zs[k] := by simp [nth, h]
theorem take_succ_nth {zs : List Int} {k : Nat} (h : k < zs.length) : zs.take (k + 1) = zs.take k ++ [nth zs k] := by
  rw [List.take_succ_eq_append_getElem h, nth_lt h]
theorem nth_mem {zs : List Int} {k : Nat} (h : k < zs.length) : nth zs k ∈ zs := by rw [nth_lt h]; exact List.getElem_mem h
theorem nth_ext {xs ys : List Int} (hl : xs.length = ys.length) (h : ∀ j, j < xs.length → nth xs j = nth ys j) : xs = ys := by
  apply List.ext_getElem hl
  intro i h1 h2
  have := h i h1
  rwa [nth_lt h1, nth_lt h2] at this
/-- the list of n numbers told by a function of the place -/
def tab (n : Nat) (g : Nat → Int) : List Int := (List.range n).map g
theorem tab_len (n : Nat) (g : Nat → Int) : (tab n g).length = n := by simp [tab]
theorem tab_nth {n : Nat} {g : Nat → Int} {k : Nat} (h : k < n) : nth (tab n g) k = g k := by simp [nth, tab, h]
theorem tab_zero (g : Nat → Int) : tab 0 g = [] := rfl
theorem tab_succ (n : Nat) (g : Nat → Int) : tab (n + 1) g = tab n g ++ [g n] := by simp [tab, List.range_succ]
theorem tab_eq {n : Nat} {g h : Nat → Int} (e : ∀ k, k < n → g k = h k) : tab n g = tab n h := by
  unfold tab; exact List.map_congr_left fun k hk => e k (by simpa using hk)
theorem tab_of {zs : List Int} {n : Nat} (h : zs.length = n) : tab n (nth zs) = zs :=
  nth_ext (by rw [tab_len, h]) fun j hj => tab_nth (by simpa [tab_len] using hj)
theorem all_nth {zs : List Int} {p : Int → Bool} : zs.all p = true ↔ ∀ k, k < zs.length → p (nth zs k) = true := by
  rw [List.all_eq_true]
  constructor
  · intro h k hk; exact h _ (nth_mem hk)
  · intro h x hx
    obtain ⟨k, hk, rfl⟩ := List.getElem_of_mem hx
    rw [← nth_lt hk]; exact h k hk
theorem any_take_succ {zs : List Int} {k : Nat} (p : Int → Bool) (h : k < zs.length) : (zs.take (k + 1)).any p = ((zs.take k).any p || p (nth zs k)) := by
  rw [take_succ_nth h]; simp
theorem any_of_nth {zs : List Int} {k : Nat} (p : Int → Bool) (h : k < zs.length) (hp : p (nth zs k) = true) : zs.any p = true := by
  rw [List.any_eq_true]; exact ⟨nth zs k, nth_mem h, hp⟩
theorem eq_of_nth {xs ys : List Int} (hl : xs.length = ys.length) (h : ∀ j, j < xs.length → nth xs j = nth ys j) : (xs == ys) = true := by
  rw [beq_iff_eq]; exact nth_ext hl h
theorem ne_of_nth {xs ys : List Int} {k : Nat} (h : ¬ nth xs k = nth ys k) : (xs == ys) = false := by
  rw [beq_eq_false_iff_ne]
  rintro rfl
  exact h rfl
end Go.Proofs.Ytlaidoomjnhlaaa
