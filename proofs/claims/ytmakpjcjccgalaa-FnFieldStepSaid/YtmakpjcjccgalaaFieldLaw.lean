/-
  What a step makes of a field, in plain lists of truths: the squares, what is turned in them, and what becomes of it back and turned.
  No condition.
-/
import Derived.Test.YtmakpjcjccgalaaPlain
namespace Go.Proofs.Ytmakpjcjccgalaa
def bth (bs : List Bool) (i : Nat) : Bool := bs.getD i false
def bn (b : Bool) : Nat := if b then 1 else 0
/-- what is in a cell behind a step: its own, the one beside it, the one above or below it, the one in the opposite corner -/
def tq (a b c d : Bool) : Bool := if bn a + bn b + bn c + bn d = 1 then d else if bn a + bn b + bn c + bn d = 2 ∧ a = d then b else a
theorem tq_back : ∀ a b c d, tq (tq a b c d) (tq b a d c) (tq c d a b) (tq d c b a) = a := by decide
theorem tq_turn : ∀ a b c d, tq a c b d = tq a b c d := by decide
theorem tq_sum : ∀ a b c d, bn (tq a b c d) + bn (tq b a d c) + bn (tq c d a b) + bn (tq d c b a) = bn a + bn b + bn c + bn d := by decide
/-- the other column (or row) of a square -/
def mate (s h x : Nat) : Nat := ((((x + s - h) % s) ^^^ 1) + h) % s
def hp (s h k : Nat) : Nat := k / s * s + mate s h (k % s)
def vp (s h k : Nat) : Nat := mate s h (k / s) * s + k % s
def dp (s h k : Nat) : Nat := mate s h (k / s) * s + mate s h (k % s)
def corn (s h x : Nat) : Nat := ((x + s - h) % s) / 2 * 2 + h
def rank (s h k : Nat) : Nat := corn s h (k / s) * s + corn s h (k % s)
def tabB (n : Nat) (g : Nat → Bool) : List Bool := (List.range n).map g
theorem tabB_len (n : Nat) (g : Nat → Bool) : (tabB n g).length = n := by simp [tabB]
theorem tabB_at {n : Nat} {g : Nat → Bool} {k : Nat} (h : k < n) : bth (tabB n g) k = g k := by simp [bth, tabB, h]
theorem bth_out {bs : List Bool} {k : Nat} (h : bs.length ≤ k) : bth bs k = false := by simp [bth, List.getElem?_eq_none h]
theorem bth_lt {bs : List Bool} {k : Nat} (h : k < bs.length) : bth bs k = bs[k] := by simp [bth, h]
theorem bth_ext {xs ys : List Bool} (hl : xs.length = ys.length) (h : ∀ j, j < xs.length → bth xs j = bth ys j) : xs = ys := by
  apply List.ext_getElem hl
  intro i h1 h2
  have := h i h1
  rwa [bth_lt h1, bth_lt h2] at this
theorem bth_set (bs : List Bool) (i k : Nat) (b : Bool) (hi : i < bs.length) : bth (bs.set i b) k = if i = k then b else bth bs k := by
  unfold bth
  rw [List.getD_eq_getElem?_getD, List.getElem?_set, List.getD_eq_getElem?_getD]
  by_cases h : i = k
  · subst h; simp [hi]
  · simp [h]
def stepAt (s h : Nat) (bs : List Bool) (k : Nat) : Bool := tq (bth bs k) (bth bs (hp s h k)) (bth bs (vp s h k)) (bth bs (dp s h k))
def stepB (s h : Nat) (bs : List Bool) : List Bool := tabB (s * s) (stepAt s h bs)
theorem stepB_len (s h : Nat) (bs : List Bool) : (stepB s h bs).length = s * s := tabB_len _ _
def sOk (s h : Nat) : Prop := (s = 2 ∨ s = 4 ∨ s = 6 ∨ s = 8) ∧ (h = 0 ∨ h = 1)
/- the cells of a square know each other -/
def chk1 (s h : Nat) : Bool := (List.range (s * s)).all fun k => decide (hp s h k < s * s ∧ vp s h k < s * s ∧ dp s h k < s * s ∧ hp s h (hp s h k) = k ∧ vp s h (vp s h k) = k ∧ dp s h (dp s h k) = k ∧
  vp s h (hp s h k) = dp s h k ∧ dp s h (hp s h k) = vp s h k ∧ hp s h (vp s h k) = dp s h k ∧ dp s h (vp s h k) = hp s h k ∧ hp s h (dp s h k) = vp s h k ∧ vp s h (dp s h k) = hp s h k)
theorem chk1_ok : (chk1 2 0 && chk1 2 1 && chk1 4 0 && chk1 4 1 && chk1 6 0 && chk1 6 1 && chk1 8 0 && chk1 8 1) = true := by decide +kernel
theorem of_cases {p : Nat → Nat → Bool} (hp : (p 2 0 && p 2 1 && p 4 0 && p 4 1 && p 6 0 && p 6 1 && p 8 0 && p 8 1) = true) {s h : Nat} (hs : sOk s h) : p s h = true := by
  simp only [Bool.and_eq_true] at hp
  obtain ⟨⟨⟨⟨⟨⟨⟨h1, h2⟩, h3⟩, h4⟩, h5⟩, h6⟩, h7⟩, h8⟩ := hp
  obtain ⟨rfl | rfl | rfl | rfl, rfl | rfl⟩ := hs <;> assumption
theorem mates {s h k : Nat} (hs : sOk s h) (hk : k < s * s) : hp s h k < s * s ∧ vp s h k < s * s ∧ dp s h k < s * s ∧ hp s h (hp s h k) = k ∧ vp s h (vp s h k) = k ∧ dp s h (dp s h k) = k ∧
    vp s h (hp s h k) = dp s h k ∧ dp s h (hp s h k) = vp s h k ∧ hp s h (vp s h k) = dp s h k ∧ dp s h (vp s h k) = hp s h k ∧ hp s h (dp s h k) = vp s h k ∧ vp s h (dp s h k) = hp s h k := by
  have h1 := of_cases chk1_ok hs
  rw [chk1, List.all_eq_true] at h1
  have := h1 k (by simpa using hk)
  simpa using this
/-- a step, and the step with the squares laid the same way again -/
theorem step_back {s h : Nat} {bs : List Bool} (hs : sOk s h) (hl : bs.length = s * s) : stepB s h (stepB s h bs) = bs := by
  apply bth_ext (by rw [stepB_len, hl])
  intro k hk
  rw [stepB_len] at hk
  obtain ⟨h1, h2, h3, h4, h5, h6, h7, h8, h9, h10, h11, h12⟩ := mates hs hk
  rw [stepB, tabB_at hk, stepAt, stepB, tabB_at hk, tabB_at h1, tabB_at h2, tabB_at h3]
  unfold stepAt
  rw [h4, h5, h6, h7, h8, h9, h10, h11, h12]
  exact tq_back _ _ _ _
/-! ### how many -/
def cnt (bs : List Bool) : Nat := bs.count true
theorem cnt_sum (bs : List Bool) : cnt bs = (bs.map bn).sum := by
  unfold cnt
  induction bs with
  | nil => rfl
  | cons b bs ih => rw [List.count_cons, ih, List.map_cons, List.sum_cons]; cases b <;> simp [bn] <;> omega
theorem cnt_tab (n : Nat) (g : Nat → Bool) : cnt (tabB n g) = ((List.range n).map fun k => bn (g k)).sum := by rw [cnt_sum, tabB, List.map_map]; rfl
theorem tab_self {bs : List Bool} {n : Nat} (h : bs.length = n) : tabB n (bth bs) = bs := bth_ext (by rw [tabB_len, h]) fun j hj => tabB_at (by simpa [tabB_len] using hj)
/-- the cells of the squares' corners in the south-west -/
def corners (s h : Nat) : List Nat := (List.range (s * s)).filter fun k => rank s h k == k
def fours (s h : Nat) : List Nat := (corners s h).flatMap fun k => [k, hp s h k, vp s h k, dp s h k]
def chk2 (s h : Nat) : Bool := (fours s h).isPerm (List.range (s * s)) && (corners s h).all fun k => decide (k < s * s)
theorem chk2_ok : (chk2 2 0 && chk2 2 1 && chk2 4 0 && chk2 4 1 && chk2 6 0 && chk2 6 1 && chk2 8 0 && chk2 8 1) = true := by decide +kernel
theorem sum_fours {s h : Nat} (hs : sOk s h) (g : Nat → Nat) : ((List.range (s * s)).map g).sum = ((corners s h).map fun k => g k + g (hp s h k) + g (vp s h k) + g (dp s h k)).sum := by
  have h1 := of_cases chk2_ok hs
  rw [chk2, Bool.and_eq_true] at h1
  have hp' := List.isPerm_iff.1 h1.1
  rw [← (hp'.map g).sum_nat, fours]
  generalize corners s h = l
  induction l with
  | nil => rfl
  | cons k l ih => simp only [List.flatMap_cons, List.map_append, List.sum_append, List.map_cons, List.sum_cons, ih, List.map_nil, List.sum_nil]; omega
theorem corner_lt {s h k : Nat} (hs : sOk s h) (hk : k ∈ corners s h) : k < s * s := by
  have h1 := of_cases chk2_ok hs
  rw [chk2, Bool.and_eq_true, List.all_eq_true] at h1
  simpa using h1.2 k hk
theorem step_cnt {s h : Nat} {bs : List Bool} (hs : sOk s h) (hl : bs.length = s * s) : cnt (stepB s h bs) = cnt bs := by
  rw [stepB, cnt_tab, sum_fours hs, ← tab_self hl, cnt_tab, sum_fours hs, tab_self hl]
  congr 1
  refine List.map_congr_left fun k hk => ?_
  obtain ⟨h1, h2, h3, h4, h5, h6, h7, h8, h9, h10, h11, h12⟩ := mates hs (corner_lt hs hk)
  unfold stepAt
  rw [h4, h5, h6, h7, h8, h9, h10, h11, h12]
  exact tq_sum _ _ _ _
/-! ### turned -/
/-- where a cell goes by the turn; whence it comes -/
def tgo (s k : Nat) : Nat := k % s * s + (s - 1 - k / s)
def tcome (s k : Nat) : Nat := (s - 1 - k % s) * s + k / s
def turnB (s : Nat) (bs : List Bool) : List Bool := tabB (s * s) fun k => bth bs (tcome s k)
def chk3 (s h : Nat) : Bool := (List.range (s * s)).all fun k => decide (tgo s k < s * s ∧ tcome s k < s * s ∧ tgo s (tcome s k) = k ∧ tcome s (tgo s k) = k ∧ tcome s (hp s h k) = vp s h (tcome s k) ∧ tcome s (vp s h k) = hp s h (tcome s k) ∧ tcome s (dp s h k) = dp s h (tcome s k))
theorem chk3_ok : (chk3 2 0 && chk3 2 1 && chk3 4 0 && chk3 4 1 && chk3 6 0 && chk3 6 1 && chk3 8 0 && chk3 8 1) = true := by decide +kernel
theorem turns_ {s h k : Nat} (hs : sOk s h) (hk : k < s * s) : tgo s k < s * s ∧ tcome s k < s * s ∧ tgo s (tcome s k) = k ∧ tcome s (tgo s k) = k ∧ tcome s (hp s h k) = vp s h (tcome s k) ∧ tcome s (vp s h k) = hp s h (tcome s k) ∧ tcome s (dp s h k) = dp s h (tcome s k) := by
  have h1 := of_cases chk3_ok hs
  rw [chk3, List.all_eq_true] at h1
  have := h1 k (by simpa using hk)
  simpa using this
theorem turnB_len (s : Nat) (bs : List Bool) : (turnB s bs).length = s * s := tabB_len _ _
/-- a step of the field turned is the step turned -/
theorem step_turn {s h : Nat} {bs : List Bool} (hs : sOk s h) : stepB s h (turnB s bs) = turnB s (stepB s h bs) := by
  apply bth_ext (by rw [stepB_len, turnB_len])
  intro k hk
  rw [stepB_len] at hk
  obtain ⟨h1, h2, h3, h4, h5, h6, h7⟩ := turns_ hs hk
  obtain ⟨m1, m2, m3, _⟩ := mates hs hk
  rw [stepB, tabB_at hk, stepAt, turnB, tabB_at hk, tabB_at m1, tabB_at m2, tabB_at m3, turnB, tabB_at hk, stepB, tabB_at h2, stepAt, h5, h6, h7]
  exact tq_turn _ _ _ _
def chk4 (s : Nat) (_ : Nat) : Bool := ((List.range (s * s)).map (tcome s)).isPerm (List.range (s * s))
theorem chk4_ok : (chk4 2 0 && chk4 2 1 && chk4 4 0 && chk4 4 1 && chk4 6 0 && chk4 6 1 && chk4 8 0 && chk4 8 1) = true := by decide +kernel
theorem turn_cnt {s : Nat} {bs : List Bool} (hs : sOk s 0) (hl : bs.length = s * s) : cnt (turnB s bs) = cnt bs := by
  have h1 := List.isPerm_iff.1 (of_cases chk4_ok hs)
  have h2 := (h1.map fun k => bn (bth bs k)).sum_nat
  rw [turnB, cnt_tab, ← tab_self hl, cnt_tab, tab_self hl, ← h2, List.map_map]
  rfl
/-! ### the squares one after the other -/
def cellN (s x y : Nat) : Nat := y % s * s + x % s
/-- the squares of a rank below r done, the others as told by g -/
def fill (s h : Nat) (bs : List Bool) (g : Nat → Bool) (r : Nat) : List Bool := tabB (s * s) fun k => if rank s h k < r then stepAt s h bs k else g k
theorem fill_len (s h : Nat) (bs : List Bool) (g : Nat → Bool) (r : Nat) : (fill s h bs g r).length = s * s := tabB_len _ _
/- a corner of the loops -/
def chk5 (s h : Nat) : Bool := (List.range s).all fun y => (List.range s).all fun x => if y % 2 = h ∧ x % 2 = h then
    decide (hp s h (cellN s x y) = cellN s (x + 1) y ∧ vp s h (cellN s x y) = cellN s x (y + 1) ∧ dp s h (cellN s x y) = cellN s (x + 1) (y + 1) ∧ cellN s x y < s * s) &&
    (List.range (s * s)).all fun k => decide ((rank s h k = y * s + x ↔ (k = cellN s x y ∨ k = cellN s (x + 1) y ∨ k = cellN s x (y + 1) ∨ k = cellN s (x + 1) (y + 1))) ∧ (rank s h k < y * s + x + 2 ↔ rank s h k < y * s + x ∨ rank s h k = y * s + x))
  else true
theorem chk5_ok : (chk5 2 0 && chk5 2 1 && chk5 4 0 && chk5 4 1 && chk5 6 0 && chk5 6 1 && chk5 8 0 && chk5 8 1) = true := by decide +kernel
theorem corner_ {s h x y : Nat} (hs : sOk s h) (hx : x < s) (hy : y < s) (hx2 : x % 2 = h) (hy2 : y % 2 = h) :
    (hp s h (cellN s x y) = cellN s (x + 1) y ∧ vp s h (cellN s x y) = cellN s x (y + 1) ∧ dp s h (cellN s x y) = cellN s (x + 1) (y + 1) ∧ cellN s x y < s * s) ∧
    ∀ k, k < s * s → (rank s h k = y * s + x ↔ (k = cellN s x y ∨ k = cellN s (x + 1) y ∨ k = cellN s x (y + 1) ∨ k = cellN s (x + 1) (y + 1))) ∧ (rank s h k < y * s + x + 2 ↔ rank s h k < y * s + x ∨ rank s h k = y * s + x) := by
  have h1 := of_cases chk5_ok hs
  rw [chk5, List.all_eq_true] at h1
  have h2 := h1 y (by simpa using hy)
  rw [List.all_eq_true] at h2
  have h3 := h2 x (by simpa using hx)
  rw [if_pos ⟨hy2, hx2⟩, Bool.and_eq_true, List.all_eq_true] at h3
  refine ⟨by simpa only [decide_eq_true_eq] using h3.1, fun k hk => ?_⟩
  have := h3.2 k (by simpa using hk)
  simpa only [decide_eq_true_eq] using this
/- the ends of the loops -/
def chk6 (s h : Nat) : Bool := (List.range (s * s)).all fun k => decide (rank s h k < s * s + h ∧ h * s + h ≤ rank s h k) && (List.range s).all fun y => if y % 2 = h then
    decide (rank s h k < y * s + s + h ↔ rank s h k < (y + 2) * s + h) else true
theorem chk6_ok : (chk6 2 0 && chk6 2 1 && chk6 4 0 && chk6 4 1 && chk6 6 0 && chk6 6 1 && chk6 8 0 && chk6 8 1) = true := by decide +kernel
theorem rank_row {s h k : Nat} (hs : sOk s h) (hk : k < s * s) : (rank s h k < s * s + h ∧ h * s + h ≤ rank s h k) ∧ ∀ y, y < s → y % 2 = h → (rank s h k < y * s + s + h ↔ rank s h k < (y + 2) * s + h) := by
  have h1 := of_cases chk6_ok hs
  rw [chk6, List.all_eq_true] at h1
  have h2 := h1 k (by simpa using hk)
  rw [Bool.and_eq_true, List.all_eq_true] at h2
  refine ⟨by simpa only [decide_eq_true_eq] using h2.1, fun y hy hy2 => ?_⟩
  have := h2.2 y (by simpa using hy)
  rw [if_pos hy2] at this
  simpa only [decide_eq_true_eq] using this
theorem fill_start {s h : Nat} {bs : List Bool} {g : Nat → Bool} (hs : sOk s h) : fill s h bs g (h * s + h) = tabB (s * s) g := by
  unfold fill tabB
  refine List.map_congr_left fun k hk => ?_
  have := (rank_row hs (k := k) (by simpa using hk)).1.2
  rw [if_neg (by omega)]
theorem fill_row {s h y : Nat} {bs : List Bool} {g : Nat → Bool} (hs : sOk s h) (hy : y < s) (hy2 : y % 2 = h) : fill s h bs g (y * s + s + h) = fill s h bs g ((y + 2) * s + h) := by
  unfold fill tabB
  refine List.map_congr_left fun k hk => ?_
  have := (rank_row hs (k := k) (by simpa using hk)).2 y hy hy2
  by_cases h1 : rank s h k < y * s + s + h
  · rw [if_pos h1, if_pos (this.1 h1)]
  · rw [if_neg h1, if_neg (fun h2 => h1 (this.2 h2))]
theorem fill_end {s h r : Nat} {bs : List Bool} {g : Nat → Bool} (hs : sOk s h) (hr : s * s + h ≤ r) : fill s h bs g r = stepB s h bs := by
  unfold fill stepB tabB
  refine List.map_congr_left fun k hk => ?_
  have := (rank_row hs (k := k) (by simpa using hk)).1.1
  rw [if_pos (by omega)]
/-- one square more -/
theorem fill_square {s h x y : Nat} {bs ns : List Bool} {g : Nat → Bool} (hs : sOk s h) (hx : x < s) (hy : y < s) (hx2 : x % 2 = h) (hy2 : y % 2 = h) (hl : ns.length = s * s)
    (hn : ∀ k, k < s * s → bth ns k = if k = cellN s x y ∨ k = cellN s (x + 1) y ∨ k = cellN s x (y + 1) ∨ k = cellN s (x + 1) (y + 1) then stepAt s h bs k else bth (fill s h bs g (y * s + x)) k) :
    ns = fill s h bs g (y * s + (x + 2)) := by
  apply bth_ext (by rw [hl, fill_len])
  intro k hk
  rw [hl] at hk
  have hr := (corner_ hs hx hy hx2 hy2).2 k hk
  have hr2 : rank s h k < y * s + (x + 2) ↔ rank s h k < y * s + x ∨ rank s h k = y * s + x := hr.2
  rw [hn k hk, fill, fill, tabB_at hk, tabB_at hk]
  by_cases hq : k = cellN s x y ∨ k = cellN s (x + 1) y ∨ k = cellN s x (y + 1) ∨ k = cellN s (x + 1) (y + 1)
  · rw [if_pos hq, if_pos (hr2.2 (.inr (hr.1.2 hq)))]
  · rw [if_neg hq]
    by_cases h1 : rank s h k < y * s + x
    · rw [if_pos h1, if_pos (hr2.2 (.inl h1))]
    · rw [if_neg h1, if_neg (fun h2 => by
        rcases hr2.1 h2 with h3 | h3
        · exact h1 h3
        · exact hq (hr.1.1 h3))]
/- what stands in the four cells of a square behind the step -/
theorem square_vals {s h x y : Nat} {bs : List Bool} (hs : sOk s h) (hx : x < s) (hy : y < s) (hx2 : x % 2 = h) (hy2 : y % 2 = h) :
    stepAt s h bs (cellN s x y) = tq (bth bs (cellN s x y)) (bth bs (cellN s (x + 1) y)) (bth bs (cellN s x (y + 1))) (bth bs (cellN s (x + 1) (y + 1))) ∧
    stepAt s h bs (cellN s (x + 1) y) = tq (bth bs (cellN s (x + 1) y)) (bth bs (cellN s x y)) (bth bs (cellN s (x + 1) (y + 1))) (bth bs (cellN s x (y + 1))) ∧
    stepAt s h bs (cellN s x (y + 1)) = tq (bth bs (cellN s x (y + 1))) (bth bs (cellN s (x + 1) (y + 1))) (bth bs (cellN s x y)) (bth bs (cellN s (x + 1) y)) ∧
    stepAt s h bs (cellN s (x + 1) (y + 1)) = tq (bth bs (cellN s (x + 1) (y + 1))) (bth bs (cellN s x (y + 1))) (bth bs (cellN s (x + 1) y)) (bth bs (cellN s x y)) := by
  obtain ⟨⟨e1, e2, e3, e4⟩, _⟩ := corner_ hs hx hy hx2 hy2
  obtain ⟨h1, h2, h3, h4, h5, h6, h7, h8, h9, h10, h11, h12⟩ := mates hs e4
  unfold stepAt
  rw [← e1, ← e2, ← e3, h4, h5, h6, h7, h8, h9, h10, h11, h12]
  exact ⟨rfl, rfl, rfl, rfl⟩
end Go.Proofs.Ytmakpjcjccgalaa
