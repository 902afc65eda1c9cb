/-
  How often a function makes a word: made and SameMany of the program and of the reference.
  No condition.
-/
import Derived.Test.YteedkpfpljecaaaFunc
namespace Go.Proofs.Yteedkpfpljecaaa
open Go.RowKit Go.Sort base

/- for how many words a list makes x -/
def cnt (f : List Int) (x : Int) : Int := (f.count x : Nat)
def counts (m : Nat) (f : List Int) : List Int := (List.range m).map fun k : Nat => cnt f (k : Int)
def sameMany (i o : Int) (f : List Int) (x : Int) : Int := if fnOk i o f then cnt f x else -1
theorem counts_len (m : Nat) (f : List Int) : (counts m f).length = m := by simp [counts]
theorem nth_counts {m k : Nat} (f : List Int) (h : k < m) : nth (counts m f) k = cnt f k := by simp [nth, counts, h]
theorem cnt_le (f : List Int) (x : Int) : 0 ≤ cnt f x ∧ cnt f x ≤ f.length := by
  unfold cnt
  exact ⟨by omega, by have := List.count_le_length (a := x) (l := f); omega⟩
theorem cnt_snoc (f : List Int) (y x : Int) : cnt (f ++ [y]) x = cnt f x + if y = x then 1 else 0 := by
  unfold cnt
  rw [List.count_append, List.count_singleton]
  by_cases h : y = x <;> simp [h]
theorem counts_snoc (m k : Nat) (f : List Int) (_hk : k < m) : (counts m f).set k (cnt f k + 1) = counts m (f ++ [(k : Int)]) := by
  apply List.ext_getElem
  · simp [counts]
  · intro j h1 h2
    have hj : j < m := by simpa [counts] using h2
    rw [List.getElem_set]
    simp only [counts, List.getElem_map, List.getElem_range, cnt_snoc]
    by_cases h : k = j
    · subst h; simp
    · rw [if_neg h, if_neg (by omega)]; simp
theorem counts_nil (m : Nat) : counts m [] = List.replicate m 0 := by
  apply List.ext_getElem
  · simp [counts]
  · intro j h1 h2
    simp [counts, cnt]
theorem pw_cases {o : Int} (h : in14 o = true) : (o = 1 ∧ pw o = 2) ∨ (o = 2 ∧ pw o = 4) ∨ (o = 3 ∧ pw o = 8) ∨ (o = 4 ∧ pw o = 16) := by
  rcases in14_cases h with rfl | rfl | rfl | rfl <;> simp [pw]
theorem fnOk_out {i o : Int} {f : List Int} (h : fnOk i o f = true) : in14 i = true ∧ in14 o = true ∧ (f.length : Int) = pw i ∧ ∀ k, k < f.length → 0 ≤ nth f k ∧ nth f k < pw o := by
  simp only [fnOk, Bool.and_eq_true, decide_eq_true_eq, Bool.not_eq_true'] at h
  refine ⟨h.1.1.1, h.1.1.2, h.1.2, fun k hk => ?_⟩
  have h2 := h.2
  rw [List.any_eq_false] at h2
  have := h2 (nth f k) (by rw [nth_lt hk]; exact List.getElem_mem hk)
  simp [badWord, wv] at this
  omega
theorem in14_len {i : Int} {n : Nat} (hi : in14 i = true) (h : (n : Int) = pw i) : n ≤ 16 := by
  rcases pw_cases hi with ⟨_, e⟩ | ⟨_, e⟩ | ⟨_, e⟩ | ⟨_, e⟩ <;> omega

set_option maxHeartbeats 2000000 in
theorem made_any (o : Int) (m : Nat) (A : Option Addr) (n c : Nat) (f : List Int) (w : World) (h : IR w A n f) (ho : in14 o = true) (hm : pw o = (m : Int)) (hn : n ≤ 1000) (hf : ∀ k, k < n → 0 ≤ nth f k ∧ nth f k < (m : Int)) :
    Calls Try.prog 21 #[.int .i64 o, .slice A n c] w fun e w' => (∃ v, e = .returned v ∧ Own w' w.heap.size v (counts m f) ∧ v = .slice (some ⟨w.heap.size, 0, none⟩) m m) ∧ Below w.heap.size w w' := by
  obtain ⟨i0, hi, hz0, hz1, hz2⟩ := info_parts int_info
  obtain ⟨hlen, hmax, hat⟩ := h
  have hm16 : m ≤ 16 := in14_len ho hm.symm
  have HF := hide hf
  clear hf
  rcases pw_cases ho with ⟨rfl, e1⟩ | ⟨rfl, e1⟩ | ⟨rfl, e1⟩ | ⟨rfl, e1⟩
  all_goals
    rw [e1] at hm
    clear e1 ho
  · obtain rfl : m = 2 := by omega
    clear hm
    go_enter Try.func21, Try.ntmps21
    go_wp2_with (at_make; refine wpList_make_full _ rfl _ _ 23 rfl w.heap.size 3 i0 (.int .i64 0) 1 Try.underlying23 hi hz0 hz1 _ _ _ _ 2 rfl rfl rfl rfl (by rw [hz2]; omega) (by unfold maxLen; omega) (Nat.le_refl _) ?_; intro w1 hown hgrow)
    rw [made_ints, ← counts_nil] at hown
    have hb1 : Below w.heap.size w w1 := (Below.refl _ _).grown hgrow (Nat.le_refl _) (by simp)
    have O1 : Own w1 w.heap.size (.slice (some ⟨w.heap.size, 0, none⟩) 2 2) (counts 2 []) := hown
    clear hown hgrow hi hz0 hz1 hz2
    go_loopw [13] (fun i wr => ∃ k : Nat, k ≤ n ∧ i = .int .i64 k ∧ Own wr w.heap.size (.slice (some ⟨w.heap.size, 0, none⟩) 2 2) (counts 2 (f.take k)) ∧ Below w.heap.size w wr) (fun i _ => n - (intOf i).toNat)
    case atStart => exact ⟨0, by omega, rfl, O1, hb1⟩
    case round =>
      obtain ⟨k, hk, rfl, ho1, hb⟩ := hrel
      clear O1
      by_cases hlt : k < n
      · obtain ⟨b, off, rfl, hbl, hc⟩ := hat (by omega)
        have h1 : wr.cell? ⟨b, off + k, none⟩ = some (.int .i64 (nth f k)) := (hb.cell (p := ⟨b, off + k, none⟩) hbl).trans (hc k hlt)
        obtain ⟨j, hj⟩ := Int.eq_ofNat_of_zero_le (HF.out k hlt).1
        have hj2 : j < 2 := by have := (HF.out k hlt).2; rw [hj] at this; omega
        have HT := Lib.hid (show f.take (k + 1) = f.take k ++ [(j : Int)] by rw [take_succ_nth (by omega), hj])
        rw [hj] at h1
        have hs := hb.size
        have h2 := ho1.cellAt (counts_len _ _) j hj2
        rw [nth_counts _ hj2] at h2
        have h3 := ho1.frozenAt (counts_len _ _) j
        have hst := ho1.stored (counts_len _ _) j (cnt (f.take k) j + 1)
        rw [counts_snoc _ _ _ hj2, ← HT.out] at hst
        have HS := hide hst
        obtain ⟨hc1, hc2⟩ := cnt_le (f.take k) j
        have hc3 : (f.take k).length ≤ 1000 := by simp; omega
        generalize cnt (f.take k) j = x at *
        generalize (f.take k).length = y at *
        clear hst ho1 hc hat hj
        go_wp2_with fail
        go_roundw
        case rel => exact ⟨k + 1, by omega, by go_num, HS.out.1, hb.setCell (Nat.le_refl _) _⟩
        case measure => simp [intOf]; omega
      · obtain rfl : k = n := by omega
        rw [List.take_of_length_le (by omega)] at ho1
        have HO := hide ho1
        clear ho1
        go_wp2_with fail
        go_ret
        exact ⟨⟨_, rfl, HO.out, rfl⟩, hb⟩
  · obtain rfl : m = 4 := by omega
    clear hm
    go_enter Try.func21, Try.ntmps21
    go_wp2_with (at_make; refine wpList_make_full _ rfl _ _ 23 rfl w.heap.size 3 i0 (.int .i64 0) 1 Try.underlying23 hi hz0 hz1 _ _ _ _ 4 rfl rfl rfl rfl (by rw [hz2]; omega) (by unfold maxLen; omega) (Nat.le_refl _) ?_; intro w1 hown hgrow)
    rw [made_ints, ← counts_nil] at hown
    have hb1 : Below w.heap.size w w1 := (Below.refl _ _).grown hgrow (Nat.le_refl _) (by simp)
    have O1 : Own w1 w.heap.size (.slice (some ⟨w.heap.size, 0, none⟩) 4 4) (counts 4 []) := hown
    clear hown hgrow hi hz0 hz1 hz2
    go_loopw [13] (fun i wr => ∃ k : Nat, k ≤ n ∧ i = .int .i64 k ∧ Own wr w.heap.size (.slice (some ⟨w.heap.size, 0, none⟩) 4 4) (counts 4 (f.take k)) ∧ Below w.heap.size w wr) (fun i _ => n - (intOf i).toNat)
    case atStart => exact ⟨0, by omega, rfl, O1, hb1⟩
    case round =>
      obtain ⟨k, hk, rfl, ho1, hb⟩ := hrel
      clear O1
      by_cases hlt : k < n
      · obtain ⟨b, off, rfl, hbl, hc⟩ := hat (by omega)
        have h1 : wr.cell? ⟨b, off + k, none⟩ = some (.int .i64 (nth f k)) := (hb.cell (p := ⟨b, off + k, none⟩) hbl).trans (hc k hlt)
        obtain ⟨j, hj⟩ := Int.eq_ofNat_of_zero_le (HF.out k hlt).1
        have hj2 : j < 4 := by have := (HF.out k hlt).2; rw [hj] at this; omega
        have HT := Lib.hid (show f.take (k + 1) = f.take k ++ [(j : Int)] by rw [take_succ_nth (by omega), hj])
        rw [hj] at h1
        have hs := hb.size
        have h2 := ho1.cellAt (counts_len _ _) j hj2
        rw [nth_counts _ hj2] at h2
        have h3 := ho1.frozenAt (counts_len _ _) j
        have hst := ho1.stored (counts_len _ _) j (cnt (f.take k) j + 1)
        rw [counts_snoc _ _ _ hj2, ← HT.out] at hst
        have HS := hide hst
        obtain ⟨hc1, hc2⟩ := cnt_le (f.take k) j
        have hc3 : (f.take k).length ≤ 1000 := by simp; omega
        generalize cnt (f.take k) j = x at *
        generalize (f.take k).length = y at *
        clear hst ho1 hc hat hj
        go_wp2_with fail
        go_roundw
        case rel => exact ⟨k + 1, by omega, by go_num, HS.out.1, hb.setCell (Nat.le_refl _) _⟩
        case measure => simp [intOf]; omega
      · obtain rfl : k = n := by omega
        rw [List.take_of_length_le (by omega)] at ho1
        have HO := hide ho1
        clear ho1
        go_wp2_with fail
        go_ret
        exact ⟨⟨_, rfl, HO.out, rfl⟩, hb⟩
  · obtain rfl : m = 8 := by omega
    clear hm
    go_enter Try.func21, Try.ntmps21
    go_wp2_with (at_make; refine wpList_make_full _ rfl _ _ 23 rfl w.heap.size 3 i0 (.int .i64 0) 1 Try.underlying23 hi hz0 hz1 _ _ _ _ 8 rfl rfl rfl rfl (by rw [hz2]; omega) (by unfold maxLen; omega) (Nat.le_refl _) ?_; intro w1 hown hgrow)
    rw [made_ints, ← counts_nil] at hown
    have hb1 : Below w.heap.size w w1 := (Below.refl _ _).grown hgrow (Nat.le_refl _) (by simp)
    have O1 : Own w1 w.heap.size (.slice (some ⟨w.heap.size, 0, none⟩) 8 8) (counts 8 []) := hown
    clear hown hgrow hi hz0 hz1 hz2
    go_loopw [13] (fun i wr => ∃ k : Nat, k ≤ n ∧ i = .int .i64 k ∧ Own wr w.heap.size (.slice (some ⟨w.heap.size, 0, none⟩) 8 8) (counts 8 (f.take k)) ∧ Below w.heap.size w wr) (fun i _ => n - (intOf i).toNat)
    case atStart => exact ⟨0, by omega, rfl, O1, hb1⟩
    case round =>
      obtain ⟨k, hk, rfl, ho1, hb⟩ := hrel
      clear O1
      by_cases hlt : k < n
      · obtain ⟨b, off, rfl, hbl, hc⟩ := hat (by omega)
        have h1 : wr.cell? ⟨b, off + k, none⟩ = some (.int .i64 (nth f k)) := (hb.cell (p := ⟨b, off + k, none⟩) hbl).trans (hc k hlt)
        obtain ⟨j, hj⟩ := Int.eq_ofNat_of_zero_le (HF.out k hlt).1
        have hj2 : j < 8 := by have := (HF.out k hlt).2; rw [hj] at this; omega
        have HT := Lib.hid (show f.take (k + 1) = f.take k ++ [(j : Int)] by rw [take_succ_nth (by omega), hj])
        rw [hj] at h1
        have hs := hb.size
        have h2 := ho1.cellAt (counts_len _ _) j hj2
        rw [nth_counts _ hj2] at h2
        have h3 := ho1.frozenAt (counts_len _ _) j
        have hst := ho1.stored (counts_len _ _) j (cnt (f.take k) j + 1)
        rw [counts_snoc _ _ _ hj2, ← HT.out] at hst
        have HS := hide hst
        obtain ⟨hc1, hc2⟩ := cnt_le (f.take k) j
        have hc3 : (f.take k).length ≤ 1000 := by simp; omega
        generalize cnt (f.take k) j = x at *
        generalize (f.take k).length = y at *
        clear hst ho1 hc hat hj
        go_wp2_with fail
        go_roundw
        case rel => exact ⟨k + 1, by omega, by go_num, HS.out.1, hb.setCell (Nat.le_refl _) _⟩
        case measure => simp [intOf]; omega
      · obtain rfl : k = n := by omega
        rw [List.take_of_length_le (by omega)] at ho1
        have HO := hide ho1
        clear ho1
        go_wp2_with fail
        go_ret
        exact ⟨⟨_, rfl, HO.out, rfl⟩, hb⟩
  · obtain rfl : m = 16 := by omega
    clear hm
    go_enter Try.func21, Try.ntmps21
    go_wp2_with (at_make; refine wpList_make_full _ rfl _ _ 23 rfl w.heap.size 3 i0 (.int .i64 0) 1 Try.underlying23 hi hz0 hz1 _ _ _ _ 16 rfl rfl rfl rfl (by rw [hz2]; omega) (by unfold maxLen; omega) (Nat.le_refl _) ?_; intro w1 hown hgrow)
    rw [made_ints, ← counts_nil] at hown
    have hb1 : Below w.heap.size w w1 := (Below.refl _ _).grown hgrow (Nat.le_refl _) (by simp)
    have O1 : Own w1 w.heap.size (.slice (some ⟨w.heap.size, 0, none⟩) 16 16) (counts 16 []) := hown
    clear hown hgrow hi hz0 hz1 hz2
    go_loopw [13] (fun i wr => ∃ k : Nat, k ≤ n ∧ i = .int .i64 k ∧ Own wr w.heap.size (.slice (some ⟨w.heap.size, 0, none⟩) 16 16) (counts 16 (f.take k)) ∧ Below w.heap.size w wr) (fun i _ => n - (intOf i).toNat)
    case atStart => exact ⟨0, by omega, rfl, O1, hb1⟩
    case round =>
      obtain ⟨k, hk, rfl, ho1, hb⟩ := hrel
      clear O1
      by_cases hlt : k < n
      · obtain ⟨b, off, rfl, hbl, hc⟩ := hat (by omega)
        have h1 : wr.cell? ⟨b, off + k, none⟩ = some (.int .i64 (nth f k)) := (hb.cell (p := ⟨b, off + k, none⟩) hbl).trans (hc k hlt)
        obtain ⟨j, hj⟩ := Int.eq_ofNat_of_zero_le (HF.out k hlt).1
        have hj2 : j < 16 := by have := (HF.out k hlt).2; rw [hj] at this; omega
        have HT := Lib.hid (show f.take (k + 1) = f.take k ++ [(j : Int)] by rw [take_succ_nth (by omega), hj])
        rw [hj] at h1
        have hs := hb.size
        have h2 := ho1.cellAt (counts_len _ _) j hj2
        rw [nth_counts _ hj2] at h2
        have h3 := ho1.frozenAt (counts_len _ _) j
        have hst := ho1.stored (counts_len _ _) j (cnt (f.take k) j + 1)
        rw [counts_snoc _ _ _ hj2, ← HT.out] at hst
        have HS := hide hst
        obtain ⟨hc1, hc2⟩ := cnt_le (f.take k) j
        have hc3 : (f.take k).length ≤ 1000 := by simp; omega
        generalize cnt (f.take k) j = x at *
        generalize (f.take k).length = y at *
        clear hst ho1 hc hat hj
        go_wp2_with fail
        go_roundw
        case rel => exact ⟨k + 1, by omega, by go_num, HS.out.1, hb.setCell (Nat.le_refl _) _⟩
        case measure => simp [intOf]; omega
      · obtain rfl : k = n := by omega
        rw [List.take_of_length_le (by omega)] at ho1
        have HO := hide ho1
        clear ho1
        go_wp2_with fail
        go_ret
        exact ⟨⟨_, rfl, HO.out, rfl⟩, hb⟩
theorem pw_nat {o : Int} (h : in14 o = true) : ∃ m : Nat, pw o = (m : Int) ∧ 0 < m := by
  rcases pw_cases h with ⟨_, e⟩ | ⟨_, e⟩ | ⟨_, e⟩ | ⟨_, e⟩
  · exact ⟨2, e, by omega⟩
  · exact ⟨4, e, by omega⟩
  · exact ⟨8, e, by omega⟩
  · exact ⟨16, e, by omega⟩
theorem cnt_zero {i o : Int} {f : List Int} {x : Int} (h : fnOk i o f = true) (hx : wv o x = false) : cnt f x = 0 := by
  have h2 : f.any (badWord o) = false := by
    simp only [fnOk, Bool.and_eq_true, Bool.not_eq_true'] at h; exact h.2
  unfold cnt
  have h3 : f.count x = 0 := by
    rw [List.count_eq_zero]
    intro hm
    rw [List.any_eq_false] at h2
    exact h2 x hm (by simp [badWord, hx])
  rw [h3]; rfl
theorem wv_iff {o x : Int} (ho : lnOk o = true) : wv o x = true ↔ 0 ≤ x ∧ x < pw o := by
  simp [wv, ho]; omega

set_option maxHeartbeats 1000000 in
theorem sSameMany_any (i o : Int) (A : Option Addr) (n c : Nat) (f : List Int) (x : Int) (w : World) (h : IR w A n f) :
    Calls Try.prog 23 #[.int .i64 i, .int .i64 o, .slice A n c, .int .i64 x] w fun e w' => e = .returned (.int .i64 (sameMany i o f x)) ∧ w = w' := by
  have H := hide h
  obtain ⟨hlen, hmax, hat⟩ := h
  cases hf : fnOk i o f
  · have HS := Lib.hid (show sameMany i o f x = -1 by simp [sameMany, hf])
    have HF := Lib.hid hf
    clear hf
    go_enter Try.func23, Try.ntmps23
    go_wp2_with fail
    refine (sFuncValid_b false i o A n c f _ H.out HF.out).mono ?_
    rintro e w1 ⟨rfl, rfl⟩
    go_wp2_with fail
    go_ret
    exact ⟨by rw [HS.out]; rfl, rfl⟩
  · obtain ⟨hi, ho, hl, hr⟩ := fnOk_out hf
    have HF := Lib.hid hf
    have hn : n ≤ 16 := in14_len hi (by rw [← hlen]; exact hl)
    have HS := Lib.hid (show sameMany i o f x = cnt f x by simp [sameMany, hf])
    clear hf hr hl
    go_enter Try.func23, Try.ntmps23
    go_wp2_with fail
    refine (sFuncValid_b true i o A n c f _ H.out HF.out).mono ?_
    rintro e w1 ⟨rfl, rfl⟩
    go_wp2_with fail
    go_loop [9, 10] (fun s i => ∃ k : Nat, k ≤ n ∧ i = .int .i64 k ∧ s = .int .i64 (cnt (f.take k) x)) (fun _ i => n - (intOf i).toNat)
    case atStart => exact ⟨0, by omega, rfl, rfl⟩
    case round =>
      obtain ⟨k, hk, rfl, rfl⟩ := hrel
      by_cases hlt : k < n
      · obtain ⟨b, off, rfl, hbl, hc⟩ := hat (by omega)
        have h1 := hc k hlt
        obtain ⟨hc1, hc2⟩ := cnt_le (f.take k) x
        have hc3 : (f.take k).length ≤ 1000 := by simp; omega
        have HT := Lib.hid (show cnt (f.take (k + 1)) x = cnt (f.take k) x + if nth f k = x then 1 else 0 by rw [take_succ_nth (by omega), cnt_snoc])
        clear hc hat
        by_cases he : nth f k = x
        · have e1 : (nth f k == x) = true := by simpa using he
          have HE := Lib.hid he
          clear he
          go_wp2_with fail
          go_round
          case rel => exact ⟨k + 1, by omega, by go_num, by rw [HT.out, if_pos HE.out]⟩
          case measure => simp [intOf]; omega
        · have e1 : (nth f k == x) = false := by simpa using he
          have HE := Lib.hid he
          clear he
          go_wp2_with fail
          go_round
          case rel => exact ⟨k + 1, by omega, by go_num, by rw [HT.out, if_neg HE.out]; simp⟩
          case measure => simp [intOf]; omega
      · obtain rfl : k = n := by omega
        have HT := Lib.hid (show f.take k = f from List.take_of_length_le (by omega))
        go_wp2_with fail
        go_ret
        exact ⟨by rw [HS.out, HT.out]; rfl, rfl⟩
end Go.Proofs.Yteedkpfpljecaaa
