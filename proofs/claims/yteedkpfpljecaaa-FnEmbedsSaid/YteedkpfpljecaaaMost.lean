/-
  How often a function makes some word at most, and whether it makes every word: SameMost, Onto, OneToOne of the program and of the reference; slices.Max, slices.Min.
  No condition.
-/
import Derived.Test.YteedkpfpljecaaaMade
import Derived.Lib.MinMax
namespace Go.Proofs.Yteedkpfpljecaaa
open Go.RowKit Go.Sort base

/- the greatest number of a list, from a number on; the least -/
def maxFrom (a : Int) (l : List Int) : Int := l.foldl max a
def minFrom (a : Int) (l : List Int) : Int := l.foldl min a
theorem maxFrom_snoc (a : Int) (l : List Int) (x : Int) : maxFrom a (l ++ [x]) = max (maxFrom a l) x := by simp [maxFrom]
theorem minFrom_snoc (a : Int) (l : List Int) (x : Int) : minFrom a (l ++ [x]) = min (minFrom a l) x := by simp [minFrom]
theorem take_head {l : List Int} (h : 0 < l.length) (k : Nat) : l.take (k + 1) = nth l 0 :: (l.tail).take k := by
  cases l with
  | nil => simp at h
  | cons x r => simp [nth]

set_option maxHeartbeats 1000000 in
theorem max_any (A : Option Addr) (n c : Nat) (l : List Int) (w : World) (h : IR w A n l) (hn : 0 < n) :
    Calls Try.prog 40 #[.slice A n c] w fun e w' => e = .returned (.int .i64 (maxFrom (nth l 0) l)) ∧ w = w' := by
  obtain ⟨hlen, hmax, hat⟩ := h
  obtain ⟨b, off, rfl, hbl, hc⟩ := hat hn
  have h0 := hc 0 hn
  rw [Nat.add_zero] at h0
  go_enter Try.func40, Try.ntmps40
  go_wp2_with fail
  go_loop [3, 4] (fun m i => ∃ k : Nat, 1 ≤ k ∧ k ≤ n ∧ i = .int .i64 k ∧ m = .int .i64 (maxFrom (nth l 0) (l.take k))) (fun _ i => n - (intOf i).toNat)
  case atStart => exact ⟨1, by omega, by omega, rfl, by rw [take_head (by omega)]; simp [maxFrom]⟩
  case round =>
    obtain ⟨k, hk1, hk, rfl, rfl⟩ := hrel
    by_cases hlt : k < n
    · have h1 := hc k hlt
      have HT := Lib.hid (show maxFrom (nth l 0) (l.take (k + 1)) = max (maxFrom (nth l 0) (l.take k)) (nth l k) by rw [take_succ_nth (by omega), maxFrom_snoc])
      clear hc hat h0
      go_wp2_with fail
      go_round
      case rel => exact ⟨k + 1, by omega, by omega, by go_num, by rw [HT.out]⟩
      case measure => simp [intOf]; omega
    · obtain rfl : k = n := by omega
      have HT := Lib.hid (show l.take k = l from List.take_of_length_le (by omega))
      go_wp2_with fail
      go_ret
      exact ⟨by rw [HT.out]; rfl, rfl⟩
set_option maxHeartbeats 1000000 in
theorem min_any (A : Option Addr) (n c : Nat) (l : List Int) (w : World) (h : IR w A n l) (hn : 0 < n) :
    Calls Try.prog 20 #[.slice A n c] w fun e w' => e = .returned (.int .i64 (minFrom (nth l 0) l)) ∧ w = w' := by
  obtain ⟨hlen, hmax, hat⟩ := h
  obtain ⟨b, off, rfl, hbl, hc⟩ := hat hn
  have h0 := hc 0 hn
  rw [Nat.add_zero] at h0
  go_enter Try.func20, Try.ntmps20
  go_wp2_with fail
  go_loop [3, 4] (fun m i => ∃ k : Nat, 1 ≤ k ∧ k ≤ n ∧ i = .int .i64 k ∧ m = .int .i64 (minFrom (nth l 0) (l.take k))) (fun _ i => n - (intOf i).toNat)
  case atStart => exact ⟨1, by omega, by omega, rfl, by rw [take_head (by omega)]; simp [minFrom]⟩
  case round =>
    obtain ⟨k, hk1, hk, rfl, rfl⟩ := hrel
    by_cases hlt : k < n
    · have h1 := hc k hlt
      have HT := Lib.hid (show minFrom (nth l 0) (l.take (k + 1)) = min (minFrom (nth l 0) (l.take k)) (nth l k) by rw [take_succ_nth (by omega), minFrom_snoc])
      clear hc hat h0
      go_wp2_with fail
      go_round
      case rel => exact ⟨k + 1, by omega, by omega, by go_num, by rw [HT.out]⟩
      case measure => simp [intOf]; omega
    · obtain rfl : k = n := by omega
      have HT := Lib.hid (show l.take k = l from List.take_of_length_le (by omega))
      go_wp2_with fail
      go_ret
      exact ⟨by rw [HT.out]; rfl, rfl⟩

/- what SameMost gives -/
def most (m : Nat) (f : List Int) : Int := maxFrom (-1) (counts m f)
def sameMost (i o : Int) (f : List Int) : Int := if fnOk i o f then most (pw o).toNat f else -1
theorem most_head {m : Nat} {f : List Int} (h : 0 < m) : maxFrom (nth (counts m f) 0) (counts m f) = most m f := by
  have h0 := nth_counts f h
  have h1 := (cnt_le f (0 : Nat)).1
  unfold most
  cases hc : counts m f with
  | nil => have := counts_len m f; rw [hc] at this; simp at this; omega
  | cons x r =>
    rw [hc] at h0
    have hx : x = cnt f (0 : Nat) := h0
    simp only [maxFrom, List.foldl_cons, nth, List.getD_cons_zero]
    rw [show max x x = x by omega, show max (-1) x = x by omega]
def smList (i o : Int) (f : List Int) (k : Nat) : List Int := (List.range k).map fun j : Nat => sameMany i o f (j : Int)
theorem smList_succ (i o : Int) (f : List Int) (k : Nat) : smList i o f (k + 1) = smList i o f k ++ [sameMany i o f (k : Int)] := by simp [smList, List.range_succ]
theorem smList_ok {i o : Int} {f : List Int} (h : fnOk i o f = true) (k : Nat) : smList i o f k = counts k f := by simp [smList, counts, sameMany, h]
theorem smList_no {i o : Int} {f : List Int} (h : fnOk i o f = false) : ∀ k, maxFrom (-1) (smList i o f k) = -1
  | 0 => rfl
  | k + 1 => by rw [smList_succ, maxFrom_snoc, smList_no h k]; simp [sameMany, h]
theorem sm_most {i o : Int} {f : List Int} {M : Nat} (hM : in14 o = true → pw o = (M : Int)) : maxFrom (-1) (smList i o f M) = sameMost i o f := by
  cases h : fnOk i o f
  · rw [smList_no h]; simp [sameMost, h]
  · obtain ⟨_, ho, _⟩ := fnOk_out h
    rw [smList_ok h]
    simp [sameMost, h, most, hM ho]

set_option maxHeartbeats 1000000 in
theorem sameMost_any (i o : Int) (A : Option Addr) (n c : Nat) (f : List Int) (w : World) (h : IR w A n f) :
    Calls Try.prog 24 #[.int .i64 i, .int .i64 o, .slice A n c] w fun e w' => e = .returned (.int .i64 (sameMost i o f)) ∧ Below w.heap.size w w' := by
  have H := hide h
  have hlen := h.len
  clear h
  cases hf : fnOk i o f
  · have HS := Lib.hid (show sameMost i o f = -1 by simp [sameMost, hf])
    have HF := Lib.hid hf
    clear hf
    go_enter Try.func24, Try.ntmps24
    go_wp2_with fail
    refine (funcValid_b false i o A n c f _ H.out HF.out).mono ?_
    rintro e w1 ⟨rfl, hb1⟩
    go_wp2_with fail
    go_ret
    exact ⟨by rw [HS.out]; rfl, hb1⟩
  · obtain ⟨hi, ho, hl, hr⟩ := fnOk_out hf
    have HF := Lib.hid hf
    have hn : n ≤ 16 := in14_len hi (by rw [← hlen]; exact hl)
    obtain ⟨m, hm, hm0⟩ := pw_nat ho
    have HS := Lib.hid (show maxFrom (nth (counts m f) 0) (counts m f) = sameMost i o f by rw [most_head hm0]; simp [sameMost, hf, hm])
    have HR := hide hr
    have HM := Lib.hid hm
    clear hf hr hl hm
    go_enter Try.func24, Try.ntmps24
    go_wp2_with fail
    refine (funcValid_b true i o A n c f _ H.out HF.out).mono ?_
    rintro e w1 ⟨rfl, hb1⟩
    go_wp2_with fail
    refine (made_any o m A n c f _ (H.out.below hb1) ho HM.out (by omega) (fun k hk => by have := HR.out k (by omega); rw [HM.out] at this; exact this)).mono ?_
    rintro e w2 ⟨⟨v2, rfl, ho2, rfl⟩, hb2⟩
    have r2 := hide (IR.of_own ho2 (counts_len _ _))
    clear ho2
    go_wp2_with fail
    refine (max_any _ _ _ (counts m f) _ r2.out hm0).mono ?_
    rintro e w' ⟨rfl, rfl⟩
    rw [HS.out]
    go_wp2_with fail
    go_ret
    exact ⟨rfl, bseq hb1 hb2⟩
set_option maxHeartbeats 2000000 in
theorem sSameMost_any (i o : Int) (A : Option Addr) (n c : Nat) (f : List Int) (w : World) (h : IR w A n f) :
    Calls Try.prog 34 #[.int .i64 i, .int .i64 o, .slice A n c] w fun e w' => e = .returned (.int .i64 (sameMost i o f)) ∧ w = w' := by
  have H := hide h
  have hcase : (min (max o 0) 4 = 0 ∧ (in14 o = true → pw o = 1)) ∨ (min (max o 0) 4 = 1 ∧ (in14 o = true → pw o = 2)) ∨ (min (max o 0) 4 = 2 ∧ (in14 o = true → pw o = 4)) ∨ (min (max o 0) 4 = 3 ∧ (in14 o = true → pw o = 8)) ∨ (min (max o 0) 4 = 4 ∧ (in14 o = true → pw o = 16)) := by
    by_cases h14 : in14 o = true
    · rcases in14_cases h14 with rfl | rfl | rfl | rfl <;> decide
    · simp only [h14]; simp; omega
  clear h
  rcases hcase with ⟨e0, hM⟩ | ⟨e0, hM⟩ | ⟨e0, hM⟩ | ⟨e0, hM⟩ | ⟨e0, hM⟩
  · have HM := Lib.hid (sm_most (i := i) (f := f) (M := 1) hM)
    clear hM
    go_enter Try.func34, Try.ntmps34
    go_wp2_with fail
    go_loop [7, 8] (fun s j => ∃ k : Nat, k ≤ 1 ∧ j = .int .i64 k ∧ s = .int .i64 (maxFrom (-1) (smList i o f k))) (fun _ j => 1 - (intOf j).toNat)
    case atStart => exact ⟨0, by omega, rfl, rfl⟩
    case round =>
      obtain ⟨k, hk, rfl, rfl⟩ := hrel
      by_cases hlt : k < 1
      · have HT := Lib.hid (show maxFrom (-1) (smList i o f (k + 1)) = max (maxFrom (-1) (smList i o f k)) (sameMany i o f k) by rw [smList_succ, maxFrom_snoc])
        go_wp2_with fail
        refine (sSameMany_any i o A n c f k _ H.out).mono ?_
        rintro e w' ⟨rfl, rfl⟩
        go_wp2_with fail
        go_round
        case rel => exact ⟨k + 1, by omega, by go_num, by rw [HT.out]⟩
        case measure => simp [intOf]; omega
      · obtain rfl : k = 1 := by omega
        rw [HM.out]
        go_wp2_with fail
        go_ret
        exact ⟨rfl, rfl⟩
  · have HM := Lib.hid (sm_most (i := i) (f := f) (M := 2) hM)
    clear hM
    go_enter Try.func34, Try.ntmps34
    go_wp2_with fail
    go_loop [7, 8] (fun s j => ∃ k : Nat, k ≤ 2 ∧ j = .int .i64 k ∧ s = .int .i64 (maxFrom (-1) (smList i o f k))) (fun _ j => 2 - (intOf j).toNat)
    case atStart => exact ⟨0, by omega, rfl, rfl⟩
    case round =>
      obtain ⟨k, hk, rfl, rfl⟩ := hrel
      by_cases hlt : k < 2
      · have HT := Lib.hid (show maxFrom (-1) (smList i o f (k + 1)) = max (maxFrom (-1) (smList i o f k)) (sameMany i o f k) by rw [smList_succ, maxFrom_snoc])
        go_wp2_with fail
        refine (sSameMany_any i o A n c f k _ H.out).mono ?_
        rintro e w' ⟨rfl, rfl⟩
        go_wp2_with fail
        go_round
        case rel => exact ⟨k + 1, by omega, by go_num, by rw [HT.out]⟩
        case measure => simp [intOf]; omega
      · obtain rfl : k = 2 := by omega
        rw [HM.out]
        go_wp2_with fail
        go_ret
        exact ⟨rfl, rfl⟩
  · have HM := Lib.hid (sm_most (i := i) (f := f) (M := 4) hM)
    clear hM
    go_enter Try.func34, Try.ntmps34
    go_wp2_with fail
    go_loop [7, 8] (fun s j => ∃ k : Nat, k ≤ 4 ∧ j = .int .i64 k ∧ s = .int .i64 (maxFrom (-1) (smList i o f k))) (fun _ j => 4 - (intOf j).toNat)
    case atStart => exact ⟨0, by omega, rfl, rfl⟩
    case round =>
      obtain ⟨k, hk, rfl, rfl⟩ := hrel
      by_cases hlt : k < 4
      · have HT := Lib.hid (show maxFrom (-1) (smList i o f (k + 1)) = max (maxFrom (-1) (smList i o f k)) (sameMany i o f k) by rw [smList_succ, maxFrom_snoc])
        go_wp2_with fail
        refine (sSameMany_any i o A n c f k _ H.out).mono ?_
        rintro e w' ⟨rfl, rfl⟩
        go_wp2_with fail
        go_round
        case rel => exact ⟨k + 1, by omega, by go_num, by rw [HT.out]⟩
        case measure => simp [intOf]; omega
      · obtain rfl : k = 4 := by omega
        rw [HM.out]
        go_wp2_with fail
        go_ret
        exact ⟨rfl, rfl⟩
  · have HM := Lib.hid (sm_most (i := i) (f := f) (M := 8) hM)
    clear hM
    go_enter Try.func34, Try.ntmps34
    go_wp2_with fail
    go_loop [7, 8] (fun s j => ∃ k : Nat, k ≤ 8 ∧ j = .int .i64 k ∧ s = .int .i64 (maxFrom (-1) (smList i o f k))) (fun _ j => 8 - (intOf j).toNat)
    case atStart => exact ⟨0, by omega, rfl, rfl⟩
    case round =>
      obtain ⟨k, hk, rfl, rfl⟩ := hrel
      by_cases hlt : k < 8
      · have HT := Lib.hid (show maxFrom (-1) (smList i o f (k + 1)) = max (maxFrom (-1) (smList i o f k)) (sameMany i o f k) by rw [smList_succ, maxFrom_snoc])
        go_wp2_with fail
        refine (sSameMany_any i o A n c f k _ H.out).mono ?_
        rintro e w' ⟨rfl, rfl⟩
        go_wp2_with fail
        go_round
        case rel => exact ⟨k + 1, by omega, by go_num, by rw [HT.out]⟩
        case measure => simp [intOf]; omega
      · obtain rfl : k = 8 := by omega
        rw [HM.out]
        go_wp2_with fail
        go_ret
        exact ⟨rfl, rfl⟩
  · have HM := Lib.hid (sm_most (i := i) (f := f) (M := 16) hM)
    clear hM
    go_enter Try.func34, Try.ntmps34
    go_wp2_with fail
    go_loop [7, 8] (fun s j => ∃ k : Nat, k ≤ 16 ∧ j = .int .i64 k ∧ s = .int .i64 (maxFrom (-1) (smList i o f k))) (fun _ j => 16 - (intOf j).toNat)
    case atStart => exact ⟨0, by omega, rfl, rfl⟩
    case round =>
      obtain ⟨k, hk, rfl, rfl⟩ := hrel
      by_cases hlt : k < 16
      · have HT := Lib.hid (show maxFrom (-1) (smList i o f (k + 1)) = max (maxFrom (-1) (smList i o f k)) (sameMany i o f k) by rw [smList_succ, maxFrom_snoc])
        go_wp2_with fail
        refine (sSameMany_any i o A n c f k _ H.out).mono ?_
        rintro e w' ⟨rfl, rfl⟩
        go_wp2_with fail
        go_round
        case rel => exact ⟨k + 1, by omega, by go_num, by rw [HT.out]⟩
        case measure => simp [intOf]; omega
      · obtain rfl : k = 16 := by omega
        rw [HM.out]
        go_wp2_with fail
        go_ret
        exact ⟨rfl, rfl⟩
end Go.Proofs.Yteedkpfpljecaaa
