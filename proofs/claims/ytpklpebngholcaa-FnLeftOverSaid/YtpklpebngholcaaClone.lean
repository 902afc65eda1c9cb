/-
  slices.Clone, slices.Clip and slices.Equal over numbers.
  No condition.
-/
import Derived.Test.YtpklpebngholcaaInts
namespace Go.Proofs.Ytpklpebngholcaa
open Go.RowKit Go.Sort base
/- slices.Clone of a slice that is not empty -/
set_option maxHeartbeats 400000 in
theorem clone_any (A : Option Addr) (n c : Nat) (a : List Int) (w : World) (ha : IR w A n a) (hn0 : 0 < n) (hn : n ≤ 1000000) :
    Calls Try.prog 58 #[.slice A n c] w (RInts w a) := by
  obtain ⟨hla, hma, hta⟩ := ha
  have ha : IR w A n a := ⟨hla, hma, hta⟩
  obtain ⟨p1, o1, rfl, hbl1, hc1⟩ := hta hn0
  have hk := fun (wx : World) => Lib.run_eql_slice_nil (P := Try.prog) wx 29 3 (some ⟨p1, o1, none⟩) n c 0 0 Try.underlying29
  have HA := hide (ha.below ((Below.refl _ w).alloc (Nat.le_refl _) (.cells #[] 3)))
  have HO := hide (Own.nil0 w w.heap.size (Nat.le_refl _))
  clear ha hta hc1
  go_enter Try.func58, Try.ntmps58
  go_wp2_with (at_builtin; refine wpList_append_ints HO.out HA.out (.tmp 5) (.tmp 6) (by rfl) rfl rfl rfl (by simp; omega) (by simp) ?_; intro v' w' h2 h3 h4)
  go_ret
  exact ⟨⟨_, rfl, by simpa using h2⟩, ((Below.refl _ w).alloc (Nat.le_refl _) _).grown h3 (by simp) (fun k hk => (HO.out.lt k hk).1)⟩
/- slices.Clip of a slice that is known: the same numbers, and no room -/
set_option maxHeartbeats 400000 in
theorem clip_any (A : Option Addr) (n c : Nat) (w : World) (hn : n ≤ c) (hc : c ≤ maxLen) :
    Calls Try.prog 57 #[.slice A n c] w fun e w' => e = .returned (.slice A n n) ∧ w = w' := by
  have hc' : c ≤ 9223372036854775807 := by unfold maxLen at hc; omega
  go_enter Try.func57, Try.ntmps57
  go_wp2
  go_ret
  exact ⟨rfl, rfl⟩
set_option maxHeartbeats 400000 in
theorem equal_any (A B : Option Addr) (n c m d : Nat) (xs ys : List Int) (w : World) (hx : IR w A n xs) (hy : IR w B m ys) :
    Calls Try.prog 26 #[.slice A n c, .slice B m d] w fun e w' => e = .returned (.bool (xs == ys)) ∧ ∃ q, w' = w.drewN q := by
  obtain ⟨hlx, hmx, hax⟩ := hx
  obtain ⟨hly, hmy, hay⟩ := hy
  by_cases hnm : n = m
  · subst hnm
    go_enter Try.func26, Try.ntmps26
    go_wp2
    go_loopw [13] (fun i wr => ∃ k q : Nat, k ≤ n ∧ i = .int .i64 k ∧ (∀ j, j < k → nth xs j = nth ys j) ∧ wr = w.drewN q) (fun i _ => n - (intOf i).toNat)
    case atStart => exact ⟨0, 0, by omega, rfl, fun j hj => absurd hj (by omega), rfl⟩
    case round =>
      obtain ⟨k, q, hk, rfl, heq, rfl⟩ := hrel
      have HE := Lib.hid heq
      clear heq
      by_cases hlt : k < n
      · obtain ⟨b, o, rfl, hbl, hc⟩ := hax (by omega)
        obtain ⟨b', o', rfl, hbl', hc'⟩ := hay (by omega)
        have h1 := hc k hlt
        have h2 := hc' k hlt
        clear hc hc' hax hay
        go_wp2
        go_quiet (fail)
        by_cases he : nth xs k = nth ys k
        · have e1 : (nth xs k == nth ys k) = true := by simpa using he
          have e2 : (nth xs k != nth ys k) = false := by simpa using he
          clear he
          go_wp2
          go_roundw
          case rel =>
            refine ⟨k + 1, _, by omega, by go_num, fun j hj => ?_, rfl⟩
            rcases Nat.lt_or_ge j k with h | h
            · exact HE.out j h
            · obtain rfl : j = k := by omega
              simpa using e1
          case measure => simp [intOf]; omega
        · have e1 : (nth xs k == nth ys k) = false := by simpa using he
          have e2 : (nth xs k != nth ys k) = true := by simpa using he
          have e3 := Lib.hid (ne_of_nth he)
          clear he
          go_wp2
          go_ret
          exact ⟨by rw [e3.out]; rfl, q + nq, by rw [World.drewN_drewN]⟩
      · obtain rfl : k = n := by omega
        have e3 := Lib.hid (eq_of_nth (xs := xs) (ys := ys) (by omega) (by rw [hlx]; exact HE.out))
        go_wp2
        go_ret
        exact ⟨by rw [e3.out]; rfl, _, rfl⟩
  · have e0 : ((n : Int) != (m : Int)) = true := by simp; omega
    have e0' : ((n : Int) == (m : Int)) = false := by simp; omega
    have e1 : (xs == ys) = false := by
      rw [beq_eq_false_iff_ne]; rintro rfl; omega
    have E1 := Lib.hid e1
    clear e1
    go_enter Try.func26, Try.ntmps26
    go_wp2
    go_ret
    exact ⟨by rw [E1.out]; rfl, 0, rfl⟩
end Go.Proofs.Ytpklpebngholcaa
