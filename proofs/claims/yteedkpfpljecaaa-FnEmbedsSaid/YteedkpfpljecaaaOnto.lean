/-
  Onto of the program and of the reference.
  No condition.
-/
import Derived.Test.YteedkpfpljecaaaMost
namespace Go.Proofs.Yteedkpfpljecaaa
open Go.RowKit Go.Sort base
/- every word is made -/
def onto (i o : Int) (f : List Int) : Bool := fnOk i o f && (counts (pw o).toNat f).all fun x => decide (0 < x)
theorem minFrom_pos : ∀ (l : List Int) (a : Int), (0 < minFrom a l ↔ 0 < a ∧ ∀ x ∈ l, 0 < x)
  | [], a => by simp [minFrom]
  | x :: r, a => by
    have := minFrom_pos r (min a x)
    simp only [minFrom, List.foldl_cons, List.mem_cons, forall_eq_or_imp] at this ⊢
    rw [this]
    constructor
    · rintro ⟨h1, h2⟩; exact ⟨by omega, by omega, h2⟩
    · rintro ⟨h1, h2, h3⟩; exact ⟨by omega, h3⟩
theorem onto_min {m : Nat} {f : List Int} (h : 0 < m) : decide (0 < minFrom (nth (counts m f) 0) (counts m f)) = (counts m f).all fun x => decide (0 < x) := by
  rw [Bool.eq_iff_iff, decide_eq_true_eq, minFrom_pos, List.all_eq_true]
  simp only [decide_eq_true_eq]
  constructor
  · exact fun h => h.2
  · intro h2
    refine ⟨h2 _ ?_, h2⟩
    rw [nth_lt (by rw [counts_len]; exact h)]
    exact List.getElem_mem _
set_option maxHeartbeats 1000000 in
theorem onto_any (i o : Int) (A : Option Addr) (n c : Nat) (f : List Int) (w : World) (h : IR w A n f) :
    Calls Try.prog 7 #[.int .i64 i, .int .i64 o, .slice A n c] w fun e w' => e = .returned (.bool (onto i o f)) ∧ Below w.heap.size w w' := by
  have H := hide h
  have hlen := h.len
  clear h
  cases hf : fnOk i o f
  · have HS := Lib.hid (show onto i o f = false by simp [onto, hf])
    have HF := Lib.hid hf
    clear hf
    go_enter Try.func7, Try.ntmps7
    go_wp2_with fail
    refine (funcValid_b false i o A n c f _ H.out HF.out).mono ?_
    rintro e w1 ⟨rfl, hb1⟩
    go_wp2_with fail
    go_ret
    exact ⟨by rw [HS.out]; rfl, hb1⟩
  · obtain ⟨hi, ho, hl, hr⟩ := fnOk_out hf
    have HF := Lib.hid hf
    have hn : n ≤ 16 := in14_len hi (by rw [← hlen]; exact hl)
    obtain ⟨m, hm, hm0⟩ := pw_nat ho
    have HS := Lib.hid (show onto i o f = decide (0 < minFrom (nth (counts m f) 0) (counts m f)) by rw [onto_min hm0]; simp [onto, hf, hm])
    have HR := hide hr
    have HM := Lib.hid hm
    clear hf hr hl hm
    go_enter Try.func7, Try.ntmps7
    go_wp2_with fail
    refine (funcValid_b true i o A n c f _ H.out HF.out).mono ?_
    rintro e w1 ⟨rfl, hb1⟩
    go_wp2_with fail
    refine (made_any o m A n c f _ (H.out.below hb1) ho HM.out (by omega) (fun k hk => by have := HR.out k (by omega); rw [HM.out] at this; exact this)).mono ?_
    rintro e w2 ⟨⟨v2, rfl, ho2, rfl⟩, hb2⟩
    have r2 := hide (IR.of_own ho2 (counts_len _ _))
    clear ho2
    go_wp2_with fail
    refine (min_any _ _ _ (counts m f) _ r2.out hm0).mono ?_
    rintro e w' ⟨rfl, rfl⟩
    generalize minFrom (nth (counts m f) 0) (counts m f) = x at *
    go_wp2_with fail
    go_ret
    exact ⟨by rw [HS.out]; rfl, bseq hb1 hb2⟩
set_option maxHeartbeats 2000000 in
theorem sOnto_any (i o : Int) (A : Option Addr) (n c : Nat) (f : List Int) (w : World) (h : IR w A n f) :
    Calls Try.prog 8 #[.int .i64 i, .int .i64 o, .slice A n c] w fun e w' => e = .returned (.bool (onto i o f)) ∧ w = w' := by
  have H := hide h
  have hcase : (min (max o 0) 4 = 0 ∧ (in14 o = true → pw o = 1)) ∨ (min (max o 0) 4 = 1 ∧ (in14 o = true → pw o = 2)) ∨ (min (max o 0) 4 = 2 ∧ (in14 o = true → pw o = 4)) ∨ (min (max o 0) 4 = 3 ∧ (in14 o = true → pw o = 8)) ∨ (min (max o 0) 4 = 4 ∧ (in14 o = true → pw o = 16)) := by
    by_cases h14 : in14 o = true
    · rcases in14_cases h14 with rfl | rfl | rfl | rfl <;> decide
    · simp only [h14]; simp; omega
  clear h
  cases hf : fnOk i o f
  · have HS := Lib.hid (show onto i o f = false by simp [onto, hf])
    have HF := Lib.hid hf
    clear hf
    rcases hcase with ⟨e0, _⟩ | ⟨e0, _⟩ | ⟨e0, _⟩ | ⟨e0, _⟩ | ⟨e0, _⟩
    all_goals
      go_enter Try.func8, Try.ntmps8
      go_wp2_with fail
      refine wp_loop_rounds 1 ?_
      rw [rounds_succ]
      go_wp2_with fail
      refine (sFuncValid_b false i o A n c f _ H.out HF.out).mono ?_
      rintro e w' ⟨rfl, rfl⟩
      go_wp2_with fail
      refine (sFuncValid_b false i o A n c f _ H.out HF.out).mono ?_
      rintro e w' ⟨rfl, rfl⟩
      go_wp2_with fail
      go_ret
      exact ⟨by rw [HS.out]; rfl, rfl⟩
  · obtain ⟨_, ho, _⟩ := fnOk_out hf
    have HF := Lib.hid hf
    have HA : Hid (∀ k : Nat, sameMany i o f k = cnt f k) := fun k => by simp [sameMany, hf]
    have HO : Hid (onto i o f = (counts (pw o).toNat f).all fun x => decide (0 < x)) := by show onto i o f = _; simp [onto, hf]
    clear hf
    rcases hcase with ⟨e0, hM⟩ | ⟨e0, hM⟩ | ⟨e0, hM⟩ | ⟨e0, hM⟩ | ⟨e0, hM⟩
    · have HM := Lib.hid (hM ho)
      clear hM
      go_enter Try.func8, Try.ntmps8
      go_wp2_with fail
      go_loop [7] (fun j => ∃ k : Nat, k ≤ 1 ∧ j = .int .i64 k ∧ ∀ y : Nat, y < k → 0 < cnt f y) (fun j => 1 - (intOf j).toNat)
      case atStart => exact ⟨0, by omega, rfl, fun y hy => absurd hy (by omega)⟩
      case round =>
        obtain ⟨k, hk, rfl, hall⟩ := hrel
        have HL := hide hall
        clear hall
        by_cases hlt : k < 1
        · have hc := (cnt_le f k).1
          go_wp2_with fail
          refine (sFuncValid_b true i o A n c f _ H.out HF.out).mono ?_
          rintro e w' ⟨rfl, rfl⟩
          go_wp2_with fail
          refine (sSameMany_any i o A n c f k _ H.out).mono ?_
          rintro e w' ⟨rfl, rfl⟩
          rw [HA.out k]
          by_cases h0 : cnt f k = 0
          · have e1 : (cnt f k == 0) = true := by simpa using h0
            have HS := Lib.hid (show onto i o f = false by
              rw [HO.out, List.all_eq_false]
              exact ⟨cnt f k, by rw [HM.out]; exact List.mem_map.2 ⟨k, List.mem_range.2 hlt, rfl⟩, by simp [h0]⟩)
            clear h0
            go_wp2_with fail
            go_ret
            exact ⟨by rw [HS.out]; rfl, rfl⟩
          · have e1 : (cnt f k == 0) = false := by simpa using h0
            have hp : 0 < cnt f k := by omega
            have HP := Lib.hid hp
            clear h0 hp hc
            go_wp2_with fail
            go_round
            case rel =>
              refine ⟨k + 1, by omega, by go_num, fun y hy => ?_⟩
              rcases Nat.lt_or_ge y k with h | h
              · exact HL.out y h
              · obtain rfl : y = k := by omega
                exact HP.out
            case measure => simp [intOf]; omega
        · obtain rfl : k = 1 := by omega
          have HS := Lib.hid (show onto i o f = true by
            rw [HO.out, HM.out, List.all_eq_true]
            intro x hx
            obtain ⟨y, hy, rfl⟩ := List.mem_map.1 hx
            simpa using HL.out y (List.mem_range.1 hy))
          go_wp2_with fail
          refine (sFuncValid_b true i o A n c f _ H.out HF.out).mono ?_
          rintro e w' ⟨rfl, rfl⟩
          go_wp2_with fail
          go_ret
          exact ⟨by rw [HS.out]; rfl, rfl⟩
    · have HM := Lib.hid (hM ho)
      clear hM
      go_enter Try.func8, Try.ntmps8
      go_wp2_with fail
      go_loop [7] (fun j => ∃ k : Nat, k ≤ 2 ∧ j = .int .i64 k ∧ ∀ y : Nat, y < k → 0 < cnt f y) (fun j => 2 - (intOf j).toNat)
      case atStart => exact ⟨0, by omega, rfl, fun y hy => absurd hy (by omega)⟩
      case round =>
        obtain ⟨k, hk, rfl, hall⟩ := hrel
        have HL := hide hall
        clear hall
        by_cases hlt : k < 2
        · have hc := (cnt_le f k).1
          go_wp2_with fail
          refine (sFuncValid_b true i o A n c f _ H.out HF.out).mono ?_
          rintro e w' ⟨rfl, rfl⟩
          go_wp2_with fail
          refine (sSameMany_any i o A n c f k _ H.out).mono ?_
          rintro e w' ⟨rfl, rfl⟩
          rw [HA.out k]
          by_cases h0 : cnt f k = 0
          · have e1 : (cnt f k == 0) = true := by simpa using h0
            have HS := Lib.hid (show onto i o f = false by
              rw [HO.out, List.all_eq_false]
              exact ⟨cnt f k, by rw [HM.out]; exact List.mem_map.2 ⟨k, List.mem_range.2 hlt, rfl⟩, by simp [h0]⟩)
            clear h0
            go_wp2_with fail
            go_ret
            exact ⟨by rw [HS.out]; rfl, rfl⟩
          · have e1 : (cnt f k == 0) = false := by simpa using h0
            have hp : 0 < cnt f k := by omega
            have HP := Lib.hid hp
            clear h0 hp hc
            go_wp2_with fail
            go_round
            case rel =>
              refine ⟨k + 1, by omega, by go_num, fun y hy => ?_⟩
              rcases Nat.lt_or_ge y k with h | h
              · exact HL.out y h
              · obtain rfl : y = k := by omega
                exact HP.out
            case measure => simp [intOf]; omega
        · obtain rfl : k = 2 := by omega
          have HS := Lib.hid (show onto i o f = true by
            rw [HO.out, HM.out, List.all_eq_true]
            intro x hx
            obtain ⟨y, hy, rfl⟩ := List.mem_map.1 hx
            simpa using HL.out y (List.mem_range.1 hy))
          go_wp2_with fail
          refine (sFuncValid_b true i o A n c f _ H.out HF.out).mono ?_
          rintro e w' ⟨rfl, rfl⟩
          go_wp2_with fail
          go_ret
          exact ⟨by rw [HS.out]; rfl, rfl⟩
    · have HM := Lib.hid (hM ho)
      clear hM
      go_enter Try.func8, Try.ntmps8
      go_wp2_with fail
      go_loop [7] (fun j => ∃ k : Nat, k ≤ 4 ∧ j = .int .i64 k ∧ ∀ y : Nat, y < k → 0 < cnt f y) (fun j => 4 - (intOf j).toNat)
      case atStart => exact ⟨0, by omega, rfl, fun y hy => absurd hy (by omega)⟩
      case round =>
        obtain ⟨k, hk, rfl, hall⟩ := hrel
        have HL := hide hall
        clear hall
        by_cases hlt : k < 4
        · have hc := (cnt_le f k).1
          go_wp2_with fail
          refine (sFuncValid_b true i o A n c f _ H.out HF.out).mono ?_
          rintro e w' ⟨rfl, rfl⟩
          go_wp2_with fail
          refine (sSameMany_any i o A n c f k _ H.out).mono ?_
          rintro e w' ⟨rfl, rfl⟩
          rw [HA.out k]
          by_cases h0 : cnt f k = 0
          · have e1 : (cnt f k == 0) = true := by simpa using h0
            have HS := Lib.hid (show onto i o f = false by
              rw [HO.out, List.all_eq_false]
              exact ⟨cnt f k, by rw [HM.out]; exact List.mem_map.2 ⟨k, List.mem_range.2 hlt, rfl⟩, by simp [h0]⟩)
            clear h0
            go_wp2_with fail
            go_ret
            exact ⟨by rw [HS.out]; rfl, rfl⟩
          · have e1 : (cnt f k == 0) = false := by simpa using h0
            have hp : 0 < cnt f k := by omega
            have HP := Lib.hid hp
            clear h0 hp hc
            go_wp2_with fail
            go_round
            case rel =>
              refine ⟨k + 1, by omega, by go_num, fun y hy => ?_⟩
              rcases Nat.lt_or_ge y k with h | h
              · exact HL.out y h
              · obtain rfl : y = k := by omega
                exact HP.out
            case measure => simp [intOf]; omega
        · obtain rfl : k = 4 := by omega
          have HS := Lib.hid (show onto i o f = true by
            rw [HO.out, HM.out, List.all_eq_true]
            intro x hx
            obtain ⟨y, hy, rfl⟩ := List.mem_map.1 hx
            simpa using HL.out y (List.mem_range.1 hy))
          go_wp2_with fail
          refine (sFuncValid_b true i o A n c f _ H.out HF.out).mono ?_
          rintro e w' ⟨rfl, rfl⟩
          go_wp2_with fail
          go_ret
          exact ⟨by rw [HS.out]; rfl, rfl⟩
    · have HM := Lib.hid (hM ho)
      clear hM
      go_enter Try.func8, Try.ntmps8
      go_wp2_with fail
      go_loop [7] (fun j => ∃ k : Nat, k ≤ 8 ∧ j = .int .i64 k ∧ ∀ y : Nat, y < k → 0 < cnt f y) (fun j => 8 - (intOf j).toNat)
      case atStart => exact ⟨0, by omega, rfl, fun y hy => absurd hy (by omega)⟩
      case round =>
        obtain ⟨k, hk, rfl, hall⟩ := hrel
        have HL := hide hall
        clear hall
        by_cases hlt : k < 8
        · have hc := (cnt_le f k).1
          go_wp2_with fail
          refine (sFuncValid_b true i o A n c f _ H.out HF.out).mono ?_
          rintro e w' ⟨rfl, rfl⟩
          go_wp2_with fail
          refine (sSameMany_any i o A n c f k _ H.out).mono ?_
          rintro e w' ⟨rfl, rfl⟩
          rw [HA.out k]
          by_cases h0 : cnt f k = 0
          · have e1 : (cnt f k == 0) = true := by simpa using h0
            have HS := Lib.hid (show onto i o f = false by
              rw [HO.out, List.all_eq_false]
              exact ⟨cnt f k, by rw [HM.out]; exact List.mem_map.2 ⟨k, List.mem_range.2 hlt, rfl⟩, by simp [h0]⟩)
            clear h0
            go_wp2_with fail
            go_ret
            exact ⟨by rw [HS.out]; rfl, rfl⟩
          · have e1 : (cnt f k == 0) = false := by simpa using h0
            have hp : 0 < cnt f k := by omega
            have HP := Lib.hid hp
            clear h0 hp hc
            go_wp2_with fail
            go_round
            case rel =>
              refine ⟨k + 1, by omega, by go_num, fun y hy => ?_⟩
              rcases Nat.lt_or_ge y k with h | h
              · exact HL.out y h
              · obtain rfl : y = k := by omega
                exact HP.out
            case measure => simp [intOf]; omega
        · obtain rfl : k = 8 := by omega
          have HS := Lib.hid (show onto i o f = true by
            rw [HO.out, HM.out, List.all_eq_true]
            intro x hx
            obtain ⟨y, hy, rfl⟩ := List.mem_map.1 hx
            simpa using HL.out y (List.mem_range.1 hy))
          go_wp2_with fail
          refine (sFuncValid_b true i o A n c f _ H.out HF.out).mono ?_
          rintro e w' ⟨rfl, rfl⟩
          go_wp2_with fail
          go_ret
          exact ⟨by rw [HS.out]; rfl, rfl⟩
    · have HM := Lib.hid (hM ho)
      clear hM
      go_enter Try.func8, Try.ntmps8
      go_wp2_with fail
      go_loop [7] (fun j => ∃ k : Nat, k ≤ 16 ∧ j = .int .i64 k ∧ ∀ y : Nat, y < k → 0 < cnt f y) (fun j => 16 - (intOf j).toNat)
      case atStart => exact ⟨0, by omega, rfl, fun y hy => absurd hy (by omega)⟩
      case round =>
        obtain ⟨k, hk, rfl, hall⟩ := hrel
        have HL := hide hall
        clear hall
        by_cases hlt : k < 16
        · have hc := (cnt_le f k).1
          go_wp2_with fail
          refine (sFuncValid_b true i o A n c f _ H.out HF.out).mono ?_
          rintro e w' ⟨rfl, rfl⟩
          go_wp2_with fail
          refine (sSameMany_any i o A n c f k _ H.out).mono ?_
          rintro e w' ⟨rfl, rfl⟩
          rw [HA.out k]
          by_cases h0 : cnt f k = 0
          · have e1 : (cnt f k == 0) = true := by simpa using h0
            have HS := Lib.hid (show onto i o f = false by
              rw [HO.out, List.all_eq_false]
              exact ⟨cnt f k, by rw [HM.out]; exact List.mem_map.2 ⟨k, List.mem_range.2 hlt, rfl⟩, by simp [h0]⟩)
            clear h0
            go_wp2_with fail
            go_ret
            exact ⟨by rw [HS.out]; rfl, rfl⟩
          · have e1 : (cnt f k == 0) = false := by simpa using h0
            have hp : 0 < cnt f k := by omega
            have HP := Lib.hid hp
            clear h0 hp hc
            go_wp2_with fail
            go_round
            case rel =>
              refine ⟨k + 1, by omega, by go_num, fun y hy => ?_⟩
              rcases Nat.lt_or_ge y k with h | h
              · exact HL.out y h
              · obtain rfl : y = k := by omega
                exact HP.out
            case measure => simp [intOf]; omega
        · obtain rfl : k = 16 := by omega
          have HS := Lib.hid (show onto i o f = true by
            rw [HO.out, HM.out, List.all_eq_true]
            intro x hx
            obtain ⟨y, hy, rfl⟩ := List.mem_map.1 hx
            simpa using HL.out y (List.mem_range.1 hy))
          go_wp2_with fail
          refine (sFuncValid_b true i o A n c f _ H.out HF.out).mono ?_
          rintro e w' ⟨rfl, rfl⟩
          go_wp2_with fail
          go_ret
          exact ⟨by rw [HS.out]; rfl, rfl⟩
end Go.Proofs.Yteedkpfpljecaaa
