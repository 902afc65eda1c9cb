/-
  Functions between words: FuncValid of the program and of the reference, at every list of numbers.
  No condition.
-/
import Derived.Test.YtokcappgaokeaaaDoorWord
import Derived.Test.YtokcappgaokeaaaDoorFind
namespace Go.Proofs.YtokcappgaokeaaaDoor
open Go.RowKit Go.Sort base

def in14 (n : Int) : Bool := decide (1 ≤ n) && decide (n ≤ 4)
def badWord (o : Int) (x : Int) : Bool := !wv o x
/- is a list of numbers a function from words of i lines to words of o lines? -/
def fnOk (i o : Int) (f : List Int) : Bool := in14 i && in14 o && decide ((f.length : Int) = pw i) && !f.any (badWord o)
theorem in14_cases {l : Int} (h : in14 l = true) : l = 1 ∨ l = 2 ∨ l = 3 ∨ l = 4 := by
  simp [in14] at h; omega
theorem in14_lnOk {l : Int} (h : in14 l = true) : lnOk l = true := by
  rcases in14_cases h with rfl | rfl | rfl | rfl <;> rfl

set_option maxHeartbeats 400000 in
theorem badWord_any (o z : Int) (b : Nat) (w : World) (hb : w.cell? ⟨b, 0, none⟩ = some (.int .i64 o)) :
    Calls Tryd.prog 30 (#[.int .i64 z] ++ #[.pointer (some ⟨b, 0, none⟩)]) w fun e w' => e = .returned (.bool (badWord o z)) ∧ w = w' := by
  show Calls Tryd.prog 30 #[.int .i64 z, .pointer (some ⟨b, 0, none⟩)] w _
  go_enter Tryd.func30, Tryd.ntmps30
  go_wp2_with (go_at_call 31; refine (wordValid_any _ _ _).mono ?_; rintro e w' ⟨rfl, rfl⟩)
  go_ret
  exact ⟨rfl, rfl⟩
set_option maxHeartbeats 1000000 in
theorem funcValid_any (i o : Int) (A : Option Addr) (n c : Nat) (f : List Int) (w : World) (h : IR w A n f) :
    Calls Tryd.prog 15 #[.int .i64 i, .int .i64 o, .slice A n c] w fun e w' => e = .returned (.bool (fnOk i o f)) ∧ Below w.heap.size w w' := by
  have hlen := h.len
  have hmax := h.max
  cases hi : in14 i
  · have HF := Lib.hid (show fnOk i o f = false by simp [fnOk, hi])
    clear h
    go_enter Tryd.func15, Tryd.ntmps15
    go_wp2_with (go_at_call 28; refine (within_b false _ _ _ hi _).mono ?_; rintro e w' ⟨rfl, rfl⟩)
    go_ret
    exact ⟨by rw [HF.out]; rfl, by go_grown⟩
  · cases ho : in14 o
    · have HF := Lib.hid (show fnOk i o f = false by simp [fnOk, ho])
      clear h
      go_enter Tryd.func15, Tryd.ntmps15
      go_wp2_with fail
      refine (within_b true _ _ _ hi _).mono ?_
      rintro e w' ⟨rfl, rfl⟩
      go_wp2_with fail
      refine (within_b false _ _ _ ho _).mono ?_
      rintro e w' ⟨rfl, rfl⟩
      go_wp2_with fail
      go_ret
      exact ⟨by rw [HF.out]; rfl, by go_grown⟩
    · by_cases hl : (n : Int) = pw i
      · have HR := Lib.hid (show fnOk i o f = !f.any (badWord o) by simp [fnOk, hi, ho, hlen, hl])
        have H := hide h
        clear h
        clear hlen
        rcases in14_cases hi with rfl | rfl | rfl | rfl
        all_goals clear hi
        · obtain rfl : n = 2 := by simp [pw] at hl; omega
          clear hl
          go_enter Tryd.func15, Tryd.ntmps15
          go_wp2_with fail
          refine (within_b true _ _ _ (by decide) _).mono ?_
          rintro e w' ⟨rfl, rfl⟩
          go_wp2_with fail
          refine (within_b true _ _ _ ho _).mono ?_
          rintro e w' ⟨rfl, rfl⟩
          go_wp2_with fail
          refine (containsFunc_any 30 #[.pointer (some ⟨w.heap.size, 0, none⟩)] (badWord o) (fun _ _ => by kernel_rfl) _ (fun z => badWord_any o z w.heap.size _ (cell_at rfl rfl)) A 2 c f (H.out.below (by go_grown))).mono ?_
          rintro e w' ⟨rfl, rfl⟩
          go_wp2_with fail
          go_ret
          exact ⟨by rw [HR.out]; rfl, by go_grown⟩
        · obtain rfl : n = 4 := by simp [pw] at hl; omega
          clear hl
          go_enter Tryd.func15, Tryd.ntmps15
          go_wp2_with fail
          refine (within_b true _ _ _ (by decide) _).mono ?_
          rintro e w' ⟨rfl, rfl⟩
          go_wp2_with fail
          refine (within_b true _ _ _ ho _).mono ?_
          rintro e w' ⟨rfl, rfl⟩
          go_wp2_with fail
          refine (containsFunc_any 30 #[.pointer (some ⟨w.heap.size, 0, none⟩)] (badWord o) (fun _ _ => by kernel_rfl) _ (fun z => badWord_any o z w.heap.size _ (cell_at rfl rfl)) A 4 c f (H.out.below (by go_grown))).mono ?_
          rintro e w' ⟨rfl, rfl⟩
          go_wp2_with fail
          go_ret
          exact ⟨by rw [HR.out]; rfl, by go_grown⟩
        · obtain rfl : n = 8 := by simp [pw] at hl; omega
          clear hl
          go_enter Tryd.func15, Tryd.ntmps15
          go_wp2_with fail
          refine (within_b true _ _ _ (by decide) _).mono ?_
          rintro e w' ⟨rfl, rfl⟩
          go_wp2_with fail
          refine (within_b true _ _ _ ho _).mono ?_
          rintro e w' ⟨rfl, rfl⟩
          go_wp2_with fail
          refine (containsFunc_any 30 #[.pointer (some ⟨w.heap.size, 0, none⟩)] (badWord o) (fun _ _ => by kernel_rfl) _ (fun z => badWord_any o z w.heap.size _ (cell_at rfl rfl)) A 8 c f (H.out.below (by go_grown))).mono ?_
          rintro e w' ⟨rfl, rfl⟩
          go_wp2_with fail
          go_ret
          exact ⟨by rw [HR.out]; rfl, by go_grown⟩
        · obtain rfl : n = 16 := by simp [pw] at hl; omega
          clear hl
          go_enter Tryd.func15, Tryd.ntmps15
          go_wp2_with fail
          refine (within_b true _ _ _ (by decide) _).mono ?_
          rintro e w' ⟨rfl, rfl⟩
          go_wp2_with fail
          refine (within_b true _ _ _ ho _).mono ?_
          rintro e w' ⟨rfl, rfl⟩
          go_wp2_with fail
          refine (containsFunc_any 30 #[.pointer (some ⟨w.heap.size, 0, none⟩)] (badWord o) (fun _ _ => by kernel_rfl) _ (fun z => badWord_any o z w.heap.size _ (cell_at rfl rfl)) A 16 c f (H.out.below (by go_grown))).mono ?_
          rintro e w' ⟨rfl, rfl⟩
          go_wp2_with fail
          go_ret
          exact ⟨by rw [HR.out]; rfl, by go_grown⟩
      · have HF := Lib.hid (show fnOk i o f = false by simp [fnOk, hlen, hl])
        clear h
        rcases in14_cases hi with rfl | rfl | rfl | rfl
        all_goals clear hi
        · have h1 : ((n : Int) == 2) = false := by simp [pw] at hl; simp; omega
          have h2 : ((n : Int) != 2) = true := by simp [pw] at hl; simp; omega
          clear hl
          go_enter Tryd.func15, Tryd.ntmps15
          go_wp2_with fail
          refine (within_b true _ _ _ (by decide) _).mono ?_
          rintro e w' ⟨rfl, rfl⟩
          go_wp2_with fail
          refine (within_b true _ _ _ ho _).mono ?_
          rintro e w' ⟨rfl, rfl⟩
          go_wp2_with fail
          go_ret
          exact ⟨by rw [HF.out]; rfl, by go_grown⟩
        · have h1 : ((n : Int) == 4) = false := by simp [pw] at hl; simp; omega
          have h2 : ((n : Int) != 4) = true := by simp [pw] at hl; simp; omega
          clear hl
          go_enter Tryd.func15, Tryd.ntmps15
          go_wp2_with fail
          refine (within_b true _ _ _ (by decide) _).mono ?_
          rintro e w' ⟨rfl, rfl⟩
          go_wp2_with fail
          refine (within_b true _ _ _ ho _).mono ?_
          rintro e w' ⟨rfl, rfl⟩
          go_wp2_with fail
          go_ret
          exact ⟨by rw [HF.out]; rfl, by go_grown⟩
        · have h1 : ((n : Int) == 8) = false := by simp [pw] at hl; simp; omega
          have h2 : ((n : Int) != 8) = true := by simp [pw] at hl; simp; omega
          clear hl
          go_enter Tryd.func15, Tryd.ntmps15
          go_wp2_with fail
          refine (within_b true _ _ _ (by decide) _).mono ?_
          rintro e w' ⟨rfl, rfl⟩
          go_wp2_with fail
          refine (within_b true _ _ _ ho _).mono ?_
          rintro e w' ⟨rfl, rfl⟩
          go_wp2_with fail
          go_ret
          exact ⟨by rw [HF.out]; rfl, by go_grown⟩
        · have h1 : ((n : Int) == 16) = false := by simp [pw] at hl; simp; omega
          have h2 : ((n : Int) != 16) = true := by simp [pw] at hl; simp; omega
          clear hl
          go_enter Tryd.func15, Tryd.ntmps15
          go_wp2_with fail
          refine (within_b true _ _ _ (by decide) _).mono ?_
          rintro e w' ⟨rfl, rfl⟩
          go_wp2_with fail
          refine (within_b true _ _ _ ho _).mono ?_
          rintro e w' ⟨rfl, rfl⟩
          go_wp2_with fail
          go_ret
          exact ⟨by rw [HF.out]; rfl, by go_grown⟩
theorem funcValid_b (b : Bool) (i o : Int) (A : Option Addr) (n c : Nat) (f : List Int) (w : World) (h : IR w A n f) (hb : fnOk i o f = b) :
    Calls Tryd.prog 15 #[.int .i64 i, .int .i64 o, .slice A n c] w fun e w' => e = .returned (.bool b) ∧ Below w.heap.size w w' := by
  subst hb; exact funcValid_any i o A n c f w h

set_option maxHeartbeats 1000000 in
theorem sFuncValid_any (i o : Int) (A : Option Addr) (n c : Nat) (f : List Int) (w : World) (h : IR w A n f) :
    Calls Tryd.prog 26 #[.int .i64 i, .int .i64 o, .slice A n c] w fun e w' => e = .returned (.bool (fnOk i o f)) ∧ w = w' := by
  have hlen := h.len
  have hmax := h.max
  cases hi : in14 i
  · have HF := Lib.hid (show fnOk i o f = false by simp [fnOk, hi])
    clear h
    go_enter Tryd.func26, Tryd.ntmps26
    go_wp2_with (go_at_call 33; refine (l1In_b false _ _ _ hi _).mono ?_; rintro e w' ⟨rfl, rfl⟩)
    go_ret
    exact ⟨by rw [HF.out]; rfl, rfl⟩
  · cases ho : in14 o
    · have HF := Lib.hid (show fnOk i o f = false by simp [fnOk, ho])
      clear h
      go_enter Tryd.func26, Tryd.ntmps26
      go_wp2_with fail
      refine (l1In_b true _ _ _ hi _).mono ?_
      rintro e w' ⟨rfl, rfl⟩
      go_wp2_with fail
      refine (l1In_b false _ _ _ ho _).mono ?_
      rintro e w' ⟨rfl, rfl⟩
      go_wp2_with fail
      go_ret
      exact ⟨by rw [HF.out]; rfl, rfl⟩
    · by_cases hl : (n : Int) = pw i
      · have HR := Lib.hid (show fnOk i o f = !f.any (badWord o) by simp [fnOk, hi, ho, hlen, hl])
        obtain ⟨_, _, hat⟩ := h
        have e1 : ((n : Int) != pw i) = false := by simp [hl]
        have e2 : ((n : Int) == pw i) = true := by simp [hl]
        have HL := Lib.hid hl
        clear hl
        rcases in14_cases hi with rfl | rfl | rfl | rfl
        all_goals
          simp only [pw, Int.toNat, Int.reducePow] at e1 e2
          clear hi
          go_enter Tryd.func26, Tryd.ntmps26
          go_wp2_with fail
          refine (l1In_b true _ _ _ (by decide) _).mono ?_
          rintro e w' ⟨rfl, rfl⟩
          go_wp2_with fail
          refine (l1In_b true _ _ _ ho _).mono ?_
          rintro e w' ⟨rfl, rfl⟩
          go_wp2_with fail
          go_loop [7] (fun i => ∃ k : Nat, k ≤ n ∧ i = .int .i64 k ∧ (f.take k).any (badWord o) = false) (fun i => n - (intOf i).toNat)
          case atStart => exact ⟨0, by omega, rfl, by simp⟩
          case round =>
            obtain ⟨k, hk, rfl, hno⟩ := hrel
            have HN := Lib.hid hno
            clear hno
            by_cases hlt : k < n
            · obtain ⟨b, off, rfl, hbl, hc⟩ := hat (by omega)
              have h1 := hc k hlt
              clear hc hat
              cases hp : badWord o (nth f k)
              · have HP := Lib.hid hp
                have hq : wv o (nth f k) = true := by simpa only [badWord, Bool.not_eq_false'] using hp
                clear hp
                go_wp2_with (go_at_call 40; refine (sWordValid_b true _ _ hq _).mono ?_; rintro e w' ⟨rfl, rfl⟩)
                go_round
                case rel => exact ⟨k + 1, by omega, by go_num, by rw [any_take_succ (badWord o) (by omega), HN.out, HP.out]; rfl⟩
                case measure => simp [intOf]; omega
              · have HP := Lib.hid (any_of_nth (badWord o) (by omega) hp)
                have hq : wv o (nth f k) = false := by simpa only [badWord, Bool.not_eq_true'] using hp
                clear hp
                go_wp2_with (go_at_call 40; refine (sWordValid_b false _ _ hq _).mono ?_; rintro e w' ⟨rfl, rfl⟩)
                go_ret
                exact ⟨by rw [HR.out, HP.out]; rfl, rfl⟩
            · obtain rfl : k = n := by omega
              rw [List.take_of_length_le (by omega)] at HN
              go_wp2_with fail
              go_ret
              exact ⟨by rw [HR.out, HN.out]; rfl, rfl⟩
      · have HF := Lib.hid (show fnOk i o f = false by simp [fnOk, hlen, hl])
        have e1 : ((n : Int) != pw i) = true := by simp [hl]
        have e2 : ((n : Int) == pw i) = false := by simp [hl]
        clear h hl
        rcases in14_cases hi with rfl | rfl | rfl | rfl
        all_goals
          simp only [pw, Int.toNat, Int.reducePow] at e1 e2
          clear hi
          go_enter Tryd.func26, Tryd.ntmps26
          go_wp2_with fail
          refine (l1In_b true _ _ _ (by decide) _).mono ?_
          rintro e w' ⟨rfl, rfl⟩
          go_wp2_with fail
          refine (l1In_b true _ _ _ ho _).mono ?_
          rintro e w' ⟨rfl, rfl⟩
          go_wp2_with fail
          go_ret
          exact ⟨by rw [HF.out]; rfl, rfl⟩
theorem sFuncValid_b (b : Bool) (i o : Int) (A : Option Addr) (n c : Nat) (f : List Int) (w : World) (h : IR w A n f) (hb : fnOk i o f = b) :
    Calls Tryd.prog 26 #[.int .i64 i, .int .i64 o, .slice A n c] w fun e w' => e = .returned (.bool b) ∧ w = w' := by
  subst hb; exact sFuncValid_any i o A n c f w h
end Go.Proofs.YtokcappgaokeaaaDoor
