/-
  Words and lines: linesOk and WordValid of the program and of the reference, at every pair of numbers; the fixed answer that the laws ask.
  No condition.
-/
import Derived.Test.YtlaidoomjnhlaaaInts
namespace Go.Proofs.Ytlaidoomjnhlaaa
open Go.RowKit Go.Sort base

/- 2 to the power of a number of lines -/
def pw (l : Int) : Int := 2 ^ l.toNat
def lnOk (l : Int) : Bool := decide (1 ≤ l) && decide (l ≤ 8)
def wv (l x : Int) : Bool := lnOk l && (decide (0 ≤ x) && decide (x ≤ pw l - 1))
theorem lnOk_iff {l : Int} : lnOk l = true ↔ 1 ≤ l ∧ l ≤ 8 := by simp [lnOk]
theorem lnOk_cases {l : Int} (h : lnOk l = true) : l = 1 ∨ l = 2 ∨ l = 3 ∨ l = 4 ∨ l = 5 ∨ l = 6 ∨ l = 7 ∨ l = 8 := by
  rw [lnOk_iff] at h; omega

set_option maxHeartbeats 400000 in
theorem linesOk_any (l : Int) (w : World) : Calls Try.prog 20 #[.int .i64 l] w fun e w' => e = .returned (.bool (lnOk l)) ∧ w = w' := by
  go_enter Try.func20, Try.ntmps20
  go_wp2_with (go_at_call 21; refine (within_any _ _ _ _).mono ?_; rintro e w' ⟨rfl, rfl⟩)
  go_ret
  exact ⟨rfl, rfl⟩
theorem linesOk_b (b : Bool) (l : Int) (hb : lnOk l = b) (w : World) : Calls Try.prog 20 #[.int .i64 l] w fun e w' => e = .returned (.bool b) ∧ w = w' := by
  subst hb; exact linesOk_any l w
set_option maxHeartbeats 400000 in
theorem sWordValid_any (l x : Int) (w : World) : Calls Try.prog 16 #[.int .i64 l, .int .i64 x] w fun e w' => e = .returned (.bool (wv l x)) ∧ w = w' := by
  cases hl : lnOk l
  · have e1 := Lib.hid (show wv l x = false by simp [wv, hl])
    have hl' : (decide (1 ≤ l) && decide (l ≤ 8)) = false := hl
    go_enter Try.func16, Try.ntmps16
    go_wp2_with (go_at_call 15; refine (l1In_b false _ _ _ hl' _).mono ?_; rintro e w' ⟨rfl, rfl⟩)
    go_ret
    exact ⟨by rw [e1.out]; rfl, rfl⟩
  · rcases lnOk_cases hl with rfl | rfl | rfl | rfl | rfl | rfl | rfl | rfl
    all_goals
      clear hl
      go_enter Try.func16, Try.ntmps16
      go_wp2_with fail
      refine (l1In_b true _ _ _ (by decide) _).mono ?_
      rintro e w' ⟨rfl, rfl⟩
      go_wp2_with (go_at_call 15; refine (l1In_any _ _ _ _).mono ?_; rintro e w' ⟨rfl, rfl⟩)
      go_ret
      exact ⟨by simp [wv, lnOk, pw]; rfl, rfl⟩
theorem sWordValid_b (b : Bool) (l x : Int) (hb : wv l x = b) (w : World) : Calls Try.prog 16 #[.int .i64 l, .int .i64 x] w fun e w' => e = .returned (.bool b) ∧ w = w' := by
  subst hb; exact sWordValid_any l x w
end Go.Proofs.Ytlaidoomjnhlaaa
