/-
  Cells of a field: the number of a place; the opposite place.
  No condition.
-/
import Derived.Laws.ResultCell
import Derived.Laws.Rows
import Derived.Test.YtmakpjcjccgalaaField
namespace Go.Proofs.Ytmakpjcjccgalaa
open Go.RowKit Go.Sort base
theorem cellN_lt (s x y : Nat) (hs : 0 < s) : cellN s x y < s * s := by
  have h1 := Nat.mod_lt x hs
  have h2 := Nat.mod_lt y hs
  unfold cellN
  calc y % s * s + x % s < y % s * s + s := by omega
    _ = (y % s + 1) * s := by rw [Nat.add_mul, Nat.one_mul]
    _ ≤ s * s := Nat.mul_le_mul_right s (by omega)
set_option maxHeartbeats 4000000 in
theorem placeIn_any (s x y : Nat) (w : World) (hs : s = 2 ∨ s = 4 ∨ s = 6 ∨ s = 8) (hx : x ≤ 100) (hy : y ≤ 100) :
    Calls Try.prog 49 #[.agg #[.int .i64 x, .int .i64 y], .int .i64 s] w fun e w' => e = .returned (.int .i64 (cellN s x y : Nat)) ∧ ∃ q, w' = (w.alloc (.cells #[.int .i64 x, .int .i64 y] 47)).drewN q := by
  have hr : (y : Int) % s * s + (x : Int) % s = (cellN s x y : Nat) ∧ 0 ≤ (y : Int) % s * s ∧ (y : Int) % s * s ≤ 56 ∧ 0 ≤ (x : Int) % s ∧ (x : Int) % s ≤ 7 := by
    rcases hs with rfl | rfl | rfl | rfl <;> (unfold cellN; omega)
  obtain ⟨h1, h2, h3, h4, h5⟩ := hr
  have hw : wrap64 (wrap64 ((y : Int) % s * s) + (x : Int) % s) = (cellN s x y : Nat) := by
    rw [← h1]
    generalize (y : Int) % s * s = a at *
    generalize (x : Int) % s = b at *
    unfold wrap64
    omega
  have HW := Lib.hid hw
  have hs1 : 2 ≤ s ∧ s ≤ 8 := by omega
  have hs0 : ¬ (s : Int) = 0 := by omega
  clear hs hw h1 h2 h3 h4 h5
  go_enter Try.func49, Try.ntmps49
  go_wp2_with fail
  go_quiet (fail)
  go_wp2_with fail
  go_ret
  exact ⟨by rw [← HW.out]; rfl, _, rfl⟩
theorem resultsO : Try.f53.results = #[.cell 2 47] := by kernel_rfl
theorem infoP : (Try.prog.info? 47).map (·.size) = some 2 := by kernel_rfl
set_option maxHeartbeats 1000000 in
theorem opposite_any (x y a b : Int) (w : World) (hx : 0 ≤ x ∧ x ≤ 100) (hy : 0 ≤ y ∧ y ≤ 100) (ha : -1 ≤ a ∧ a ≤ 1) (hb : -1 ≤ b ∧ b ≤ 1) :
    Calls Try.prog 53 #[.agg #[.int .i64 x, .int .i64 y, .int .i64 a, .int .i64 b]] w fun e w' => e = .returned (.agg #[.int .i64 (x + a), .int .i64 (y + b)]) ∧ Below w.heap.size w w' := by
  obtain ⟨x0, x1⟩ := hx
  obtain ⟨y0, y1⟩ := hy
  obtain ⟨a0, a1⟩ := ha
  obtain ⟨b0, b1⟩ := hb
  go_enter Try.func53, Try.ntmps53
  go_wp2_with fail
  refine bodyPost_ret (results_cell_row resultsO _ _ (w.heap.size + 1) 47 #[.int .i64 (x + a), .int .i64 (y + b)] (0, 0) _ rfl ?_ Try.underlying47 rfl infoP) rfl ⟨rfl, by go_grown⟩
  have := heap_alloc_new (w.alloc (.cells #[.int .i64 x, .int .i64 y, .int .i64 a, .int .i64 b] 63)) (.cells #[.int .i64 (x + a), .int .i64 (y + b)] 47)
  rw [World.size_alloc] at this
  exact this
end Go.Proofs.Ytmakpjcjccgalaa
