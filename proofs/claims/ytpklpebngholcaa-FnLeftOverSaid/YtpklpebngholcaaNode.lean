/-
  The node of a step: what it computes.
  No condition.
-/
import Derived.Test.YtpklpebngholcaaWord
namespace Go.Proofs.Ytpklpebngholcaa
open Go.RowKit Go.Sort base
set_option maxHeartbeats 1000000 in
theorem node_0 (x y : Int) (w : World) : Calls Try.prog 51 #[.agg #[.int .i64 0, .int .i64 x, .int .i64 y]] w fun e w' => e = .returned (.iface 76 (.agg #[.int .i64 x, .int .i64 y])) ∧ Below w.heap.size w w' := by
  go_enter Try.func51, Try.ntmps51
  go_wp2_with fail
  go_ret
  exact ⟨rfl, by go_grown⟩
set_option maxHeartbeats 1000000 in
theorem node_1 (x y : Int) (w : World) : Calls Try.prog 51 #[.agg #[.int .i64 1, .int .i64 x, .int .i64 y]] w fun e w' => e = .returned (.iface 78 (.agg #[.int .i64 x, .int .i64 y])) ∧ Below w.heap.size w w' := by
  go_enter Try.func51, Try.ntmps51
  go_wp2_with fail
  go_ret
  exact ⟨rfl, by go_grown⟩
set_option maxHeartbeats 1000000 in
theorem node_2 (x y : Int) (w : World) : Calls Try.prog 51 #[.agg #[.int .i64 2, .int .i64 x, .int .i64 y]] w fun e w' => e = .returned (.iface 77 (.agg #[.int .i64 x, .int .i64 y])) ∧ Below w.heap.size w w' := by
  go_enter Try.func51, Try.ntmps51
  go_wp2_with fail
  go_ret
  exact ⟨rfl, by go_grown⟩
set_option maxHeartbeats 1000000 in
theorem node_3 (x y : Int) (w : World) : Calls Try.prog 51 #[.agg #[.int .i64 3, .int .i64 x, .int .i64 y]] w fun e w' => e = .returned (.iface 80 (.agg #[.int .i64 x])) ∧ Below w.heap.size w w' := by
  go_enter Try.func51, Try.ntmps51
  go_wp2_with fail
  go_ret
  exact ⟨rfl, by go_grown⟩
set_option maxHeartbeats 1000000 in
theorem node_4 (x y : Int) (w : World) : Calls Try.prog 51 #[.agg #[.int .i64 4, .int .i64 x, .int .i64 y]] w fun e w' => e = .returned .nilIface ∧ Below w.heap.size w w' := by
  go_enter Try.func51, Try.ntmps51
  go_wp2_with fail
  go_ret
  exact ⟨rfl, by go_grown⟩
theorem andBit {x y : Int} (hx : x = 0 ∨ x = 1) (hy : y = 0 ∨ y = 1) : bits .and .i64 x y = x * y := by
  rcases hx with rfl | rfl <;> rcases hy with rfl | rfl <;> decide
theorem orBit {x y : Int} (hx : x = 0 ∨ x = 1) (hy : y = 0 ∨ y = 1) : bits .or .i64 x y = max x y := by
  rcases hx with rfl | rfl <;> rcases hy with rfl | rfl <;> decide
theorem xorBit {x y : Int} (hx : x = 0 ∨ x = 1) (hy : y = 0 ∨ y = 1) : bits .xor .i64 x y = (x + y) % 2 := by
  rcases hx with rfl | rfl <;> rcases hy with rfl | rfl <;> decide
theorem and_one (x : Int) (h : 0 ≤ x ∧ x < 9223372036854775808) : bits .and .i64 x 1 = x % 2 := by
  obtain ⟨a, rfl⟩ := Int.eq_ofNat_of_zero_le h.1
  have := i64_and_nat a 1 (by omega) (by omega)
  rw [show ((1 : Nat) : Int) = 1 by rfl] at this
  rw [this, Nat.and_one_is_mod]
  omega
set_option maxHeartbeats 1000000 in
theorem andBit_any (a b : Nat) (x y r : Int) (A : Option Addr) (n c : Nat) (bs : List Int) (w : World) (h : IR w A n bs) (ha : a < n) (hb : b < n) (hx : nth bs a = x) (hy : nth bs b = y) (hx1 : x = 0 ∨ x = 1) (hy1 : y = 0 ∨ y = 1) (hr : x * y = r) :
    Calls Try.prog 78 #[.agg #[.int .i64 a, .int .i64 b], .slice A n c] w fun e w' => e = .returned (.int .i64 r) ∧ Below w.heap.size w w' := by
  have hv := andBit hx1 hy1
  rw [hr] at hv
  obtain ⟨g, o, rfl, hbl, hcc⟩ := h.at_ (by omega)
  have hm := h.max
  have c1 := hcc a ha
  have c2 := hcc b hb
  rw [hx] at c1
  rw [hy] at c2
  have k1 := cell_regrown (cell_old (o := .cells #[.int .i64 (a : Nat), .int .i64 (b : Nat)] 76) c1)
  have k2 := cell_regrown (cell_old (o := .cells #[.int .i64 (a : Nat), .int .i64 (b : Nat)] 76) c2)
  clear hcc h hx hy hr
  go_enter Try.func78, Try.ntmps78
  go_wp2_with fail
  go_quiet (fail)
  go_wp2_with fail
  go_ret
  exact ⟨rfl, below_drewN (by go_grown) _⟩
set_option maxHeartbeats 1000000 in
theorem orBit_any (a b : Nat) (x y r : Int) (A : Option Addr) (n c : Nat) (bs : List Int) (w : World) (h : IR w A n bs) (ha : a < n) (hb : b < n) (hx : nth bs a = x) (hy : nth bs b = y) (hx1 : x = 0 ∨ x = 1) (hy1 : y = 0 ∨ y = 1) (hr : max x y = r) :
    Calls Try.prog 80 #[.agg #[.int .i64 a, .int .i64 b], .slice A n c] w fun e w' => e = .returned (.int .i64 r) ∧ Below w.heap.size w w' := by
  have hv := orBit hx1 hy1
  rw [hr] at hv
  obtain ⟨g, o, rfl, hbl, hcc⟩ := h.at_ (by omega)
  have hm := h.max
  have c1 := hcc a ha
  have c2 := hcc b hb
  rw [hx] at c1
  rw [hy] at c2
  have k1 := cell_regrown (cell_old (o := .cells #[.int .i64 (a : Nat), .int .i64 (b : Nat)] 78) c1)
  have k2 := cell_regrown (cell_old (o := .cells #[.int .i64 (a : Nat), .int .i64 (b : Nat)] 78) c2)
  clear hcc h hx hy hr
  go_enter Try.func80, Try.ntmps80
  go_wp2_with fail
  go_quiet (fail)
  go_wp2_with fail
  go_ret
  exact ⟨rfl, below_drewN (by go_grown) _⟩
set_option maxHeartbeats 1000000 in
theorem xorBit_any (a b : Nat) (x y r : Int) (A : Option Addr) (n c : Nat) (bs : List Int) (w : World) (h : IR w A n bs) (ha : a < n) (hb : b < n) (hx : nth bs a = x) (hy : nth bs b = y) (hx1 : x = 0 ∨ x = 1) (hy1 : y = 0 ∨ y = 1) (hr : (x + y) % 2 = r) :
    Calls Try.prog 79 #[.agg #[.int .i64 a, .int .i64 b], .slice A n c] w fun e w' => e = .returned (.int .i64 r) ∧ Below w.heap.size w w' := by
  have hv := xorBit hx1 hy1
  rw [hr] at hv
  obtain ⟨g, o, rfl, hbl, hcc⟩ := h.at_ (by omega)
  have hm := h.max
  have c1 := hcc a ha
  have c2 := hcc b hb
  rw [hx] at c1
  rw [hy] at c2
  have k1 := cell_regrown (cell_old (o := .cells #[.int .i64 (a : Nat), .int .i64 (b : Nat)] 77) c1)
  have k2 := cell_regrown (cell_old (o := .cells #[.int .i64 (a : Nat), .int .i64 (b : Nat)] 77) c2)
  clear hcc h hx hy hr
  go_enter Try.func79, Try.ntmps79
  go_wp2_with fail
  go_quiet (fail)
  go_wp2_with fail
  go_ret
  exact ⟨rfl, below_drewN (by go_grown) _⟩
set_option maxHeartbeats 1000000 in
theorem notBit_any (a : Nat) (x : Int) (A : Option Addr) (n c : Nat) (bs : List Int) (w : World) (h : IR w A n bs) (ha : a < n) (hx : nth bs a = x) (hx1 : 0 ≤ x ∧ x ≤ 1) :
    Calls Try.prog 81 #[.agg #[.int .i64 a], .slice A n c] w fun e w' => e = .returned (.int .i64 (1 - x)) ∧ Below w.heap.size w w' := by
  obtain ⟨g, o, rfl, hbl, hcc⟩ := h.at_ (by omega)
  have hm := h.max
  obtain ⟨hx2, hx3⟩ := hx1
  have c1 := hcc a ha
  rw [hx] at c1
  clear hcc h hx
  go_enter Try.func81, Try.ntmps81
  go_wp2_with fail
  go_ret
  exact ⟨rfl, by go_grown⟩
end Go.Proofs.Ytpklpebngholcaa
