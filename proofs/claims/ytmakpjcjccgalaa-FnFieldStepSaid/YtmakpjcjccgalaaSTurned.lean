/-
  The squares of the reference: l6Square and l6Turned.
  No condition.
-/
import Derived.Test.YtmakpjcjccgalaaFBack
namespace Go.Proofs.Ytmakpjcjccgalaa
open Go.RowKit Go.Sort base
set_option maxHeartbeats 4000000 in
theorem l6Square_any (s x y : Nat) (w : World) (hs : s = 2 ∨ s = 4 ∨ s = 6 ∨ s = 8) (hx : x < s) (hy : y < s) :
    Calls Try.prog 50 #[.int .i64 s, .int .i64 x, .int .i64 y] w fun e w' => e = .returned (.slice (some ⟨w.heap.size, 0, none⟩) 4 4) ∧ w' = w.alloc (.cells #[.int .i64 (cellN s x y : Nat), .int .i64 (cellN s (x + 1) y : Nat), .int .i64 (cellN s x (y + 1) : Nat), .int .i64 (cellN s (x + 1) (y + 1) : Nat)] 3) := by
  have HC : Hid (((y : Int) * s + x = (cellN s x y : Nat) ∧ (y : Int) * s + (((x : Int) + 1) % s) = (cellN s (x + 1) y : Nat)) ∧ ((((y : Int) + 1) % s) * s + x = (cellN s x (y + 1) : Nat) ∧ (((y : Int) + 1) % s) * s + (((x : Int) + 1) % s) = (cellN s (x + 1) (y + 1) : Nat))) := by
    unfold cellN
    rcases hs with rfl | rfl | rfl | rfl <;> refine ⟨⟨?_, ?_⟩, ?_, ?_⟩ <;> omega
  generalize cellN s x y = c0 at *
  generalize cellN s (x + 1) y = c1 at *
  generalize cellN s x (y + 1) = c2 at *
  generalize cellN s (x + 1) (y + 1) = c3 at *
  rcases hs with rfl | rfl | rfl | rfl
  all_goals
    go_enter Try.func50, Try.ntmps50
    go_wp2_with fail
    go_ret
    obtain ⟨⟨h0, h1⟩, h2, h3⟩ := HC.out
    rw [← h0, ← h1, ← h2, ← h3]
    exact ⟨rfl, rfl⟩
def four (a b c d : Bool) : Nat → Bool
  | 0 => a
  | 1 => b
  | 2 => c
  | _ => d
def cnt4 (a b c d : Bool) : Nat → Nat
  | 0 => 0
  | j + 1 => cnt4 a b c d j + bn (four a b c d j)
theorem tq_1 : ∀ a b c d, 1 = bn a + bn b + bn c + bn d → [tq a b c d, tq b a d c, tq c d a b, tq d c b a] = [d, c, b, a] := by decide
theorem tq_2 : ∀ a b c d, 2 = bn a + bn b + bn c + bn d → (a == d) = true → [tq a b c d, tq b a d c, tq c d a b, tq d c b a] = [b, a, d, c] := by decide
theorem tq_3 : ∀ a b c d, ¬ 1 = bn a + bn b + bn c + bn d → ¬ (2 = bn a + bn b + bn c + bn d ∧ (a == d) = true) → [tq a b c d, tq b a d c, tq c d a b, tq d c b a] = [a, b, c, d] := by decide
theorem br4 (w : World) (a b c d : Bool) (q : Nat) (t : TypeId) : BR ((w.drewN q).alloc (.cells #[.bool a, .bool b, .bool c, .bool d] t)) (some ⟨w.heap.size, 0, none⟩) 4 [a, b, c, d] ∧ Below w.heap.size w ((w.drewN q).alloc (.cells #[.bool a, .bool b, .bool c, .bool d] t)) := by
  refine ⟨⟨rfl, by omega, fun _ => ⟨_, 0, rfl, by simp, fun i hi => ?_⟩⟩, (below_drewN (Below.refl _ w) q).alloc (Nat.le_refl _) _⟩
  rcases (show i = 0 ∨ i = 1 ∨ i = 2 ∨ i = 3 by omega) with rfl | rfl | rfl | rfl <;> exact cell_at rfl rfl
set_option maxRecDepth 100000 in
set_option maxHeartbeats 4000000 in
theorem l6Turned_any (a b c d : Bool) (g o : Nat) (w : World) (hg : g < w.heap.size) (h0 : w.cell? ⟨g, o, none⟩ = some (.bool a)) (h1 : w.cell? ⟨g, o + 1, none⟩ = some (.bool b)) (h2 : w.cell? ⟨g, o + 2, none⟩ = some (.bool c)) (h3 : w.cell? ⟨g, o + 3, none⟩ = some (.bool d)) :
    Calls Try.prog 51 #[.slice (some ⟨g, o, none⟩) 4 4] w fun e w' => ∃ A k, e = .returned (.slice A 4 k) ∧ (BR w' A 4 [tq a b c d, tq b a d c, tq c d a b, tq d c b a] ∧ Below w.heap.size w w') ∧ ∀ b o, A = some ⟨b, o, none⟩ → g ≤ b := by
  have H : Hid (∀ i, i < 4 → w.cell? ⟨g, o + i, none⟩ = some (.bool (four a b c d i))) := fun i hi => by
    rcases (show i = 0 ∨ i = 1 ∨ i = 2 ∨ i = 3 by omega) with rfl | rfl | rfl | rfl <;> assumption
  go_enter Try.func51, Try.ntmps51
  go_wp2_with fail
  go_loop [3, 4] (fun nv iv => ∃ (j m : Nat), j ≤ 4 ∧ iv = .int .i64 j ∧ nv = .int .i64 m ∧ m ≤ j ∧ Hid (m = cnt4 a b c d j)) (fun _ iv => 4 - (intOf iv).toNat)
  case atStart => exact ⟨0, 0, by omega, rfl, rfl, by omega, Lib.hid rfl⟩
  case round =>
    obtain ⟨j, m, hj, rfl, rfl, hmj, HM⟩ := hrel
    by_cases hlt : j < 4
    · have hc := H.out j hlt
      have HS := Lib.hid (show cnt4 a b c d (j + 1) = cnt4 a b c d j + bn (four a b c d j) from rfl)
      clear h0 h1 h2 h3
      cases hv : four a b c d j
      all_goals
        rw [hv] at hc HS
        clear hv
        go_wp2_with fail
        go_round
        case rel => first | exact ⟨j + 1, m, by omega, by go_num, rfl, by omega, Lib.hid (by rw [HS.out, HM.out]; rfl)⟩ | exact ⟨j + 1, m + 1, by omega, by go_num, by go_num, by omega, Lib.hid (by rw [HS.out, HM.out]; rfl)⟩
        case measure => simp [intOf]; omega
    · obtain rfl : j = 4 := by omega
      clear H
      have HT : Hid (m = bn a + bn b + bn c + bn d) := Lib.hid (by rw [HM.out]; simp [cnt4, four])
      have e1 : w.cell? ⟨g, o + 3, none⟩ = some (.bool d) := h3
      by_cases hm1 : m = 1
      · subst hm1
        have HR := Lib.hid (tq_1 a b c d HT.out)
        go_wp2_with fail
        refine wp_region_drew_tail 12 (by kernel_rfl) (by kernel_rfl) ?_
        simp only [List.take_succ_cons, List.take_zero, List.drop_succ_cons, List.drop_zero]
        repeat (go_big_quiet_step ((fail)))
        refine wpQuiet_nil ?_
        intro wd hwd
        obtain ⟨q, hq⟩ := hwd
        subst hq
        go_wp2_with fail
        go_ret
        exact ⟨_, _, rfl, by rw [HR.out]; exact br4 w _ _ _ _ _ _, fun b' o' e' => by simp at e'; omega⟩
      · have hb4 : Hid (BR w (some ⟨g, o, none⟩) 4 [a, b, c, d]) := hide ⟨rfl, by omega, fun _ => ⟨g, o, rfl, hg, fun i hi => by
          rcases (show i = 0 ∨ i = 1 ∨ i = 2 ∨ i = 3 by omega) with rfl | rfl | rfl | rfl <;> assumption⟩⟩
        have e0 : ((m : Int) == 1) = false := by simp; omega
        by_cases hm2 : m = 2
        · subst hm2
          cases he : (a == d)
          · have HR := Lib.hid (tq_3 a b c d (by rw [← HT.out]; omega) (by rw [he]; simp))
            go_wp2_with fail
            go_quiet (fail)
            go_wp2_with fail
            go_ret
            exact ⟨_, _, rfl, ⟨by rw [HR.out]; exact hb4.out.below (below_drewN (Below.refl _ w) _), below_drewN (Below.refl _ w) _⟩, fun b' o' e' => by simp at e'; omega⟩
          · have HR := Lib.hid (tq_2 a b c d HT.out he)
            go_wp2_with fail
            go_quiet (fail)
            go_wp2_with fail
            refine wp_region_drew_tail 12 (by kernel_rfl) (by kernel_rfl) ?_
            simp only [List.take_succ_cons, List.take_zero, List.drop_succ_cons, List.drop_zero]
            repeat (go_big_quiet_step ((fail)))
            refine wpQuiet_nil ?_
            intro wd hwd
            obtain ⟨q, hq⟩ := hwd
            subst hq
            go_wp2_with fail
            go_ret
            exact ⟨_, _, rfl, by rw [HR.out]; exact br4 w _ _ _ _ _ _, fun b' o' e' => by simp at e'; omega⟩
        · have HR := Lib.hid (tq_3 a b c d (by rw [← HT.out]; omega) (by rw [← HT.out]; omega))
          have e2 : ((m : Int) == 2) = false := by simp; omega
          go_wp2_with fail
          go_quiet (fail)
          go_wp2_with fail
          go_ret
          exact ⟨_, _, rfl, ⟨by rw [HR.out]; exact hb4.out.below (below_drewN (Below.refl _ w) _), below_drewN (Below.refl _ w) _⟩, fun b' o' e' => by simp at e'; omega⟩
end Go.Proofs.Ytmakpjcjccgalaa
