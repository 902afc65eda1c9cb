/-
  Marks laid over a slice of gates.
  No condition.
-/
import Derived.Test.YtefndlmbidiodaaCircLaw
namespace Go.Proofs.Ytefndlmbidiodaa
open Go.RowKit Go.Sort base
theorem setCell_grown (w : World) (g i : Nat) (v : Value) : w.grownBy (w.setCell ⟨g, i, none⟩ v) (some g) :=
  ⟨rfl, rfl, rfl, by simp [World.setCell], fun k _ hne => heap_setCell_other _ ⟨g, i, none⟩ k _ (fun e => hne (by simp [e]))⟩
set_option maxHeartbeats 4000000 in
theorem markGateS_any (g n c : Nat) (gs : List G4) (k : Int) (w : World) (h : Laid w g n gs n) (hn : n ≤ 1048576) (hk : 0 ≤ k ∧ k ≤ 1000000) :
    Calls Try.prog 27 #[.slice (some ⟨g, 0, none⟩) n c, .int .i64 k] w fun e w' => e = .returned (.int .i64 (k + 4 * n)) ∧ w.grownBy w' (some g) := by
  obtain ⟨hk1, hk2⟩ := hk
  have HL0 : Hid (Laid w g n [] 0) := ⟨h.1, fun i hi => absurd hi (by omega)⟩
  clear h
  go_enter Try.func27, Try.ntmps27
  go_wp2_with fail
  go_loopw [1, 5] (fun a i wr => ∃ j : Nat, j ≤ n ∧ i = .int .i64 j ∧ a = .int .i64 (k + 4 * j) ∧ Hid (Laid wr g n [] 0) ∧ Hid (w.grownBy wr (some g))) (fun _ i _ => n - (intOf i).toNat)
  case atStart => exact ⟨0, by omega, rfl, by simp, HL0.out, World.grownBy.refl _ _⟩
  case round =>
    obtain ⟨j, hj, rfl, rfl, HL, HG⟩ := hrel
    by_cases hlt : j < n
    · obtain ⟨⟨cur, hc, hs⟩, _⟩ := HL.out
      have HC := Lib.hid hc
      have HS := Lib.hid hs
      obtain ⟨x0, c0⟩ := laid_cell hc (i := j * 4) (by omega)
      obtain ⟨x1, c1⟩ := laid_cell hc (i := j * 4 + 1) (by omega)
      obtain ⟨x2, c2⟩ := laid_cell hc (i := j * 4 + 2) (by omega)
      obtain ⟨x3, c3⟩ := laid_cell hc (i := j * 4 + 3) (by omega)
      have f0 := fun i => HL.out.frozen i
      clear hc hs
      go_wp2_with fail
      go_roundw
      case rel =>
        refine ⟨j + 1, by omega, by go_num, by go_num, ⟨⟨_, laid_set (laid_set (laid_set (laid_set HC.out _ _) _ _) _ _) _ _, by have := HS.out; simpa using this⟩, fun i hi => absurd hi (by omega)⟩, ?_⟩
        exact grown_seq (grown_seq (grown_seq (grown_seq HG.out (setCell_grown _ _ _ _)) (setCell_grown _ _ _ _)) (setCell_grown _ _ _ _)) (setCell_grown _ _ _ _)
      case measure => simp [intOf]; omega
    · obtain rfl : j = n := by omega
      go_wp2_with fail
      go_ret
      exact ⟨rfl, HG.out⟩
end Go.Proofs.Ytefndlmbidiodaa
