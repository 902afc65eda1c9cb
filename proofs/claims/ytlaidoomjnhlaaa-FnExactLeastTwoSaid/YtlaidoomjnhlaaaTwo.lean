/-
  The five gates of two lines, by the reference.
  No condition.
-/
import Derived.Test.YtlaidoomjnhlaaaRank
import Derived.Test.YtlaidoomjnhlaaaCirc
namespace Go.Proofs.Ytlaidoomjnhlaaa
open Go.RowKit Go.Sort base
def gates5 : List G4 := [(0, 0, 0, 0), (0, 1, 0, 0), (1, 0, 1, 0), (1, 1, 0, 0), (3, 0, 1, 0)]
theorem gates5_of (j : Nat) : gth gates5 j = ((tgate j).1, ((tgate j).2.1 : Int), ((tgate j).2.2.1 : Int), ((tgate j).2.2.2 : Int)) ∨ 5 ≤ j := by
  rcases (show j = 0 ∨ j = 1 ∨ j = 2 ∨ j = 3 ∨ j = 4 ∨ 5 ≤ j by omega) with rfl | rfl | rfl | rfl | rfl | h
  · exact .inl rfl
  · exact .inl rfl
  · exact .inl rfl
  · exact .inl rfl
  · exact .inl rfl
  · exact .inr h
set_option maxHeartbeats 1000000 in
theorem two_any (w : World) : Calls Try.prog 10 #[] w fun e w' => (∃ g c, e = .returned (.slice (some ⟨g, 0, none⟩) 5 c) ∧ GR w' (some ⟨g, 0, none⟩) 5 gates5 ∧ w.heap.size ≤ g) ∧ Below w.heap.size w w' := by
  go_enter Try.func10, Try.ntmps10
  go_wp2_with fail
  go_ret
  refine ⟨⟨w.heap.size, 5, rfl, ⟨rfl, by decide, fun _ => ⟨w.heap.size, 0, rfl, by simp, fun i hi => ?_⟩⟩, Nat.le_refl _⟩, (Below.refl _ w).alloc (Nat.le_refl _) _⟩
  rcases (show i = 0 ∨ i = 1 ∨ i = 2 ∨ i = 3 ∨ i = 4 by omega) with rfl | rfl | rfl | rfl | rfl
  · exact ⟨cell_at rfl rfl, cell_at rfl rfl, cell_at rfl rfl, cell_at rfl rfl⟩
  · exact ⟨cell_at rfl rfl, cell_at rfl rfl, cell_at rfl rfl, cell_at rfl rfl⟩
  · exact ⟨cell_at rfl rfl, cell_at rfl rfl, cell_at rfl rfl, cell_at rfl rfl⟩
  · exact ⟨cell_at rfl rfl, cell_at rfl rfl, cell_at rfl rfl, cell_at rfl rfl⟩
  · exact ⟨cell_at rfl rfl, cell_at rfl rfl, cell_at rfl rfl, cell_at rfl rfl⟩
end Go.Proofs.Ytlaidoomjnhlaaa
