/-
  Boxes of fields.
  No condition.
-/
import Derived.Test.YtmakpjcjccgalaaFieldFns
namespace Go.Proofs.Ytmakpjcjccgalaa
open Go.RowKit Go.Sort base
/-- a box of a field -/
def BoxF (wr : World) (t : TypeId) (b : Nat) (v0 v1 v2 : Value) : Prop := wr.heap[b]? = some (.cells #[v0, v1, v2] t (0, 0))
section
variable {wr wy : World} {t : TypeId} {b : Nat} {v0 v1 v2 : Value}
theorem BoxF.lt (h : BoxF wr t b v0 v1 v2) : b < wr.heap.size := (Array.getElem?_eq_some_iff.1 h).1
theorem BoxF.below (h : BoxF wr t b v0 v1 v2) (hb : Below wr.heap.size wr wy) : BoxF wy t b v0 v1 v2 := (hb.block b h.lt).trans h
theorem BoxF.grown {row : Option Nat} (h : BoxF wr t b v0 v1 v2) (hg : wr.grownBy wy row) (hne : some b ≠ row) : BoxF wy t b v0 v1 v2 := (hg.block b h.lt hne).trans h
theorem BoxF.cells (h : BoxF wr t b v0 v1 v2) : wr.cell? ⟨b, 0, none⟩ = some v0 ∧ wr.cell? ⟨b, 1, none⟩ = some v1 ∧ wr.cell? ⟨b, 2, none⟩ = some v2 :=
  ⟨by rw [cell_of_row wr b 0 _ _ (0, 0) h]; rfl, by rw [cell_of_row wr b 1 _ _ (0, 0) h]; rfl, by rw [cell_of_row wr b 2 _ _ (0, 0) h]; rfl⟩
theorem OwnB.ne_boxv {base : Nat} {v : Value} {zs : List Bool} (h : OwnB wr base v zs) (hb : BoxF wr t b v0 v1 v2) (ht : (t == 4) = false) : some b ≠ v.ownBlock := by
  intro e
  rcases h.2 with ⟨rfl, _⟩ | ⟨g, cap, cur, rfl, _, hg, _⟩
  · cases e
  · simp [Value.ownBlock] at e
    subst e
    unfold BoxF at hb
    rw [hg] at hb
    simp at hb
    rw [← hb.2] at ht
    simp at ht
end
end Go.Proofs.Ytmakpjcjccgalaa
