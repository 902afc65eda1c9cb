/-
  Four numbers in a box of their own: a gate, or a statement.
  No condition.
-/
import Derived.Test.YtlaidoomjnhlaaaWord
namespace Go.Proofs.Ytlaidoomjnhlaaa
open Go.RowKit Go.Sort base
theorem calls_named {P : Program} {f : FuncId} {args : Array Value} {W : World} {Q : Ending → World → Prop} (h : ∀ wr, W = wr → Calls P f args wr Q) : Calls P f args W Q := h _ rfl
/-- the four fields of a gate in a box -/
def Box4 (w : World) (g : Nat) (k a b c : Int) : Prop :=
  w.cell? ⟨g, 0, none⟩ = some (.int .i64 k) ∧ w.cell? ⟨g, 1, none⟩ = some (.int .i64 a) ∧ w.cell? ⟨g, 2, none⟩ = some (.int .i64 b) ∧ w.cell? ⟨g, 3, none⟩ = some (.int .i64 c)
theorem Box4.made (w : World) (k a b c : Int) (t : TypeId) : Box4 (w.alloc (.cells #[.int .i64 k, .int .i64 a, .int .i64 b, .int .i64 c] t)) w.heap.size k a b c :=
  ⟨cell_at rfl rfl, cell_at rfl rfl, cell_at rfl rfl, cell_at rfl rfl⟩
theorem Box4.lt {w : World} {g : Nat} {k a b c : Int} (h : Box4 w g k a b c) : g < w.heap.size := World.block_lt_of_cell? w _ h.1
theorem Box4.keep {w w' : World} {g : Nat} {k a b c : Int} (h : Box4 w g k a b c) (hk : ∀ i, w'.cell? ⟨g, i, none⟩ = w.cell? ⟨g, i, none⟩) : Box4 w' g k a b c :=
  ⟨(hk _).trans h.1, (hk _).trans h.2.1, (hk _).trans h.2.2.1, (hk _).trans h.2.2.2⟩
theorem Box4.below {w w' : World} {g : Nat} {k a b c : Int} (h : Box4 w g k a b c) (hb : Below w.heap.size w w') : Box4 w' g k a b c :=
  h.keep fun i => hb.cell (p := ⟨g, i, none⟩) h.lt
theorem Box4.set {w : World} {g g' i : Nat} {v : Value} {k a b c : Int} (h : Box4 w g k a b c) (hne : g ≠ g') : Box4 (w.setCell ⟨g', i, none⟩ v) g k a b c :=
  h.keep fun j => World.cell?_setCell_other _ _ _ _ (by simp; try omega)
end Go.Proofs.Ytlaidoomjnhlaaa
