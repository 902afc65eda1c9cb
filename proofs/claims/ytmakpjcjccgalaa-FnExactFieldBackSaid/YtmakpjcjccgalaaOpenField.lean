/-
  An argument that is a field: a number, a slice of truths, a truth.
  No condition.
-/
import Derived.Test.YtmakpjcjccgalaaField
import Derived.Deep.Grids
import Derived.Deep.Slices
import Derived.Deep.Fields
import Derived.ChangeSame
import Derived.ProofKit
import Derived.OpenShut
import Derived.Lib.SmallJoins
namespace Go.Proofs.Ytmakpjcjccgalaa
open Go.ChangeShapes Go.WideShapes Go.Deep Go.RowKit
theorem BR.of_open {w : World} {a : Addr} {len cap : Nat} {B : Nat → Bool} (hl : len ≤ cap) (hm : cap ≤ maxLen) (hc : ∀ i, i < cap → w.cell? (a.add i) = some (.bool (B i))) : BR w (some a) len ((List.range len).map B) := by
  refine ⟨by simp, by unfold maxLen at hm; omega, fun hn => ?_⟩
  obtain ⟨b, off, spot⟩ := a
  have h0 := hc 0 (by omega)
  have hspot : spot = none := by simpa [Addr.add] using World.cell?_spot h0
  subst hspot
  refine ⟨b, off, rfl, ?_, fun i hi => ?_⟩
  · have := World.block_lt_of_cell? w _ h0
    simpa [Addr.add] using this
  · have h1 := hc i (by omega)
    rw [Addr.add_lit] at h1
    rw [h1]
    simp [bth, hi]
theorem open_field {H : Type} {enc : TypeId × Value → H} {P : Program} {w : World} {base : Nat} {held : Bool} {t e : TypeId} {fuel : Nat} {v : Value} {x : DataW H × List MemPlace} (ht : P.underlying t = some (.slice e)) (he : P.underlying e = some .bool) (hc : P.cellsOf e = 1)
    (h : DataW.trod enc P w base (fun _ => true) held fuel t [v] = some x) : ∃ A len cap bs, v = .slice A len cap ∧ BR w A len bs ∧ len ≤ cap := by
  rcases open_bools ht he hc h with ⟨hcs, _⟩ | ⟨a, len, cap, B, hcs, _, hl, hm, _, hcell⟩
  · simp only [List.cons.injEq, and_true] at hcs
    exact ⟨none, 0, 0, [], hcs, ⟨rfl, by omega, fun h => absurd h (by omega)⟩, Nat.le_refl _⟩
  · simp only [List.cons.injEq, and_true] at hcs
    exact ⟨some a, len, cap, _, hcs, BR.of_open hl hm hcell, hl⟩
end Go.Proofs.Ytmakpjcjccgalaa
