/-
  An argument that is a slice of structs of four numbers: it reads as a list of gates.
  No condition.
-/
import Derived.Test.YtacdagdhkmcbiaaLineS
import Derived.Deep.Slices
import Derived.Deep.Fields
import Derived.ChangeSame
import Derived.ProofKit
import Derived.OpenShut
namespace Go.Proofs.Ytacdagdhkmcbiaa
open Go.ChangeShapes Go.WideShapes Go.Deep Go.RowKit
section
variable {H : Type} {enc : TypeId × Value → H} {P : Program} {w : World} {base : Nat} {spare : Nat → Bool} {held : Bool}
def numAt (o : Option Value) : Int := match o with
  | some (.int _ z) => z
  | _ => 0
theorem open_gates {t e : TypeId} {f0 f1 f2 f3 : Field} {fuel : Nat} {cs : List Value} {x : DataW H × List MemPlace} (ht : P.underlying t = some (.slice e)) (he : P.underlying e = some (.struct #[f0, f1, f2, f3]))
    (hone : oneCellFields P #[f0, f1, f2, f3] = true) (hC : P.cellsOf e = 4)
    (k0 : P.underlying f0.type = some (.int .i64)) (k1 : P.underlying f1.type = some (.int .i64)) (k2 : P.underlying f2.type = some (.int .i64)) (k3 : P.underlying f3.type = some (.int .i64))
    (h : DataW.trod enc P w base spare held fuel t cs = some x) :
    cs = [.slice none 0 0] ∨ ∃ (a : Addr) (len cap : Nat) (gs : List G4), cs = [.slice (some a) len cap] ∧ len ≤ cap ∧ cap ≤ maxLen ∧ gs.length = len ∧
      ∀ i, i < len → w.cell? (a.add (i * 4)) = some (.int .i64 (gth gs i).1) ∧ w.cell? (a.add (i * 4 + 1)) = some (.int .i64 (gth gs i).2.1) ∧ w.cell? (a.add (i * 4 + 2)) = some (.int .i64 (gth gs i).2.2.1) ∧ w.cell? (a.add (i * 4 + 3)) = some (.int .i64 (gth gs i).2.2.2) := by
  rcases open_slice ht h with ⟨h0, _⟩ | ⟨a, len, cap, m, n, D, Pl, hcs, _, hl, hm, hmm, _, hi⟩
  · exact .inl h0
  · right
    have hlm : len ≤ m := by rw [hmm]; split <;> omega
    have key : ∀ i, i < len → ∀ j, j < 4 → ∃ z : Int, w.cell? (a.add (i * 4 + j)) = some (.int .i64 z) := by
      intro i hil j hj
      obtain ⟨cs', hc, ht'⟩ := hi i (by omega)
      rw [hC] at hc
      obtain ⟨ys, n', _, _, hlen, hyl, hf⟩ := DataW.trod_struct he ht'
      obtain ⟨_, hcl, hat⟩ := World.cells?_some hc
      obtain ⟨f, hfj, hk⟩ : ∃ f, (#[f0, f1, f2, f3] : Array Field)[j]? = some f ∧ P.underlying f.type = some (.int .i64) := by
        rcases (show j = 0 ∨ j = 1 ∨ j = 2 ∨ j = 3 by omega) with rfl | rfl | rfl | rfl
        · exact ⟨f0, rfl, k0⟩
        · exact ⟨f1, rfl, k1⟩
        · exact ⟨f2, rfl, k2⟩
        · exact ⟨f3, rfl, k3⟩
      obtain ⟨ho, hk1⟩ := hone_of hone j f hfj
      have h1 := hf j f hfj
      have hone' : (cs'.drop j).take 1 = [cs'[j]'(by omega)] := by
        rw [List.drop_eq_getElem_cons (by omega)]
        rfl
      rw [ho, hk1, hone'] at h1
      have hys : ys[j]? = some (ys[j]'(by rw [hyl]; exact hj)) := List.getElem?_eq_getElem _
      obtain ⟨z, hz, _⟩ := DataW.trod_int hk (h1.trans hys)
      have hz' : cs'[j]'(by omega) = .int .i64 z := by simpa using hz
      refine ⟨z, ?_⟩
      rw [← add_add, hat j hj, List.getElem?_eq_getElem (by omega), hz']
    have each : ∀ i, i < len → ∀ j, j < 4 → w.cell? (a.add (i * 4 + j)) = some (.int .i64 (numAt (w.cell? (a.add (i * 4 + j))))) := by
      intro i hil j hj
      obtain ⟨z, hz⟩ := key i hil j hj
      rw [hz]
      rfl
    refine ⟨a, len, cap, (List.range len).map fun i => (numAt (w.cell? (a.add (i * 4 + 0))), numAt (w.cell? (a.add (i * 4 + 1))), numAt (w.cell? (a.add (i * 4 + 2))), numAt (w.cell? (a.add (i * 4 + 3)))), hcs, hl, hm, by simp, fun i hil => ?_⟩
    have hg : gth ((List.range len).map fun i => (numAt (w.cell? (a.add (i * 4 + 0))), numAt (w.cell? (a.add (i * 4 + 1))), numAt (w.cell? (a.add (i * 4 + 2))), numAt (w.cell? (a.add (i * 4 + 3))))) i = (numAt (w.cell? (a.add (i * 4 + 0))), numAt (w.cell? (a.add (i * 4 + 1))), numAt (w.cell? (a.add (i * 4 + 2))), numAt (w.cell? (a.add (i * 4 + 3)))) := by simp [gth, hil]
    rw [hg]
    exact ⟨each i hil 0 (by omega), each i hil 1 (by omega), each i hil 2 (by omega), each i hil 3 (by omega)⟩
end
theorem GR.of_open {w : World} {a : Addr} {len cap : Nat} {gs : List G4} (hl : len ≤ cap) (hm : cap ≤ maxLen) (hz : gs.length = len)
    (hc : ∀ i, i < len → w.cell? (a.add (i * 4)) = some (.int .i64 (gth gs i).1) ∧ w.cell? (a.add (i * 4 + 1)) = some (.int .i64 (gth gs i).2.1) ∧ w.cell? (a.add (i * 4 + 2)) = some (.int .i64 (gth gs i).2.2.1) ∧ w.cell? (a.add (i * 4 + 3)) = some (.int .i64 (gth gs i).2.2.2)) : GR w (some a) len gs := by
  refine ⟨hz, by unfold maxLen at hm; omega, fun hn => ?_⟩
  obtain ⟨b, off, spot⟩ := a
  have h0 := (hc 0 hn).1
  have hspot : spot = none := by simpa [Addr.add] using World.cell?_spot h0
  subst hspot
  refine ⟨b, off, rfl, ?_, fun i hi => ?_⟩
  · have := World.block_lt_of_cell? w _ h0
    simpa [Addr.add] using this
  · obtain ⟨h0, h1, h2, h3⟩ := hc i hi
    rw [Addr.add_lit] at h0 h1 h2 h3
    exact ⟨h0, h1, h2, h3⟩
end Go.Proofs.Ytacdagdhkmcbiaa
