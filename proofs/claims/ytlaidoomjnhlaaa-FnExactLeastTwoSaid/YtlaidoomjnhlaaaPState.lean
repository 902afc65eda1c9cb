/-
  The state of the program's search.
  No condition.
-/
import Derived.Test.YtlaidoomjnhlaaaQue
namespace Go.Proofs.Ytlaidoomjnhlaaa
open Go.RowKit Go.Sort base
/-- an array of four numbers in a block -/
def Arr4 (w : World) (b : Nat) (t : T4) : Prop := ∀ j, j < 4 → w.cell? ⟨b, j, none⟩ = some (.int .i64 (at4 t j : Int))
theorem Arr4.lt {w : World} {b : Nat} {t : T4} (h : Arr4 w b t) : b < w.heap.size := World.block_lt_of_cell? w _ (h 0 (by omega))
theorem Arr4.grown {w w' : World} {b : Nat} {t : T4} {row : Option Nat} (h : Arr4 w b t) (hg : w.grownBy w' row) (hne : some b ≠ row) : Arr4 w' b t := fun j hj => (World.cell?_of_block (hg.block b h.lt hne)).trans (h j hj)
theorem Arr4.below {w w' : World} {b : Nat} {t : T4} (h : Arr4 w b t) (hb : Below w.heap.size w w') : Arr4 w' b t := h.grown (grown_of_below hb none) (by simp)
theorem Arr4.made (w : World) (t : T4) : Arr4 (w.alloc (.cells #[.int .i64 (at4 t 0 : Int), .int .i64 (at4 t 1 : Int), .int .i64 (at4 t 2 : Int), .int .i64 (at4 t 3 : Int)] 35)) w.heap.size t := fun j hj => by
  rcases (show j = 0 ∨ j = 1 ∨ j = 2 ∨ j = 3 by omega) with rfl | rfl | rfl | rfl <;> exact cell_at rfl rfl
theorem Arr4.cells {w : World} {b : Nat} {t : T4} (h : Arr4 w b t) : w.cell? ⟨b, 0, none⟩ = some (.int .i64 (at4 t 0 : Int)) ∧ w.cell? ⟨b, 1, none⟩ = some (.int .i64 (at4 t 1 : Int)) ∧ w.cell? ⟨b, 2, none⟩ = some (.int .i64 (at4 t 2 : Int)) ∧ w.cell? ⟨b, 3, none⟩ = some (.int .i64 (at4 t 3 : Int)) := ⟨h 0 (by omega), h 1 (by omega), h 2 (by omega), h 3 (by omega)⟩
structure PS (wM : World) (L1 k L2 : Nat) (v : Value) (wr : World) : Prop where
  b : Below wM.heap.size wM wr
  far : Far wr wM.heap.size L1 L1
  que : Que wr (wM.heap.size + 1) v k L2
section
variable {wM wr wr' : World} {L1 k L2 : Nat} {v v' : Value}
theorem PS.below (h : PS wM L1 k L2 v wr) (hb : Below wr.heap.size wr wr') : PS wM L1 k L2 v wr' :=
  ⟨bseq h.b hb, h.far.kept (grown_of_below hb none) (by simp), h.que.below hb⟩
theorem PS.upd (h : PS wM L1 k L2 v wr) (hf : Far wr' wM.heap.size (L1 + 1) (L1 + 1)) (hg : wr.grownBy wr' (some wM.heap.size)) : PS wM (L1 + 1) k L2 v wr' :=
  ⟨h.b.grown hg h.b.size (by simp), hf, h.que.kept hg (fun e => by have := (h.que.lt _ e).1; omega)⟩
theorem PS.app (h : PS wM L1 k L2 v wr) (hq : Que wr' (wM.heap.size + 1) v' k (L2 + 1)) (hg : wr.grownBy wr' v.ownBlock) : PS wM L1 k (L2 + 1) v' wr' :=
  ⟨h.b.grown hg h.b.size (fun x e => by have := (h.que.lt _ e).1; omega), h.far.kept hg (fun e => by have := (h.que.lt _ e.symm).1; omega), hq⟩
theorem PS.sz (h : PS wM L1 k L2 v wr) : wM.heap.size + 1 ≤ wr.heap.size := by have := h.far.lt; omega
end
/-- the array 'at', and where it lies -/
structure At (wM : World) (ab : Nat) (t : T4) (v : Value) (wr : World) : Prop where
  a : Arr4 wr ab t
  lo : wM.heap.size + 1 ≤ ab
  ne : v.ownBlock ≠ some ab
section
variable {wM wr wr' : World} {ab : Nat} {t : T4} {v v' : Value}
theorem At.below (h : At wM ab t v wr) (hb : Below wr.heap.size wr wr') : At wM ab t v wr' := ⟨h.a.below hb, h.lo, h.ne⟩
theorem At.upd (h : At wM ab t v wr) (hg : wr.grownBy wr' (some wM.heap.size)) : At wM ab t v wr' := ⟨h.a.grown hg (by have := h.lo; simp; omega), h.lo, h.ne⟩
theorem At.app (h : At wM ab t v wr) (hg : wr.grownBy wr' v.ownBlock) (hf : Fresh v v' wr.heap.size) : At wM ab t v' wr' := ⟨h.a.grown hg (fun e => h.ne e.symm), h.lo, fresh_ne hf h.a.lt h.ne⟩
end
/-- the numbers of 'next' when i of them are filled -/
def mx (j : Nat) (t : T4) (i m : Nat) : Nat := if m < i then one4 j (at4 t m) else at4 t m
def nextC (j : Nat) (t : T4) (i : Nat) : Array Value := #[.int .i64 (mx j t i 0 : Int), .int .i64 (mx j t i 1 : Int), .int .i64 (mx j t i 2 : Int), .int .i64 (mx j t i 3 : Int)]
theorem nextC_zero (j : Nat) (t : T4) : nextC j t 0 = #[.int .i64 (at4 t 0 : Int), .int .i64 (at4 t 1 : Int), .int .i64 (at4 t 2 : Int), .int .i64 (at4 t 3 : Int)] := rfl
theorem nextC_step (j : Nat) (t : T4) {i : Nat} (hi : i < 4) : (nextC j t i).setIfInBounds i (.int .i64 (one4 j (at4 t i) : Int)) = nextC j t (i + 1) := by
  rcases (show i = 0 ∨ i = 1 ∨ i = 2 ∨ i = 3 by omega) with rfl | rfl | rfl | rfl <;> rfl
theorem nextC_at (j : Nat) (t : T4) {i m : Nat} (hm : m < 4) : (nextC j t i)[m]? = some (.int .i64 (mx j t i m : Int)) := by
  rcases (show m = 0 ∨ m = 1 ∨ m = 2 ∨ m = 3 by omega) with rfl | rfl | rfl | rfl <;> rfl
theorem at4_act (j : Nat) (t : T4) {m : Nat} (hm : m < 4) : mx j t 4 m = at4 (act j t) m := by
  rcases (show m = 0 ∨ m = 1 ∨ m = 2 ∨ m = 3 by omega) with rfl | rfl | rfl | rfl <;> rfl
/-- the block of 'next' -/
def Nx (w : World) (nb j : Nat) (t : T4) (i : Nat) : Prop := w.heap[nb]? = some (.cells (nextC j t i) 35 (0, 0))
theorem Nx.done {w : World} {nb j : Nat} {t : T4} (h : Nx w nb j t 4) : Arr4 w nb (act j t) := fun m hm => by
  rw [cell_of_row w nb m _ _ _ h, nextC_at j t hm, at4_act j t hm]
theorem Nx.cell {w : World} {nb j : Nat} {t : T4} {i m : Nat} (h : Nx w nb j t i) (hm : m < 4) : w.cell? ⟨nb, m, none⟩ = some (.int .i64 (mx j t i m : Int)) := by
  rw [cell_of_row w nb m _ _ _ h, nextC_at j t hm]
theorem Nx.set {w : World} {nb j : Nat} {t : T4} {i : Nat} (h : Nx w nb j t i) (hi : i < 4) : Nx (w.setCell ⟨nb, i, none⟩ (.int .i64 (one4 j (at4 t i) : Int))) nb j t (i + 1) := by
  unfold Nx
  rw [← nextC_step j t hi]
  exact Go.heap_setCell_same w nb i _ _ _ h
theorem Nx.below {w w' : World} {nb j : Nat} {t : T4} {i : Nat} (h : Nx w nb j t i) (hb : Below w.heap.size w w') : Nx w' nb j t i := (hb.block nb (Array.getElem?_eq_some_iff.1 h).1).trans h
def gateFits (j : Nat) : Bool := kindQ (tgate j).1 && decide ((tgate j).2.1 ≤ 7) && decide ((tgate j).2.2.1 ≤ 7) && decide ((tgate j).2.2.2 ≤ 7)
theorem gate_fits : ∀ j, j < 5 → gateFits j = true := by decide +kernel
theorem prun_one {j x : Nat} (hj : j < 5) (hx : x < 4) (w : World) :
    Calls Try.prog 14 #[.agg #[.int .i64 (gth gates5 j).1, .int .i64 (gth gates5 j).2.1, .int .i64 (gth gates5 j).2.2.1, .int .i64 (gth gates5 j).2.2.2], .int .i64 (x : Int)] w fun e w' => e = .returned (.int .i64 (one4 j x : Int)) ∧ Below w.heap.size w w' := by
  rcases gates5_of j with e | e
  · rw [e]
    have h := gate_fits j hj
    simp only [gateFits, Bool.and_eq_true, decide_eq_true_eq] at h
    obtain ⟨⟨⟨h1, h2⟩, h3⟩, h4⟩ := h
    exact run_any (tgate j).1 (tgate j).2.1 (tgate j).2.2.1 (tgate j).2.2.2 x h1 h2 h3 h4 (by omega) w
  · omega
theorem gates_lit (w : World) (W : World) (hW : W = w.alloc (.cells #[.int .i64 0, .int .i64 0, .int .i64 0, .int .i64 0, .int .i64 0, .int .i64 1, .int .i64 0, .int .i64 0, .int .i64 1, .int .i64 0, .int .i64 1, .int .i64 0, .int .i64 1, .int .i64 1, .int .i64 0, .int .i64 0, .int .i64 3, .int .i64 0, .int .i64 1, .int .i64 0] 33)) : GR W (some ⟨w.heap.size, 0, none⟩) 5 gates5 := by
  subst hW
  refine ⟨rfl, by decide, fun _ => ⟨w.heap.size, 0, rfl, by simp, fun i hi => ?_⟩⟩
  rcases (show i = 0 ∨ i = 1 ∨ i = 2 ∨ i = 3 ∨ i = 4 by omega) with rfl | rfl | rfl | rfl | rfl
  · exact ⟨cell_at rfl rfl, cell_at rfl rfl, cell_at rfl rfl, cell_at rfl rfl⟩
  · exact ⟨cell_at rfl rfl, cell_at rfl rfl, cell_at rfl rfl, cell_at rfl rfl⟩
  · exact ⟨cell_at rfl rfl, cell_at rfl rfl, cell_at rfl rfl, cell_at rfl rfl⟩
  · exact ⟨cell_at rfl rfl, cell_at rfl rfl, cell_at rfl rfl, cell_at rfl rfl⟩
  · exact ⟨cell_at rfl rfl, cell_at rfl rfl, cell_at rfl rfl, cell_at rfl rfl⟩
theorem gr_at {w : World} {g j : Nat} (h : GR w (some ⟨g, 0, none⟩) 5 gates5) (hj : j < 5) : GAt w g (j * 4) (gth gates5 j) := by
  obtain ⟨b, o, e, _, hc⟩ := h.at_ (by omega)
  simp only [Option.some.injEq, Addr.mk.injEq, and_true] at e
  obtain ⟨rfl, rfl⟩ := e
  have := hc j hj
  rwa [Nat.zero_add] at this
end Go.Proofs.Ytlaidoomjnhlaaa
