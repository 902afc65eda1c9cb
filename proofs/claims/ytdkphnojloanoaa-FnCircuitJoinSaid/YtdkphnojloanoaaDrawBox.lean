/-
  Boxes beside a reader: what a pick leaves of them; a box written anew.
  No condition.
-/
import Derived.Test.YtdkphnojloanoaaBox
import Derived.Test.YtdkphnojloanoaaDrawKit
import Derived.Test.YtdkphnojloanoaaHas
namespace Go.Proofs.Ytdkphnojloanoaa
open Go.RowKit Go.Sort base
theorem post_named {P : Program} {f : Func} {Q : Ending → World → Prop} {x : Exit} {a : Act} {W : World} (h : ∀ wr, W = wr → bodyPost P f Q x a wr) : bodyPost P f Q x a W := h _ rfl
theorem box4_put {w : World} {g : Nat} {k0 a0 b0 c0 : Int} (h : Box4 w g k0 a0 b0 c0) (k a b c : Int) :
    Box4 ((((w.setCell ⟨g, 0, none⟩ (.int .i64 k)).setCell ⟨g, 1, none⟩ (.int .i64 a)).setCell ⟨g, 2, none⟩ (.int .i64 b)).setCell ⟨g, 3, none⟩ (.int .i64 c)) g k a b c := by
  obtain ⟨h0, h1, h2, h3⟩ := h
  refine ⟨?_, ?_, ?_, ?_⟩
  · rw [World.cell?_setCell_other _ _ _ _ (by simp), World.cell?_setCell_other _ _ _ _ (by simp), World.cell?_setCell_other _ _ _ _ (by simp)]
    exact World.cell?_setCell_same _ _ _ h0
  · rw [World.cell?_setCell_other _ _ _ _ (by simp), World.cell?_setCell_other _ _ _ _ (by simp)]
    exact World.cell?_setCell_same _ _ _ (by rw [World.cell?_setCell_other _ _ _ _ (by simp)]; exact h1)
  · rw [World.cell?_setCell_other _ _ _ _ (by simp)]
    exact World.cell?_setCell_same _ _ _ (by rw [World.cell?_setCell_other _ _ _ _ (by simp), World.cell?_setCell_other _ _ _ _ (by simp)]; exact h2)
  · exact World.cell?_setCell_same _ _ _ (by rw [World.cell?_setCell_other _ _ _ _ (by simp), World.cell?_setCell_other _ _ _ _ (by simp), World.cell?_setCell_other _ _ _ _ (by simp)]; exact h3)
def Free (w : World) (g : Nat) : Prop := ∀ i, w.frozen? ⟨g, i, none⟩ = false
theorem Free.made (w : World) (cs : Array Value) (t : TypeId) : Free (w.alloc (.cells cs t)) w.heap.size := fun i => frozen_of_row _ _ i cs t (heap_alloc_last _ _)
theorem Box4.grownBy {w w' : World} {g : Nat} {row : Option Nat} {k a b c : Int} (h : Box4 w g k a b c) (hg : w.grownBy w' row) (hne : some g ≠ row) : Box4 w' g k a b c :=
  h.keep fun i => hg.cell_far ⟨g, i, none⟩ h.lt hne
theorem Free.grownBy {w w' : World} {g : Nat} {row : Option Nat} (h : Free w g) (hl : g < w.heap.size) (hg : w.grownBy w' row) (hne : some g ≠ row) : Free w' g :=
  fun i => (hg.frozen_far ⟨g, i, none⟩ hl hne).trans (h i)
theorem Free.set {w : World} {g : Nat} (h : Free w g) (a : Addr) (v : Value) : Free (w.setCell a v) g := fun j => (World.frozen?_setCell _ _ _ _).trans (h j)
theorem put4_grown (w : World) (g : Nat) (v0 v1 v2 v3 : Value) : w.grownBy ((((w.setCell ⟨g, 0, none⟩ v0).setCell ⟨g, 1, none⟩ v1).setCell ⟨g, 2, none⟩ v2).setCell ⟨g, 3, none⟩ v3) (some g) :=
  ⟨rfl, rfl, rfl, by simp [World.setCell], fun k _ hne => by
    rw [heap_setCell_other _ ⟨g, 3, none⟩ k _ (fun e => hne (by simp [e])), heap_setCell_other _ ⟨g, 2, none⟩ k _ (fun e => hne (by simp [e])), heap_setCell_other _ ⟨g, 1, none⟩ k _ (fun e => hne (by simp [e])), heap_setCell_other _ ⟨g, 0, none⟩ k _ (fun e => hne (by simp [e]))]⟩
theorem set1_grown (w : World) (g i : Nat) (v : Value) : w.grownBy (w.setCell ⟨g, i, none⟩ v) (some g) :=
  ⟨rfl, rfl, rfl, by simp [World.setCell], fun k _ hne => heap_setCell_other _ ⟨g, i, none⟩ k _ (fun e => hne (by simp [e]))⟩
/-- the draw under way: the result's box lies first, the reader below it -/
structure GS0 (w : World) (R P : Nat) (wx : World) : Prop where
  lo : R < w.heap.size
  b : Box4 wx w.heap.size 0 0 0 0
  f : Free wx w.heap.size
  rd : RdB wx R P
  gr : w.grownBy wx (some R)
theorem GS0.size {w wx : World} {R P : Nat} (h : GS0 w R P wx) : w.heap.size + 1 ≤ wx.heap.size := h.b.lt
theorem GS0.step {w wx wy : World} {R P : Nat} {row : Option Nat} (h : GS0 w R P wx) (hg : wx.grownBy wy row) (hrow : ∀ x, row = some x → w.heap.size + 1 ≤ x) : GS0 w R P wy := by
  have hl := h.lo
  have hne : some w.heap.size ≠ row := fun e => by have := hrow _ e.symm; omega
  exact ⟨hl, h.b.grownBy hg hne, h.f.grownBy h.b.lt hg hne, h.rd.grown hg (fun k hk => by have := hrow k hk; omega), grown_own h.gr hg (fun x hx => by have := hrow x hx; omega)⟩
theorem GS0.pick {w wx wy : World} {R P Q : Nat} (h : GS0 w R P wx) (hr : RdB wy R Q) (hg : wx.grownBy wy (some R)) : GS0 w R Q wy := by
  have hl := h.lo
  exact ⟨hl, h.b.grownBy hg (by simp; omega), h.f.grownBy h.b.lt hg (by simp; omega), hr, grown_seq h.gr hg⟩
theorem GS0.alloc {w wx : World} {R P : Nat} (h : GS0 w R P wx) (o : Obj) : GS0 w R P (wx.alloc o) := h.step (World.grownBy_alloc _ _ none) (fun x hx => by cases hx)
theorem GS0.drew {w wx : World} {R P : Nat} (h : GS0 w R P wx) : GS0 w R P wx.drew := ⟨h.lo, h.b, h.f, h.rd.below (below_drewN (Below.refl _ wx) 1), ⟨h.gr.os, h.gr.tape, h.gr.output, h.gr.size, h.gr.block⟩⟩
theorem GS0.mono {w wx : World} {R P Q : Nat} (h : GS0 w R P wx) (hq : P ≤ Q) : GS0 w R Q wx := ⟨h.lo, h.b, h.f, h.rd.mono hq, h.gr⟩
/-- 's[k:]' -/
theorem run_from (b n c t : Nat) (ht : t ≤ n) (hn : n ≤ c) (wx : World) : (Instr.slice 44 (.slice (some ⟨b, 0, none⟩) n c) (some (.int .i64 (t : Int))) none none).run Try.prog wx = .ok (.slice (some ⟨b, if t = c then 0 else t, none⟩) (n - t) (c - t)) wx := by
  have h1 : (0 : Int) ≤ (t : Int) := by omega
  have h2 : (t : Int) ≤ (n : Int) := by omega
  by_cases h : t = c
  · subst h
    obtain rfl : n = t := by omega
    simp [Instr.slice, run_underlying Try.underlying44, Instr.sliceBounds, run_sliceBound _ _ _ _ h1 h2, go_sem]
    try omega
  · simp [Instr.slice, run_underlying Try.underlying44, Instr.sliceBounds, run_sliceBound _ _ _ _ h1 h2, go_sem, h]
    rw [if_pos ht, if_neg (fun e => h e.symm)]
end Go.Proofs.Ytdkphnojloanoaa
