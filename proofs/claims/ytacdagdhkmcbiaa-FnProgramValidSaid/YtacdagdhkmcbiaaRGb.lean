/-
  The reader under way in a draw.
  No condition.
-/
import Derived.Test.YtacdagdhkmcbiaaDrawKit
import Derived.Test.YtacdagdhkmcbiaaInv
namespace Go.Proofs.Ytacdagdhkmcbiaa
open Go.RowKit Go.Sort base
/-- the draw under way: the reader -/
structure RG (w : World) (R P : Nat) (wx : World) : Prop where
  lo : R < w.heap.size
  rd : RdB wx R P
  gr : w.grownBy wx (some R)
theorem RG.start {w : World} {R P : Nat} (h : RdB w R P) : RG w R P w := ⟨h.lt, h, World.grownBy.refl _ _⟩
theorem RG.step {w wx wy : World} {R P : Nat} {row : Option Nat} (h : RG w R P wx) (hg : wx.grownBy wy row) (hrow : ∀ x, row = some x → w.heap.size ≤ x) : RG w R P wy :=
  ⟨h.lo, h.rd.grown hg (fun k hk => by have := hrow k hk; have := h.lo; omega), grown_own h.gr hg hrow⟩
theorem RG.pick {w wx wy : World} {R P Q : Nat} (h : RG w R P wx) (hr : RdB wy R Q) (hg : wx.grownBy wy (some R)) : RG w R Q wy := ⟨h.lo, hr, grown_seq h.gr hg⟩
theorem RG.alloc {w wx : World} {R P : Nat} (h : RG w R P wx) (o : Obj) : RG w R P (wx.alloc o) := h.step (World.grownBy_alloc _ _ none) (fun x hx => by cases hx)
theorem RG.drew {w wx : World} {R P : Nat} (h : RG w R P wx) : RG w R P wx.drew := ⟨h.lo, h.rd.below (below_drewN (Below.refl _ wx) 1), ⟨h.gr.os, h.gr.tape, h.gr.output, h.gr.size, h.gr.block⟩⟩
theorem RG.mono {w wx : World} {R P Q : Nat} (h : RG w R P wx) (hq : P ≤ Q) : RG w R Q wx := ⟨h.lo, h.rd.mono hq, h.gr⟩
theorem RG.size {w wx : World} {R P : Nat} (h : RG w R P wx) : w.heap.size ≤ wx.heap.size := h.gr.size
end Go.Proofs.Ytacdagdhkmcbiaa
