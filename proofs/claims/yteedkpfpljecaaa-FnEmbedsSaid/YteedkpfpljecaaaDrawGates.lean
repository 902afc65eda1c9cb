/-
  The draws of the laws over gates: lines and a gate, two gates, a gate and a word.
  No condition.
-/
import Derived.Test.YteedkpfpljecaaaDrawGate
namespace Go.Proofs.Yteedkpfpljecaaa
open Go.RowKit Go.Sort base
theorem GS0.fin {w wx : World} {R P : Nat} (h : GS0 w R P wx) (k a b c : Int) :
    Box4 ((((wx.setCell ⟨w.heap.size, 0, none⟩ (.int .i64 k)).setCell ⟨w.heap.size, 1, none⟩ (.int .i64 a)).setCell ⟨w.heap.size, 2, none⟩ (.int .i64 b)).setCell ⟨w.heap.size, 3, none⟩ (.int .i64 c)) w.heap.size k a b c ∧
    RdB ((((wx.setCell ⟨w.heap.size, 0, none⟩ (.int .i64 k)).setCell ⟨w.heap.size, 1, none⟩ (.int .i64 a)).setCell ⟨w.heap.size, 2, none⟩ (.int .i64 b)).setCell ⟨w.heap.size, 3, none⟩ (.int .i64 c)) R P ∧
    w.grownBy ((((wx.setCell ⟨w.heap.size, 0, none⟩ (.int .i64 k)).setCell ⟨w.heap.size, 1, none⟩ (.int .i64 a)).setCell ⟨w.heap.size, 2, none⟩ (.int .i64 b)).setCell ⟨w.heap.size, 3, none⟩ (.int .i64 c)) (some R) := by
  have hg := put4_grown wx w.heap.size (.int .i64 k) (.int .i64 a) (.int .i64 b) (.int .i64 c)
  have hl := h.lo
  exact ⟨box4_put h.b k a b c, h.rd.grown hg (by simp; omega), grown_own h.gr hg (by simp)⟩
theorem box4_two {w : World} {g1 g2 : Nat} {k1 a1 b1 c1 : Int} (h : Box4 w g1 k1 a1 b1 c1) (hne : g1 ≠ g2) (k a b c : Int) :
    Box4 ((((w.setCell ⟨g2, 0, none⟩ (.int .i64 k)).setCell ⟨g2, 1, none⟩ (.int .i64 a)).setCell ⟨g2, 2, none⟩ (.int .i64 b)).setCell ⟨g2, 3, none⟩ (.int .i64 c)) g1 k1 a1 b1 c1 := (((h.set hne).set hne).set hne).set hne
/- a number of lines and a gate -/
def DrawnLG (w : World) (R P : Nat) (e : Ending) (w' : World) : Prop :=
  ∃ l k a b c : Int, e = .returned (.tuple #[.int .i64 l, .agg #[.int .i64 k, .int .i64 a, .int .i64 b, .int .i64 c]]) ∧ (-1 ≤ l ∧ l ≤ 9) ∧ RdB w' R P ∧ w.grownBy w' (some R)
/- a number of lines and a gate, from a code -/
def FreshLG (w : World) (e : Ending) (w' : World) : Prop :=
  ∃ l k a b c : Int, e = .returned (.tuple #[.int .i64 l, .agg #[.int .i64 k, .int .i64 a, .int .i64 b, .int .i64 c]]) ∧ (-1 ≤ l ∧ l ≤ 9) ∧ Below w.heap.size w w'

/-- the draw under way: the reader -/
structure RG (w : World) (R P : Nat) (wx : World) : Prop where
  lo : R < w.heap.size
  rd : RdB wx R P
  gr : w.grownBy wx (some R)
theorem RG.start {w : World} {R P : Nat} (h : RdB w R P) : RG w R P w := ⟨h.lt, h, World.grownBy.refl _ _⟩
theorem RG.step {w wx wy : World} {R P : Nat} {row : Option Nat} (h : RG w R P wx) (hg : wx.grownBy wy row) (hrow : ∀ x, row = some x → w.heap.size ≤ x) : RG w R P wy :=
  ⟨h.lo, h.rd.grown hg (fun k hk => by have := hrow k hk; have := h.lo; omega), grown_own h.gr hg hrow⟩
theorem RG.pick {w wx wy : World} {R P Q : Nat} (h : RG w R P wx) (hr : RdB wy R Q) (hg : wx.grownBy wy (some R)) : RG w R Q wy := ⟨h.lo, hr, grown_seq h.gr hg⟩
theorem RG.alloc {w wx : World} {R P : Nat} (h : RG w R P wx) (o : Obj) : RG w R P (wx.alloc o) := h.step (World.grownBy_alloc _ _ none) (fun x hx => by cases hx)
theorem RG.drew {w wx : World} {R P : Nat} (h : RG w R P wx) : RG w R P wx.drew := ⟨h.lo, h.rd.below (below_drewN (Below.refl _ wx) 1), ⟨h.gr.os, h.gr.tape, h.gr.output, h.gr.size, h.gr.block⟩⟩
theorem RG.mono {w wx : World} {R P Q : Nat} (h : RG w R P wx) (hq : P ≤ Q) : RG w R Q wx := ⟨h.lo, h.rd.mono hq, h.gr⟩
theorem RG.size {w wx : World} {R P : Nat} (h : RG w R P wx) : w.heap.size ≤ wx.heap.size := h.gr.size
/-- a literal of n numbers of the call's own; the address of a number; a box -/
def IsLit (B n : Nat) (wx : World) (v : Value) : Prop := ∃ b : Nat, v = .slice (some ⟨b, 0, none⟩) n n ∧ B ≤ b ∧ ∀ t, t < n → ∃ z : Int, wx.cell? ⟨b, t, none⟩ = some (.int .i64 z)
def IsCell (B : Nat) (wx : World) (v : Value) : Prop := ∃ (b t : Nat) (z : Int), v = .pointer (some ⟨b, t, none⟩) ∧ B ≤ b ∧ wx.cell? ⟨b, t, none⟩ = some (.int .i64 z)
def Bx (wx : World) (g : Nat) : Prop := (∃ k a b c : Int, Box4 wx g k a b c) ∧ Free wx g
theorem IsLit.grown {B n : Nat} {wx wy : World} {v : Value} {row : Option Nat} (h : IsLit B n wx v) (hg : wx.grownBy wy row) (hrow : ∀ x, row = some x → x < B) : IsLit B n wy v := by
  obtain ⟨b, e, l, hc⟩ := h
  exact ⟨b, e, l, fun t ht => by obtain ⟨z, hz⟩ := hc t ht; exact ⟨z, hg.cell hz (fun e => by have := hrow b e.symm; omega)⟩⟩
theorem IsCell.grown {B : Nat} {wx wy : World} {v : Value} {row : Option Nat} (h : IsCell B wx v) (hg : wx.grownBy wy row) (hrow : ∀ x, row = some x → x < B) : IsCell B wy v := by
  obtain ⟨b, t, z, e, l, hz⟩ := h
  exact ⟨b, t, z, e, l, hg.cell hz (fun e => by have := hrow b e.symm; omega)⟩
theorem Bx.grown {g : Nat} {wx wy : World} {row : Option Nat} (h : Bx wx g) (hg : wx.grownBy wy row) (hne : some g ≠ row) : Bx wy g := by
  obtain ⟨⟨k, a, b, c, hb⟩, hf⟩ := h
  exact ⟨⟨k, a, b, c, hb.grownBy hg hne⟩, hf.grownBy hb.lt hg hne⟩
theorem Bx.lt {g : Nat} {wx : World} (h : Bx wx g) : g < wx.heap.size := by obtain ⟨⟨k, a, b, c, hb⟩, _⟩ := h; exact hb.lt
theorem Bx.put {g : Nat} {wx : World} (h : Bx wx g) (k a b c : Int) : Bx ((((wx.setCell ⟨g, 0, none⟩ (.int .i64 k)).setCell ⟨g, 1, none⟩ (.int .i64 a)).setCell ⟨g, 2, none⟩ (.int .i64 b)).setCell ⟨g, 3, none⟩ (.int .i64 c)) g := by
  obtain ⟨⟨k0, a0, b0, c0, hb⟩, hf⟩ := h
  exact ⟨⟨k, a, b, c, box4_put hb k a b c⟩, (((hf.set _ _).set _ _).set _ _).set _ _⟩
theorem Bx.made (w : World) (k a b c : Int) (t : TypeId) : Bx (w.alloc (.cells #[.int .i64 k, .int .i64 a, .int .i64 b, .int .i64 c] t)) w.heap.size := ⟨⟨k, a, b, c, Box4.made w k a b c t⟩, Free.made w _ _⟩
theorem Bx.below {g : Nat} {wx wy : World} (h : Bx wx g) (hb : Below wx.heap.size wx wy) : Bx wy g := by
  have hl := h.lt
  obtain ⟨⟨k, a, b, c, hx⟩, hf⟩ := h
  exact ⟨⟨k, a, b, c, hx.below hb⟩, fun i => (hb.frozen (p := ⟨g, i, none⟩) hl).trans (hf i)⟩
theorem IsLit.made2 (w : World) (a b : Int) (B : Nat) (hB : B ≤ w.heap.size) : IsLit B 2 (w.alloc (.cells #[.int .i64 a, .int .i64 b] 3)) (.slice (some ⟨w.heap.size, 0, none⟩) 2 2) :=
  ⟨_, rfl, hB, fun t ht => by rcases (show t = 0 ∨ t = 1 by omega) with rfl | rfl <;> exact ⟨_, cell_at rfl rfl⟩⟩
theorem pw_le {n : Nat} (h : n ≤ 8) : (1 : Int) ≤ 2 ^ n ∧ (2 : Int) ^ n ≤ 256 := by
  rcases (show n = 0 ∨ n = 1 ∨ n = 2 ∨ n = 3 ∨ n = 4 ∨ n = 5 ∨ n = 6 ∨ n = 7 ∨ n = 8 by omega) with rfl | rfl | rfl | rfl | rfl | rfl | rfl | rfl | rfl <;> decide
end Go.Proofs.Yteedkpfpljecaaa
