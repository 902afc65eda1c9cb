/-
  The invariant of the region in which the draw of a gate picks its kind beside the loads of its lines.
  No condition.
-/
import Derived.Test.YtdkphnojloanoaaInv
import Derived.Test.YtdkphnojloanoaaDrawBox
namespace Go.Proofs.Ytdkphnojloanoaa
open Go.RowKit Go.Sort base
theorem upd_ne {L : Nat → Bool} {k j : Nat} (h : upd L k j = true) (hne : (j == k) = false) : L j = true := by simpa [upd, hne] using h
theorem upd_f {L : Nat → Bool} {k j : Nat} (h : upd L k j = false) : L j = false := by simp [upd] at h; exact h.1
structure J8 (w : World) (R P g n c : Nat) (z0 z1 z2 : Int) (L : Nat → Bool) (x36 x37 x38 x39 x40 x41 x42 x43 x44 x45 x46 x47 x11 : Value) (wx : World) : Prop where
  h0 : L 0 = true → x36 = .pointer (some ⟨R, 0, none⟩)
  h1 : L 1 = true → ∃ r : Int, x37 = .int .i64 r
  h2 : L 2 = true → x38 = .slice (some ⟨g, 0, none⟩) n c
  h3 : L 3 = true → x39 = .pointer (some ⟨g, 0, none⟩)
  h4 : L 4 = true → ∃ z : Int, x40 = .int .i64 z
  h5 : L 5 = true → x41 = .slice (some ⟨g, 0, none⟩) n c
  h6 : L 6 = true → x42 = .pointer (some ⟨g, 1, none⟩)
  h7 : L 7 = true → ∃ z : Int, x43 = .int .i64 z
  h8 : L 8 = true → x44 = .slice (some ⟨g, 0, none⟩) n c
  h9 : L 9 = true → x45 = .pointer (some ⟨g, 2, none⟩)
  h10 : L 10 = true → ∃ z : Int, x46 = .int .i64 z
  h11 : L 11 = true → ∃ k a b c : Int, x47 = .agg #[.int .i64 k, .int .i64 a, .int .i64 b, .int .i64 c]
  h12 : L 12 = true → ∃ g5 : Nat, x11 = .pointer (some ⟨g5, 0, none⟩) ∧ w.heap.size + 1 ≤ g5 ∧ g ≠ g5 ∧ (∃ k a b c : Int, Box4 wx g5 k a b c) ∧ Free wx g5
  s0 : L 1 = false → GS0 w R P wx
  s1 : GS0 w R (P + 1) wx
  ng : g ≠ R
  o0 : wx.cell? ⟨g, 0, none⟩ = some (.int .i64 z0)
  o1 : wx.cell? ⟨g, 1, none⟩ = some (.int .i64 z1)
  o2 : wx.cell? ⟨g, 2, none⟩ = some (.int .i64 z2)
section
variable {w wx : World} {R P g n c : Nat} {z0 z1 z2 : Int} {L : Nat → Bool} {x36 x37 x38 x39 x40 x41 x42 x43 x44 x45 x46 x47 x11 : Value}
theorem J8.start (hs : GS0 w R P wx) (ng : g ≠ R) (o0 : wx.cell? ⟨g, 0, none⟩ = some (.int .i64 z0)) (o1 : wx.cell? ⟨g, 1, none⟩ = some (.int .i64 z1)) (o2 : wx.cell? ⟨g, 2, none⟩ = some (.int .i64 z2)) : J8 w R P g n c z0 z1 z2 (fun _ => false) x36 x37 x38 x39 x40 x41 x42 x43 x44 x45 x46 x47 x11 wx :=
  ⟨(fun h => by cases h), (fun h => by cases h), (fun h => by cases h), (fun h => by cases h), (fun h => by cases h), (fun h => by cases h), (fun h => by cases h), (fun h => by cases h), (fun h => by cases h), (fun h => by cases h), (fun h => by cases h), (fun h => by cases h), (fun h => by cases h), fun _ => hs, hs.mono (by omega), ng, o0, o1, o2⟩
theorem J8.p0 (h : J8 w R P g n c z0 z1 z2 L x36 x37 x38 x39 x40 x41 x42 x43 x44 x45 x46 x47 x11 wx) {v : Value} (hv : v = .pointer (some ⟨R, 0, none⟩)) : J8 w R P g n c z0 z1 z2 (upd L 0) v x37 x38 x39 x40 x41 x42 x43 x44 x45 x46 x47 x11 wx :=
  ⟨fun _ => hv, fun e => h.h1 (upd_ne e rfl), fun e => h.h2 (upd_ne e rfl), fun e => h.h3 (upd_ne e rfl), fun e => h.h4 (upd_ne e rfl), fun e => h.h5 (upd_ne e rfl), fun e => h.h6 (upd_ne e rfl), fun e => h.h7 (upd_ne e rfl), fun e => h.h8 (upd_ne e rfl), fun e => h.h9 (upd_ne e rfl), fun e => h.h10 (upd_ne e rfl), fun e => h.h11 (upd_ne e rfl), fun e => h.h12 (upd_ne e rfl), fun e => h.s0 (upd_f e), h.s1, h.ng, h.o0, h.o1, h.o2⟩
theorem J8.p2 (h : J8 w R P g n c z0 z1 z2 L x36 x37 x38 x39 x40 x41 x42 x43 x44 x45 x46 x47 x11 wx) {v : Value} (hv : v = .slice (some ⟨g, 0, none⟩) n c) : J8 w R P g n c z0 z1 z2 (upd L 2) x36 x37 v x39 x40 x41 x42 x43 x44 x45 x46 x47 x11 wx :=
  ⟨fun e => h.h0 (upd_ne e rfl), fun e => h.h1 (upd_ne e rfl), fun _ => hv, fun e => h.h3 (upd_ne e rfl), fun e => h.h4 (upd_ne e rfl), fun e => h.h5 (upd_ne e rfl), fun e => h.h6 (upd_ne e rfl), fun e => h.h7 (upd_ne e rfl), fun e => h.h8 (upd_ne e rfl), fun e => h.h9 (upd_ne e rfl), fun e => h.h10 (upd_ne e rfl), fun e => h.h11 (upd_ne e rfl), fun e => h.h12 (upd_ne e rfl), fun e => h.s0 (upd_f e), h.s1, h.ng, h.o0, h.o1, h.o2⟩
theorem J8.p3 (h : J8 w R P g n c z0 z1 z2 L x36 x37 x38 x39 x40 x41 x42 x43 x44 x45 x46 x47 x11 wx) {v : Value} (hv : v = .pointer (some ⟨g, 0, none⟩)) : J8 w R P g n c z0 z1 z2 (upd L 3) x36 x37 x38 v x40 x41 x42 x43 x44 x45 x46 x47 x11 wx :=
  ⟨fun e => h.h0 (upd_ne e rfl), fun e => h.h1 (upd_ne e rfl), fun e => h.h2 (upd_ne e rfl), fun _ => hv, fun e => h.h4 (upd_ne e rfl), fun e => h.h5 (upd_ne e rfl), fun e => h.h6 (upd_ne e rfl), fun e => h.h7 (upd_ne e rfl), fun e => h.h8 (upd_ne e rfl), fun e => h.h9 (upd_ne e rfl), fun e => h.h10 (upd_ne e rfl), fun e => h.h11 (upd_ne e rfl), fun e => h.h12 (upd_ne e rfl), fun e => h.s0 (upd_f e), h.s1, h.ng, h.o0, h.o1, h.o2⟩
theorem J8.p4 (h : J8 w R P g n c z0 z1 z2 L x36 x37 x38 x39 x40 x41 x42 x43 x44 x45 x46 x47 x11 wx) {v : Value} (hv : ∃ z : Int, v = .int .i64 z) : J8 w R P g n c z0 z1 z2 (upd L 4) x36 x37 x38 x39 v x41 x42 x43 x44 x45 x46 x47 x11 wx :=
  ⟨fun e => h.h0 (upd_ne e rfl), fun e => h.h1 (upd_ne e rfl), fun e => h.h2 (upd_ne e rfl), fun e => h.h3 (upd_ne e rfl), fun _ => hv, fun e => h.h5 (upd_ne e rfl), fun e => h.h6 (upd_ne e rfl), fun e => h.h7 (upd_ne e rfl), fun e => h.h8 (upd_ne e rfl), fun e => h.h9 (upd_ne e rfl), fun e => h.h10 (upd_ne e rfl), fun e => h.h11 (upd_ne e rfl), fun e => h.h12 (upd_ne e rfl), fun e => h.s0 (upd_f e), h.s1, h.ng, h.o0, h.o1, h.o2⟩
theorem J8.p5 (h : J8 w R P g n c z0 z1 z2 L x36 x37 x38 x39 x40 x41 x42 x43 x44 x45 x46 x47 x11 wx) {v : Value} (hv : v = .slice (some ⟨g, 0, none⟩) n c) : J8 w R P g n c z0 z1 z2 (upd L 5) x36 x37 x38 x39 x40 v x42 x43 x44 x45 x46 x47 x11 wx :=
  ⟨fun e => h.h0 (upd_ne e rfl), fun e => h.h1 (upd_ne e rfl), fun e => h.h2 (upd_ne e rfl), fun e => h.h3 (upd_ne e rfl), fun e => h.h4 (upd_ne e rfl), fun _ => hv, fun e => h.h6 (upd_ne e rfl), fun e => h.h7 (upd_ne e rfl), fun e => h.h8 (upd_ne e rfl), fun e => h.h9 (upd_ne e rfl), fun e => h.h10 (upd_ne e rfl), fun e => h.h11 (upd_ne e rfl), fun e => h.h12 (upd_ne e rfl), fun e => h.s0 (upd_f e), h.s1, h.ng, h.o0, h.o1, h.o2⟩
theorem J8.p6 (h : J8 w R P g n c z0 z1 z2 L x36 x37 x38 x39 x40 x41 x42 x43 x44 x45 x46 x47 x11 wx) {v : Value} (hv : v = .pointer (some ⟨g, 1, none⟩)) : J8 w R P g n c z0 z1 z2 (upd L 6) x36 x37 x38 x39 x40 x41 v x43 x44 x45 x46 x47 x11 wx :=
  ⟨fun e => h.h0 (upd_ne e rfl), fun e => h.h1 (upd_ne e rfl), fun e => h.h2 (upd_ne e rfl), fun e => h.h3 (upd_ne e rfl), fun e => h.h4 (upd_ne e rfl), fun e => h.h5 (upd_ne e rfl), fun _ => hv, fun e => h.h7 (upd_ne e rfl), fun e => h.h8 (upd_ne e rfl), fun e => h.h9 (upd_ne e rfl), fun e => h.h10 (upd_ne e rfl), fun e => h.h11 (upd_ne e rfl), fun e => h.h12 (upd_ne e rfl), fun e => h.s0 (upd_f e), h.s1, h.ng, h.o0, h.o1, h.o2⟩
theorem J8.p7 (h : J8 w R P g n c z0 z1 z2 L x36 x37 x38 x39 x40 x41 x42 x43 x44 x45 x46 x47 x11 wx) {v : Value} (hv : ∃ z : Int, v = .int .i64 z) : J8 w R P g n c z0 z1 z2 (upd L 7) x36 x37 x38 x39 x40 x41 x42 v x44 x45 x46 x47 x11 wx :=
  ⟨fun e => h.h0 (upd_ne e rfl), fun e => h.h1 (upd_ne e rfl), fun e => h.h2 (upd_ne e rfl), fun e => h.h3 (upd_ne e rfl), fun e => h.h4 (upd_ne e rfl), fun e => h.h5 (upd_ne e rfl), fun e => h.h6 (upd_ne e rfl), fun _ => hv, fun e => h.h8 (upd_ne e rfl), fun e => h.h9 (upd_ne e rfl), fun e => h.h10 (upd_ne e rfl), fun e => h.h11 (upd_ne e rfl), fun e => h.h12 (upd_ne e rfl), fun e => h.s0 (upd_f e), h.s1, h.ng, h.o0, h.o1, h.o2⟩
theorem J8.p8 (h : J8 w R P g n c z0 z1 z2 L x36 x37 x38 x39 x40 x41 x42 x43 x44 x45 x46 x47 x11 wx) {v : Value} (hv : v = .slice (some ⟨g, 0, none⟩) n c) : J8 w R P g n c z0 z1 z2 (upd L 8) x36 x37 x38 x39 x40 x41 x42 x43 v x45 x46 x47 x11 wx :=
  ⟨fun e => h.h0 (upd_ne e rfl), fun e => h.h1 (upd_ne e rfl), fun e => h.h2 (upd_ne e rfl), fun e => h.h3 (upd_ne e rfl), fun e => h.h4 (upd_ne e rfl), fun e => h.h5 (upd_ne e rfl), fun e => h.h6 (upd_ne e rfl), fun e => h.h7 (upd_ne e rfl), fun _ => hv, fun e => h.h9 (upd_ne e rfl), fun e => h.h10 (upd_ne e rfl), fun e => h.h11 (upd_ne e rfl), fun e => h.h12 (upd_ne e rfl), fun e => h.s0 (upd_f e), h.s1, h.ng, h.o0, h.o1, h.o2⟩
theorem J8.p9 (h : J8 w R P g n c z0 z1 z2 L x36 x37 x38 x39 x40 x41 x42 x43 x44 x45 x46 x47 x11 wx) {v : Value} (hv : v = .pointer (some ⟨g, 2, none⟩)) : J8 w R P g n c z0 z1 z2 (upd L 9) x36 x37 x38 x39 x40 x41 x42 x43 x44 v x46 x47 x11 wx :=
  ⟨fun e => h.h0 (upd_ne e rfl), fun e => h.h1 (upd_ne e rfl), fun e => h.h2 (upd_ne e rfl), fun e => h.h3 (upd_ne e rfl), fun e => h.h4 (upd_ne e rfl), fun e => h.h5 (upd_ne e rfl), fun e => h.h6 (upd_ne e rfl), fun e => h.h7 (upd_ne e rfl), fun e => h.h8 (upd_ne e rfl), fun _ => hv, fun e => h.h10 (upd_ne e rfl), fun e => h.h11 (upd_ne e rfl), fun e => h.h12 (upd_ne e rfl), fun e => h.s0 (upd_f e), h.s1, h.ng, h.o0, h.o1, h.o2⟩
theorem J8.p10 (h : J8 w R P g n c z0 z1 z2 L x36 x37 x38 x39 x40 x41 x42 x43 x44 x45 x46 x47 x11 wx) {v : Value} (hv : ∃ z : Int, v = .int .i64 z) : J8 w R P g n c z0 z1 z2 (upd L 10) x36 x37 x38 x39 x40 x41 x42 x43 x44 x45 v x47 x11 wx :=
  ⟨fun e => h.h0 (upd_ne e rfl), fun e => h.h1 (upd_ne e rfl), fun e => h.h2 (upd_ne e rfl), fun e => h.h3 (upd_ne e rfl), fun e => h.h4 (upd_ne e rfl), fun e => h.h5 (upd_ne e rfl), fun e => h.h6 (upd_ne e rfl), fun e => h.h7 (upd_ne e rfl), fun e => h.h8 (upd_ne e rfl), fun e => h.h9 (upd_ne e rfl), fun _ => hv, fun e => h.h11 (upd_ne e rfl), fun e => h.h12 (upd_ne e rfl), fun e => h.s0 (upd_f e), h.s1, h.ng, h.o0, h.o1, h.o2⟩
theorem J8.p11 (h : J8 w R P g n c z0 z1 z2 L x36 x37 x38 x39 x40 x41 x42 x43 x44 x45 x46 x47 x11 wx) {v : Value} (hv : ∃ k a b c : Int, v = .agg #[.int .i64 k, .int .i64 a, .int .i64 b, .int .i64 c]) : J8 w R P g n c z0 z1 z2 (upd L 11) x36 x37 x38 x39 x40 x41 x42 x43 x44 x45 x46 v x11 wx :=
  ⟨fun e => h.h0 (upd_ne e rfl), fun e => h.h1 (upd_ne e rfl), fun e => h.h2 (upd_ne e rfl), fun e => h.h3 (upd_ne e rfl), fun e => h.h4 (upd_ne e rfl), fun e => h.h5 (upd_ne e rfl), fun e => h.h6 (upd_ne e rfl), fun e => h.h7 (upd_ne e rfl), fun e => h.h8 (upd_ne e rfl), fun e => h.h9 (upd_ne e rfl), fun e => h.h10 (upd_ne e rfl), fun _ => hv, fun e => h.h12 (upd_ne e rfl), fun e => h.s0 (upd_f e), h.s1, h.ng, h.o0, h.o1, h.o2⟩
theorem J8.pick (h : J8 w R P g n c z0 z1 z2 L x36 x37 x38 x39 x40 x41 x42 x43 x44 x45 x46 x47 x11 wx) {r : Int} {wy : World} (hr : RdB wy R (P + 1)) (hg : wx.grownBy wy (some R)) : J8 w R P g n c z0 z1 z2 (upd L 1) x36 (.int .i64 r) x38 x39 x40 x41 x42 x43 x44 x45 x46 x47 x11 wy := by
  have ng : some g ≠ some R := by simpa using h.ng
  refine ⟨fun e => h.h0 (upd_ne e rfl), fun _ => ⟨_, rfl⟩, fun e => h.h2 (upd_ne e rfl), fun e => h.h3 (upd_ne e rfl), fun e => h.h4 (upd_ne e rfl), fun e => h.h5 (upd_ne e rfl), fun e => h.h6 (upd_ne e rfl), fun e => h.h7 (upd_ne e rfl), fun e => h.h8 (upd_ne e rfl), fun e => h.h9 (upd_ne e rfl), fun e => h.h10 (upd_ne e rfl), fun e => h.h11 (upd_ne e rfl), fun e => ?_, fun e => by simp [upd] at e, h.s1.pick hr hg, h.ng, hg.cell h.o0 ng, hg.cell h.o1 ng, hg.cell h.o2 ng⟩
  obtain ⟨g5, e5, l5, n5, ⟨k, a, b, d, hb⟩, hf⟩ := h.h12 (upd_ne e rfl)
  have hl := h.s1.lo
  have hne : some g5 ≠ some R := by simp; omega
  exact ⟨g5, e5, l5, n5, ⟨k, a, b, d, hb.grownBy hg hne⟩, hf.grownBy hb.lt hg hne⟩
theorem J8.new (h : J8 w R P g n c z0 z1 z2 L x36 x37 x38 x39 x40 x41 x42 x43 x44 x45 x46 x47 x11 wx) : J8 w R P g n c z0 z1 z2 (upd L 12) x36 x37 x38 x39 x40 x41 x42 x43 x44 x45 x46 x47 (.pointer (some ⟨wx.heap.size, 0, none⟩)) (wx.alloc (.cells #[.int .i64 0, .int .i64 0, .int .i64 0, .int .i64 0] 33)) := by
  have hg : g < wx.heap.size := World.block_lt_of_cell? wx _ h.o0
  exact ⟨fun e => h.h0 (upd_ne e rfl), fun e => h.h1 (upd_ne e rfl), fun e => h.h2 (upd_ne e rfl), fun e => h.h3 (upd_ne e rfl), fun e => h.h4 (upd_ne e rfl), fun e => h.h5 (upd_ne e rfl), fun e => h.h6 (upd_ne e rfl), fun e => h.h7 (upd_ne e rfl), fun e => h.h8 (upd_ne e rfl), fun e => h.h9 (upd_ne e rfl), fun e => h.h10 (upd_ne e rfl), fun e => h.h11 (upd_ne e rfl), fun _ => ⟨_, rfl, h.s1.size, by omega, ⟨0, 0, 0, 0, Box4.made wx 0 0 0 0 _⟩, Free.made _ _ _⟩, fun e => (h.s0 (upd_f e)).alloc _, h.s1.alloc _, h.ng, cell_old h.o0, cell_old h.o1, cell_old h.o2⟩
theorem J8.store (h : J8 w R P g n c z0 z1 z2 L x36 x37 x38 x39 x40 x41 x42 x43 x44 x45 x46 x47 x11 wx) {g5 : Nat} {k a b d : Int} (hL : L 12 = true) (h5 : x11 = .pointer (some ⟨g5, 0, none⟩)) : J8 w R P g n c z0 z1 z2 (upd L 13) x36 x37 x38 x39 x40 x41 x42 x43 x44 x45 x46 x47 x11 ((((wx.setCell ⟨g5, 0, none⟩ (.int .i64 k)).setCell ⟨g5, 1, none⟩ (.int .i64 a)).setCell ⟨g5, 2, none⟩ (.int .i64 b)).setCell ⟨g5, 3, none⟩ (.int .i64 d)) := by
  obtain ⟨g6, e5, l5, n5, ⟨k0, a0, b0, d0, hb⟩, hf⟩ := h.h12 hL
  rw [h5] at e5
  obtain rfl : g5 = g6 := by simpa using e5
  have hg := put4_grown wx g5 (.int .i64 k) (.int .i64 a) (.int .i64 b) (.int .i64 d)
  have hne : some g ≠ some g5 := by simpa using n5
  exact ⟨fun e => h.h0 (upd_ne e rfl), fun e => h.h1 (upd_ne e rfl), fun e => h.h2 (upd_ne e rfl), fun e => h.h3 (upd_ne e rfl), fun e => h.h4 (upd_ne e rfl), fun e => h.h5 (upd_ne e rfl), fun e => h.h6 (upd_ne e rfl), fun e => h.h7 (upd_ne e rfl), fun e => h.h8 (upd_ne e rfl), fun e => h.h9 (upd_ne e rfl), fun e => h.h10 (upd_ne e rfl), fun e => h.h11 (upd_ne e rfl), fun _ => ⟨g5, h5, l5, n5, ⟨k, a, b, d, box4_put hb k a b d⟩, (((hf.set _ _).set _ _).set _ _).set _ _⟩, fun e => (h.s0 (upd_f e)).step hg (by simp; omega), h.s1.step hg (by simp; omega), h.ng, hg.cell h.o0 hne, hg.cell h.o1 hne, hg.cell h.o2 hne⟩
end
end Go.Proofs.Ytdkphnojloanoaa
