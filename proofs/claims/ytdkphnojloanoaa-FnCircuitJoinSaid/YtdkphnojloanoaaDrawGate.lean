/-
  The draws of a number of lines and of a gate.
  No condition.
-/
import Derived.Deep.RegionWith
import Derived.Deep.RegionHeld3
import Derived.Deep.DeepCutAuto
import Derived.Deep.CutBlock
import Derived.Test.YtdkphnojloanoaaDrawGateJ
namespace Go.Proofs.Ytdkphnojloanoaa
open Go.RowKit Go.Sort base
/- some number from -1 to 9 -/
def DrawnLn (w : World) (R P : Nat) (e : Ending) (w' : World) : Prop := ∃ x : Int, e = .returned (.int .i64 x) ∧ (-1 ≤ x ∧ x ≤ 9) ∧ RdB w' R P ∧ w.grownBy w' (some R)
set_option maxHeartbeats 4000000 in
theorem l20Lines_b (R p : Nat) (M : Int) (w : World) (h : RdB w R p) (hp : p ≤ 100000) (hM : 0 ≤ M ∧ M ≤ 1000) :
    Calls Try.prog 40 #[.pointer (some ⟨R, 0, none⟩), .int .i64 M] w (DrawnLn w R (p + 2)) := by
  have H0 := hide h
  have hlt := h.lt
  obtain ⟨hM0, hM1⟩ := hM
  clear h
  go_enter Try.func40, Try.ntmps40
  go_wp2_with fail
  refine (odd_b R p M _ H0.out (by omega) ⟨by omega, by omega⟩).mono ?_
  rintro e w1 ⟨bo, rfl, hr, hg⟩
  have H1 := hide hr
  have G1 := hide hg
  have hs1 := hg.size
  clear hr hg
  cases bo
  · go_wp2_with fail
    have H1' := hide (rd_alloc H1.out (.cells #[.int .i64 1, .int .i64 2, .int .i64 3, .int .i64 3, .int .i64 4, .int .i64 4, .int .i64 5, .int .i64 6, .int .i64 7, .int .i64 8] 3))
    refine (pick_b R (p + 1) 10 _ H1'.out (by omega) (by omega)).mono ?_
    rintro e w2 ⟨r, rfl, a, b, _, hr, hg⟩
    have c := b (by omega)
    have H2 := hide hr
    have G2 := hide (grown_seq (grown_seq G1.out (World.grownBy_alloc _ _ _)) hg)
    have x0 : w2.cell? ⟨w1.heap.size, 0, none⟩ = some (.int .i64 1) := hg.cell (cell_at rfl rfl) (by simp; omega)
    have x1 : w2.cell? ⟨w1.heap.size, 1, none⟩ = some (.int .i64 2) := hg.cell (cell_at rfl rfl) (by simp; omega)
    have x2 : w2.cell? ⟨w1.heap.size, 2, none⟩ = some (.int .i64 3) := hg.cell (cell_at rfl rfl) (by simp; omega)
    have x3 : w2.cell? ⟨w1.heap.size, 3, none⟩ = some (.int .i64 3) := hg.cell (cell_at rfl rfl) (by simp; omega)
    have x4 : w2.cell? ⟨w1.heap.size, 4, none⟩ = some (.int .i64 4) := hg.cell (cell_at rfl rfl) (by simp; omega)
    have x5 : w2.cell? ⟨w1.heap.size, 5, none⟩ = some (.int .i64 4) := hg.cell (cell_at rfl rfl) (by simp; omega)
    have x6 : w2.cell? ⟨w1.heap.size, 6, none⟩ = some (.int .i64 5) := hg.cell (cell_at rfl rfl) (by simp; omega)
    have x7 : w2.cell? ⟨w1.heap.size, 7, none⟩ = some (.int .i64 6) := hg.cell (cell_at rfl rfl) (by simp; omega)
    have x8 : w2.cell? ⟨w1.heap.size, 8, none⟩ = some (.int .i64 7) := hg.cell (cell_at rfl rfl) (by simp; omega)
    have x9 : w2.cell? ⟨w1.heap.size, 9, none⟩ = some (.int .i64 8) := hg.cell (cell_at rfl rfl) (by simp; omega)
    clear hr hg b
    rcases (show r = 0 ∨ r = 1 ∨ r = 2 ∨ r = 3 ∨ r = 4 ∨ r = 5 ∨ r = 6 ∨ r = 7 ∨ r = 8 ∨ r = 9 by omega) with rfl | rfl | rfl | rfl | rfl | rfl | rfl | rfl | rfl | rfl
    all_goals
      go_wp2_with fail
      go_ret
      exact ⟨_, rfl, ⟨by omega, by omega⟩, H2.out, G2.out⟩
  · go_wp2_with fail
    have H1' := hide (rd_alloc H1.out (.cells #[.int .i64 0, .int .i64 (-1), .int .i64 9] 3))
    refine (pick_b R (p + 1) 3 _ H1'.out (by omega) (by omega)).mono ?_
    rintro e w2 ⟨r, rfl, a, b, _, hr, hg⟩
    have c := b (by omega)
    have H2 := hide hr
    have G2 := hide (grown_seq (grown_seq G1.out (World.grownBy_alloc _ _ _)) hg)
    have x0 : w2.cell? ⟨w1.heap.size, 0, none⟩ = some (.int .i64 0) := hg.cell (cell_at rfl rfl) (by simp; omega)
    have x1 : w2.cell? ⟨w1.heap.size, 1, none⟩ = some (.int .i64 (-1)) := hg.cell (cell_at rfl rfl) (by simp; omega)
    have x2 : w2.cell? ⟨w1.heap.size, 2, none⟩ = some (.int .i64 9) := hg.cell (cell_at rfl rfl) (by simp; omega)
    clear hr hg b
    rcases (show r = 0 ∨ r = 1 ∨ r = 2 by omega) with rfl | rfl | rfl
    all_goals
      go_wp2_with fail
      go_ret
      exact ⟨_, rfl, ⟨by omega, by omega⟩, H2.out, G2.out⟩
theorem ne_row2 {v : Value} {a b : Nat} {row : Option Nat} (h : ∀ k, v.ownBlock = some k → a ≤ k ∧ k < b) (hg : ∀ x, row = some x → x < a) : v.ownBlock = none ∨ v.ownBlock ≠ row := by
  cases hv : v.ownBlock with
  | none => exact .inl rfl
  | some k => right; intro e; have := h k hv; have := hg k e.symm; omega
theorem IR.dropA {w : World} {g n c t : Nat} {zs : List Int} (h : IR w (some ⟨g, 0, none⟩) n zs) (ht : t ≤ n) (hn : n ≤ c) : IR w (some ⟨g, if t = c then 0 else t, none⟩) (n - t) (zs.drop t) := by
  refine ⟨by have := h.len; simp; omega, by have := h.max; omega, fun h0 => ?_⟩
  obtain ⟨b, o, e, hb, hc⟩ := h.at_ (by omega)
  simp only [Option.some.injEq, Addr.mk.injEq, and_true] at e
  obtain ⟨rfl, rfl⟩ := e
  rw [if_neg (show t ≠ c by omega)]
  refine ⟨g, t, rfl, hb, fun i hi => ?_⟩
  have := hc (t + i) (by omega)
  rw [Nat.zero_add] at this
  rw [this]
  have hl := h.len
  simp [nth, show t + i < zs.length by omega]
/- some gate, and the reader at most at place P -/
def DrawnGate (w : World) (R P : Nat) (e : Ending) (w' : World) : Prop :=
  ∃ k a b c : Int, e = .returned (.agg #[.int .i64 k, .int .i64 a, .int .i64 b, .int .i64 c]) ∧ RdB w' R P ∧ w.grownBy w' (some R)
theorem keep4 {w : World} {g g' : Nat} {v0 v1 v2 x0 x1 x2 x3 : Value} (hne : g ≠ g') (y0 : w.cell? ⟨g, 0, none⟩ = some v0) (y1 : w.cell? ⟨g, 1, none⟩ = some v1) (y2 : w.cell? ⟨g, 2, none⟩ = some v2) :
    ((((w.setCell ⟨g', 0, none⟩ x0).setCell ⟨g', 1, none⟩ x1).setCell ⟨g', 2, none⟩ x2).setCell ⟨g', 3, none⟩ x3).cell? ⟨g, 0, none⟩ = some v0 ∧ ((((w.setCell ⟨g', 0, none⟩ x0).setCell ⟨g', 1, none⟩ x1).setCell ⟨g', 2, none⟩ x2).setCell ⟨g', 3, none⟩ x3).cell? ⟨g, 1, none⟩ = some v1 ∧ ((((w.setCell ⟨g', 0, none⟩ x0).setCell ⟨g', 1, none⟩ x1).setCell ⟨g', 2, none⟩ x2).setCell ⟨g', 3, none⟩ x3).cell? ⟨g, 2, none⟩ = some v2 := by
  have hg := put4_grown w g' x0 x1 x2 x3
  exact ⟨hg.cell y0 (by simpa using hne), hg.cell y1 (by simpa using hne), hg.cell y2 (by simpa using hne)⟩
/-- the gate's box is there -/
structure GSt (w : World) (R P g5 : Nat) (wx : World) : Prop where
  s : GS0 w R P wx
  lo : w.heap.size + 1 ≤ g5
  b5 : ∃ k a b c : Int, Box4 wx g5 k a b c
  f5 : Free wx g5
theorem GSt.lt5 {w wx : World} {R P g5 : Nat} (h : GSt w R P g5 wx) : g5 < wx.heap.size := by obtain ⟨k, a, b, c, hb⟩ := h.b5; exact hb.lt
theorem GSt.pick {w wx wy : World} {R P Q g5 : Nat} (h : GSt w R P g5 wx) (hr : RdB wy R Q) (hg : wx.grownBy wy (some R)) : GSt w R Q g5 wy := by
  have hl := h.s.lo
  have h5 := h.lo
  obtain ⟨k, a, b, c, hb⟩ := h.b5
  exact ⟨h.s.pick hr hg, h.lo, ⟨k, a, b, c, hb.grownBy hg (by simp; omega)⟩, h.f5.grownBy h.lt5 hg (by simp; omega)⟩
theorem GSt.alloc {w wx : World} {R P g5 : Nat} (h : GSt w R P g5 wx) (o : Obj) : GSt w R P g5 (wx.alloc o) := by
  obtain ⟨k, a, b, c, hb⟩ := h.b5
  exact ⟨h.s.alloc o, h.lo, ⟨k, a, b, c, hb.below ((Below.refl _ _).alloc (Nat.le_refl _) _)⟩, h.f5.grownBy h.lt5 (World.grownBy_alloc _ _ none) (by simp)⟩
theorem GSt.drew {w wx : World} {R P g5 : Nat} (h : GSt w R P g5 wx) : GSt w R P g5 wx.drew := ⟨h.s.drew, h.lo, h.b5, h.f5⟩
theorem GSt.mono {w wx : World} {R P Q g5 : Nat} (h : GSt w R P g5 wx) (hq : P ≤ Q) : GSt w R Q g5 wx := ⟨h.s.mono hq, h.lo, h.b5, h.f5⟩
theorem GSt.put {w wx : World} {R P g5 : Nat} (h : GSt w R P g5 wx) (k a b c : Int) :
    GSt w R P g5 ((((wx.setCell ⟨g5, 0, none⟩ (.int .i64 k)).setCell ⟨g5, 1, none⟩ (.int .i64 a)).setCell ⟨g5, 2, none⟩ (.int .i64 b)).setCell ⟨g5, 3, none⟩ (.int .i64 c)) := by
  have h5 := h.lo
  obtain ⟨k0, a0, b0, c0, hb⟩ := h.b5
  exact ⟨h.s.step (put4_grown wx g5 _ _ _ _) (by simp; omega), h.lo, ⟨k, a, b, c, box4_put hb k a b c⟩, (((h.f5.set _ _).set _ _).set _ _).set _ _⟩
/-- one number of a box written anew -/
theorem Box4.one {w : World} {g i : Nat} {k a b c : Int} (h : Box4 w g k a b c) (hi : i < 4) (z : Int) :
    Box4 (w.setCell ⟨g, i, none⟩ (.int .i64 z)) g (if i = 0 then z else k) (if i = 1 then z else a) (if i = 2 then z else b) (if i = 3 then z else c) := by
  obtain ⟨h0, h1, h2, h3⟩ := h
  rcases (show i = 0 ∨ i = 1 ∨ i = 2 ∨ i = 3 by omega) with rfl | rfl | rfl | rfl
  · exact ⟨World.cell?_setCell_same _ _ _ h0, by rw [World.cell?_setCell_other _ _ _ _ (by simp)]; exact h1, by rw [World.cell?_setCell_other _ _ _ _ (by simp)]; exact h2, by rw [World.cell?_setCell_other _ _ _ _ (by simp)]; exact h3⟩
  · exact ⟨by rw [World.cell?_setCell_other _ _ _ _ (by simp)]; exact h0, World.cell?_setCell_same _ _ _ h1, by rw [World.cell?_setCell_other _ _ _ _ (by simp)]; exact h2, by rw [World.cell?_setCell_other _ _ _ _ (by simp)]; exact h3⟩
  · exact ⟨by rw [World.cell?_setCell_other _ _ _ _ (by simp)]; exact h0, by rw [World.cell?_setCell_other _ _ _ _ (by simp)]; exact h1, World.cell?_setCell_same _ _ _ h2, by rw [World.cell?_setCell_other _ _ _ _ (by simp)]; exact h3⟩
  · exact ⟨by rw [World.cell?_setCell_other _ _ _ _ (by simp)]; exact h0, by rw [World.cell?_setCell_other _ _ _ _ (by simp)]; exact h1, by rw [World.cell?_setCell_other _ _ _ _ (by simp)]; exact h2, World.cell?_setCell_same _ _ _ h3⟩
theorem GSt.one {w wx : World} {R P g5 : Nat} (h : GSt w R P g5 wx) (i : Nat) (hi : i < 4) (z : Int) : GSt w R P g5 (wx.setCell ⟨g5, i, none⟩ (.int .i64 z)) := by
  have h5 := h.lo
  obtain ⟨k0, a0, b0, c0, hb⟩ := h.b5
  exact ⟨h.s.step (set1_grown wx g5 i _) (by simp; omega), h.lo, ⟨_, _, _, _, hb.one hi z⟩, h.f5.set _ _⟩
theorem GSt.fin {w wx : World} {R P g5 : Nat} (h : GSt w R P g5 wx) (k a b c : Int) :
    Box4 ((((wx.setCell ⟨w.heap.size, 0, none⟩ (.int .i64 k)).setCell ⟨w.heap.size, 1, none⟩ (.int .i64 a)).setCell ⟨w.heap.size, 2, none⟩ (.int .i64 b)).setCell ⟨w.heap.size, 3, none⟩ (.int .i64 c)) w.heap.size k a b c ∧
    RdB ((((wx.setCell ⟨w.heap.size, 0, none⟩ (.int .i64 k)).setCell ⟨w.heap.size, 1, none⟩ (.int .i64 a)).setCell ⟨w.heap.size, 2, none⟩ (.int .i64 b)).setCell ⟨w.heap.size, 3, none⟩ (.int .i64 c)) R P ∧
    w.grownBy ((((wx.setCell ⟨w.heap.size, 0, none⟩ (.int .i64 k)).setCell ⟨w.heap.size, 1, none⟩ (.int .i64 a)).setCell ⟨w.heap.size, 2, none⟩ (.int .i64 b)).setCell ⟨w.heap.size, 3, none⟩ (.int .i64 c)) (some R) := by
  have hg := put4_grown wx w.heap.size (.int .i64 k) (.int .i64 a) (.int .i64 b) (.int .i64 c)
  have hl := h.s.lo
  exact ⟨box4_put h.s.b k a b c, h.s.rd.grown hg (by simp; omega), grown_own h.s.gr hg (by simp)⟩
theorem GSt.new {w wx : World} {R P : Nat} (h : GS0 w R P wx) (k a b c : Int) : GSt w R P wx.heap.size (wx.alloc (.cells #[.int .i64 k, .int .i64 a, .int .i64 b, .int .i64 c] 33)) :=
  ⟨h.alloc _, h.size, ⟨k, a, b, c, Box4.made wx k a b c _⟩, Free.made _ _ _⟩
structure J12 (w : World) (R P g5 : Nat) (L : Nat → Bool) (x53 x54 x55 x56 x57 x58 x59 x60 : Value) (wx : World) : Prop where
  h0 : L 0 = true → ∃ b : Nat, x53 = .slice (some ⟨b, 0, none⟩) 3 3 ∧ w.heap.size + 1 ≤ b ∧ b ≠ g5 ∧ ∀ t, t < 3 → ∃ z : Int, wx.cell? ⟨b, t, none⟩ = some (.int .i64 z)
  h1 : L 1 = true → x54 = .pointer (some ⟨R, 0, none⟩)
  h2 : L 2 = true → ∃ r : Nat, x55 = .int .i64 r ∧ r < 3
  h3 : L 3 = true → ∃ (b t : Nat) (z : Int), x56 = .pointer (some ⟨b, t, none⟩) ∧ w.heap.size + 1 ≤ b ∧ b ≠ g5 ∧ wx.cell? ⟨b, t, none⟩ = some (.int .i64 z)
  h4 : L 4 = true → ∃ z : Int, x57 = .int .i64 z
  h5 : L 5 = true → x58 = .pointer (some ⟨R, 0, none⟩)
  h6 : L 6 = true → ∃ z : Int, x59 = .int .i64 z
  h7 : L 7 = true → ∃ k a b c : Int, x60 = .agg #[.int .i64 k, .int .i64 a, .int .i64 b, .int .i64 c]
  s0 : L 2 = false → GSt w R P g5 wx
  s1 : L 6 = false → GSt w R (P + 1) g5 wx
  s2 : GSt w R (P + 2) g5 wx
section
variable {w wx : World} {R P g5 : Nat} {L : Nat → Bool} {x53 x54 x55 x56 x57 x58 x59 x60 : Value}
theorem J12.start (hs : GSt w R P g5 wx) : J12 w R P g5 (fun _ => false) x53 x54 x55 x56 x57 x58 x59 x60 wx :=
  ⟨(fun h => by cases h), (fun h => by cases h), (fun h => by cases h), (fun h => by cases h), (fun h => by cases h), (fun h => by cases h), (fun h => by cases h), (fun h => by cases h), fun _ => hs, fun _ => hs.mono (by omega), hs.mono (by omega)⟩
theorem J12.p1 (h : J12 w R P g5 L x53 x54 x55 x56 x57 x58 x59 x60 wx) {v : Value} (hv : v = .pointer (some ⟨R, 0, none⟩)) : J12 w R P g5 (upd L 1) x53 v x55 x56 x57 x58 x59 x60 wx :=
  ⟨fun e => h.h0 (upd_ne e rfl), fun _ => hv, fun e => h.h2 (upd_ne e rfl), fun e => h.h3 (upd_ne e rfl), fun e => h.h4 (upd_ne e rfl), fun e => h.h5 (upd_ne e rfl), fun e => h.h6 (upd_ne e rfl), fun e => h.h7 (upd_ne e rfl), fun e => h.s0 (upd_f e), fun e => h.s1 (upd_f e), h.s2⟩
theorem J12.p3 (h : J12 w R P g5 L x53 x54 x55 x56 x57 x58 x59 x60 wx) {v : Value} (hv : ∃ (b t : Nat) (z : Int), v = .pointer (some ⟨b, t, none⟩) ∧ w.heap.size + 1 ≤ b ∧ b ≠ g5 ∧ wx.cell? ⟨b, t, none⟩ = some (.int .i64 z)) : J12 w R P g5 (upd L 3) x53 x54 x55 v x57 x58 x59 x60 wx :=
  ⟨fun e => h.h0 (upd_ne e rfl), fun e => h.h1 (upd_ne e rfl), fun e => h.h2 (upd_ne e rfl), fun _ => hv, fun e => h.h4 (upd_ne e rfl), fun e => h.h5 (upd_ne e rfl), fun e => h.h6 (upd_ne e rfl), fun e => h.h7 (upd_ne e rfl), fun e => h.s0 (upd_f e), fun e => h.s1 (upd_f e), h.s2⟩
theorem J12.p4 (h : J12 w R P g5 L x53 x54 x55 x56 x57 x58 x59 x60 wx) {v : Value} (hv : ∃ z : Int, v = .int .i64 z) : J12 w R P g5 (upd L 4) x53 x54 x55 x56 v x58 x59 x60 wx :=
  ⟨fun e => h.h0 (upd_ne e rfl), fun e => h.h1 (upd_ne e rfl), fun e => h.h2 (upd_ne e rfl), fun e => h.h3 (upd_ne e rfl), fun _ => hv, fun e => h.h5 (upd_ne e rfl), fun e => h.h6 (upd_ne e rfl), fun e => h.h7 (upd_ne e rfl), fun e => h.s0 (upd_f e), fun e => h.s1 (upd_f e), h.s2⟩
theorem J12.p5 (h : J12 w R P g5 L x53 x54 x55 x56 x57 x58 x59 x60 wx) {v : Value} (hv : v = .pointer (some ⟨R, 0, none⟩)) : J12 w R P g5 (upd L 5) x53 x54 x55 x56 x57 v x59 x60 wx :=
  ⟨fun e => h.h0 (upd_ne e rfl), fun e => h.h1 (upd_ne e rfl), fun e => h.h2 (upd_ne e rfl), fun e => h.h3 (upd_ne e rfl), fun e => h.h4 (upd_ne e rfl), fun _ => hv, fun e => h.h6 (upd_ne e rfl), fun e => h.h7 (upd_ne e rfl), fun e => h.s0 (upd_f e), fun e => h.s1 (upd_f e), h.s2⟩
theorem J12.p7 (h : J12 w R P g5 L x53 x54 x55 x56 x57 x58 x59 x60 wx) {v : Value} (hv : ∃ k a b c : Int, v = .agg #[.int .i64 k, .int .i64 a, .int .i64 b, .int .i64 c]) : J12 w R P g5 (upd L 7) x53 x54 x55 x56 x57 x58 x59 v wx :=
  ⟨fun e => h.h0 (upd_ne e rfl), fun e => h.h1 (upd_ne e rfl), fun e => h.h2 (upd_ne e rfl), fun e => h.h3 (upd_ne e rfl), fun e => h.h4 (upd_ne e rfl), fun e => h.h5 (upd_ne e rfl), fun e => h.h6 (upd_ne e rfl), fun _ => hv, fun e => h.s0 (upd_f e), fun e => h.s1 (upd_f e), h.s2⟩
theorem J12.pick2 (h : J12 w R P g5 L x53 x54 x55 x56 x57 x58 x59 x60 wx) (hL : L 2 = false) {r : Nat} (hr3 : r < 3) {wy : World} (hr : RdB wy R (P + 1)) (hg : wx.grownBy wy (some R)) : J12 w R P g5 (upd L 2) x53 x54 (.int .i64 (r : Nat)) x56 x57 x58 x59 x60 wy := by
  have hl := h.s2.s.lo
  refine ⟨fun e => ?_, fun e => h.h1 (upd_ne e rfl), fun _ => ⟨_, rfl, hr3⟩, fun e => ?_, fun e => h.h4 (upd_ne e rfl), fun e => h.h5 (upd_ne e rfl), fun e => h.h6 (upd_ne e rfl), fun e => h.h7 (upd_ne e rfl), fun e => by simp [upd] at e, fun e => (h.s0 hL).pick hr hg, ((h.s0 hL).pick hr hg).mono (by omega)⟩
  · obtain ⟨b, e1, l1, n1, hc⟩ := h.h0 (upd_ne e rfl)
    exact ⟨b, e1, l1, n1, fun t ht => by obtain ⟨z, hz⟩ := hc t ht; exact ⟨z, hg.cell hz (by simp; omega)⟩⟩
  · obtain ⟨b, t, z, e1, l1, n1, hz⟩ := h.h3 (upd_ne e rfl)
    exact ⟨b, t, z, e1, l1, n1, hg.cell hz (by simp; omega)⟩
theorem J12.pick6 (h : J12 w R P g5 L x53 x54 x55 x56 x57 x58 x59 x60 wx) (h2 : L 2 = true) (hL : L 6 = false) {r : Nat} (hr3 : r < 3) {wy : World} (hr : RdB wy R (P + 2)) (hg : wx.grownBy wy (some R)) : J12 w R P g5 (upd L 6) x53 x54 x55 x56 x57 x58 (.int .i64 (r : Nat)) x60 wy := by
  have hl := h.s2.s.lo
  refine ⟨fun e => ?_, fun e => h.h1 (upd_ne e rfl), fun e => h.h2 (upd_ne e rfl), fun e => ?_, fun e => h.h4 (upd_ne e rfl), fun e => h.h5 (upd_ne e rfl), fun _ => ⟨_, rfl⟩, fun e => h.h7 (upd_ne e rfl), fun e => absurd h2 (by simp [upd_f e]), fun e => by simp [upd] at e, (h.s1 hL).pick hr hg⟩
  · obtain ⟨b, e1, l1, n1, hc⟩ := h.h0 (upd_ne e rfl)
    exact ⟨b, e1, l1, n1, fun t ht => by obtain ⟨z, hz⟩ := hc t ht; exact ⟨z, hg.cell hz (by simp; omega)⟩⟩
  · obtain ⟨b, t, z, e1, l1, n1, hz⟩ := h.h3 (upd_ne e rfl)
    exact ⟨b, t, z, e1, l1, n1, hg.cell hz (by simp; omega)⟩
theorem J12.new (h : J12 w R P g5 L x53 x54 x55 x56 x57 x58 x59 x60 wx) (a b d : Int) : J12 w R P g5 (upd L 0) (.slice (some ⟨wx.heap.size, 0, none⟩) 3 3) x54 x55 x56 x57 x58 x59 x60 (wx.alloc (.cells #[.int .i64 a, .int .i64 b, .int .i64 d] 3)) := by
  have h5 := h.s2.lt5
  have hl := h.s2.s.size
  refine ⟨fun _ => ?_, fun e => h.h1 (upd_ne e rfl), fun e => h.h2 (upd_ne e rfl), fun e => ?_, fun e => h.h4 (upd_ne e rfl), fun e => h.h5 (upd_ne e rfl), fun e => h.h6 (upd_ne e rfl), fun e => h.h7 (upd_ne e rfl), fun e => (h.s0 (upd_f e)).alloc _, fun e => (h.s1 (upd_f e)).alloc _, h.s2.alloc _⟩
  · refine ⟨_, rfl, hl, by omega, fun t ht => ?_⟩
    rcases (show t = 0 ∨ t = 1 ∨ t = 2 by omega) with rfl | rfl | rfl <;> exact ⟨_, cell_at rfl rfl⟩
  · obtain ⟨b, t, z, e1, l1, n1, hz⟩ := h.h3 (upd_ne e rfl)
    exact ⟨b, t, z, e1, l1, n1, cell_old hz⟩
theorem J12.store (h : J12 w R P g5 L x53 x54 x55 x56 x57 x58 x59 x60 wx) (k a b d : Int) : J12 w R P g5 (upd L 8) x53 x54 x55 x56 x57 x58 x59 x60 ((((wx.setCell ⟨g5, 0, none⟩ (.int .i64 k)).setCell ⟨g5, 1, none⟩ (.int .i64 a)).setCell ⟨g5, 2, none⟩ (.int .i64 b)).setCell ⟨g5, 3, none⟩ (.int .i64 d)) := by
  have hg := put4_grown wx g5 (.int .i64 k) (.int .i64 a) (.int .i64 b) (.int .i64 d)
  refine ⟨fun e => ?_, fun e => h.h1 (upd_ne e rfl), fun e => h.h2 (upd_ne e rfl), fun e => ?_, fun e => h.h4 (upd_ne e rfl), fun e => h.h5 (upd_ne e rfl), fun e => h.h6 (upd_ne e rfl), fun e => h.h7 (upd_ne e rfl), fun e => (h.s0 (upd_f e)).put _ _ _ _, fun e => (h.s1 (upd_f e)).put _ _ _ _, h.s2.put _ _ _ _⟩
  · obtain ⟨b, e1, l1, n1, hc⟩ := h.h0 (upd_ne e rfl)
    exact ⟨b, e1, l1, n1, fun t ht => by obtain ⟨z, hz⟩ := hc t ht; exact ⟨z, hg.cell hz (by simpa using n1)⟩⟩
  · obtain ⟨b, t, z, e1, l1, n1, hz⟩ := h.h3 (upd_ne e rfl)
    exact ⟨b, t, z, e1, l1, n1, hg.cell hz (by simpa using n1)⟩
end
set_option maxRecDepth 100000 in
set_option maxHeartbeats 16000000 in
theorem l20Gate_b (R p : Nat) (l : Int) (M : Int) (w : World) (h : RdB w R p) (hp : p ≤ 100000) (hl : 1 ≤ l ∧ l ≤ 8) (hM : 0 ≤ M ∧ M ≤ 1000) :
    Calls Try.prog 74 #[.pointer (some ⟨R, 0, none⟩), .int .i64 l, .int .i64 M] w (DrawnGate w R (p + 20)) := by
  obtain ⟨hM0, hM1⟩ := hM
  have S0 : Hid (GS0 w R p (w.alloc (.cells #[.int .i64 0, .int .i64 0, .int .i64 0, .int .i64 0] 33))) :=
    ⟨h.lt, Box4.made w 0 0 0 0 _, Free.made w _ _, rd_alloc h _, World.grownBy_alloc _ _ _⟩
  have hlt := h.lt
  clear h
  obtain ⟨m, hm3, hm8, hmax⟩ : ∃ m : Nat, 3 ≤ m ∧ m ≤ 8 ∧ (if l < 3 then (3 : Int) else l) = (m : Int) := by
    by_cases h3 : l < 3
    · exact ⟨3, by omega, by omega, by rw [if_pos h3]; rfl⟩
    · exact ⟨l.toNat, by omega, by omega, by rw [if_neg h3]; omega⟩
  obtain ⟨hl1, hl8⟩ := hl
  go_enter Try.func74, Try.ntmps74
  go_wp2_with fail
  have S1 := hide (S0.out.alloc (.cells #[] 3))
  have O1 : Hid (Own ((w.alloc (.cells #[.int .i64 0, .int .i64 0, .int .i64 0, .int .i64 0] 33)).alloc (.cells #[] 3)) (w.heap.size + 1) (.slice (some ⟨w.heap.size + 1, 0, none⟩) 0 0) []) := by
    have := Own.nil0 (w.alloc (.cells #[.int .i64 0, .int .i64 0, .int .i64 0, .int .i64 0] 33)) (w.heap.size + 1) (by simp)
    rwa [World.size_alloc] at this
  go_loopw [7, 8] (fun vv kv wr => ∃ (g c j : Nat) (zs : List Int), vv = .slice (some ⟨g, 0, none⟩) j c ∧ j ≤ m ∧ j ≤ c ∧ kv = .int .i64 j ∧ Hid (zs.length = j) ∧ Hid (Own wr (w.heap.size + 1) vv zs) ∧ Hid (GS0 w R (p + j) wr)) (fun _ kv _ => m - (intOf kv).toNat)
  case atStart => exact ⟨w.heap.size + 1, 0, 0, [], rfl, by omega, by omega, rfl, rfl, O1.out, S1.out⟩
  case round =>
    obtain ⟨g, c, j, zs, rfl, hj, hjc, rfl, HLen, HO, HS⟩ := hrel
    by_cases hlt2 : j < m
    · have hlt3 : (j : Int) < (if l < 3 then (3 : Int) else l) := by rw [hmax]; omega
      have hO := HO.out.lt
      have hg0 := hO g rfl
      clear hO
      go_wp2_with fail
      refine (pick_b R (p + j) ((j : Int) + 1) _ HS.out.rd (by omega) (by omega)).mono ?_
      rintro e w1 ⟨r, rfl, a1, b1, _, hr, hg⟩
      have c1 := b1 (by omega)
      obtain ⟨t, rfl⟩ := Int.eq_ofNat_of_zero_le a1
      have htj : t ≤ j := by omega
      have S2 := hide (HS.out.pick hr hg)
      have O2 := hide (HO.out.kept hg (own_ne HO.out (by omega)))
      have hs1 := hg.size
      obtain ⟨a0, ha0⟩ : ∃ a0 : Nat, (if t = c then 0 else t) = a0 := ⟨_, rfl⟩
      have T2 := hide ((O2.out.alloc (.cells #[] 3)).ir.dropA htj hjc)
      have E2 := hide (Own.nil0 w1 w1.heap.size (Nat.le_refl _))
      have S2' := hide (S2.out.alloc (.cells #[] 3))
      have hsl1 := run_from g j c t htj hjc
      rw [ha0] at T2
      simp only [ha0] at hsl1
      clear ha0
      have hsl2 := fun wx => run_take g 0 j c t (by omega) wx
      have hlz := HLen.out
      have HTk := hide (show (zs.take t).length = t by simp; omega)
      have HDr := hide (show (zs.drop t).length = j - t by simp; omega)
      have hsz := S2.out.size
      clear hr hg b1 c1 a1 hlz
      go_wp2_with (first
        | (at_builtin; refine wpList_append_ints E2.out T2.out (.tmp 23) (.tmp 26) (by rfl) rfl rfl rfl (by have := HDr.out; simp only [List.length_nil]; omega) (by simp) ?_; intro v3 w3 ho3 hg3 _; obtain ⟨A3, n3, c3, rfl, hr3⟩ := ho3.slice'; have O3 := hide ((O2.out.alloc (.cells #[] 3)).kept hg3 (by right; simp [Value.ownBlock]; omega)); have S3 := hide (S2'.out.step hg3 (by simp [Value.ownBlock]; omega)); have P3 := hide ho3; have hs3 := S3.out.size; have hw3 := hg3.size; clear ho3 hg3 hr3)
        | (at_builtin; refine wpList_append1 (O3.out.take HLen.out t htj) (.tmp 30) (.tmp 32) (by rfl) rfl rfl rfl (by have := HTk.out; omega) hs3 ?_; intro v4 w4 ho4 hb4 hg4 hat4; have P4 := hide (P3.out.kept hg4 (ne_row2 P3.out.lt (by simp [Value.ownBlock]; omega))); have S4 := hide (S3.out.step hg4 (by simp [Value.ownBlock]; omega)); have O4 := hide ho4; have hs4 := S4.out.size; clear hg4 hb4 hat4 ho4)
        | (at_builtin; refine wpList_append_ints O4.out P4.out.ir (.tmp 33) (.tmp 34) (by rfl) rfl rfl rfl (by have := HTk.out; have := HDr.out; simp only [List.length_append, List.length_cons, List.length_nil]; omega) hs4 ?_; intro v5 w5 ho5 hg5 _; have O5 := hide ho5; have S5 := hide (S4.out.step hg5 (fun x hx => (O4.out.lt x hx).1)); clear ho5 hg5))
      have HL5 := Lib.hid (show ((zs.take t ++ [(j : Int)]) ++ ([] ++ zs.drop t)).length = j + 1 by have := HTk.out; have := HDr.out; simp only [List.length_append, List.length_nil, List.length_cons]; omega)
      rcases O5.out.form with ⟨_, h0⟩ | ⟨g5, c5, rfl, _, _, hc5, _⟩
      · have := HL5.out
        rw [h0] at this
        simp at this
      · have HL5' := HL5.out
        have O5' := O5.out
        rw [HL5'] at O5' hc5 ⊢
        clear HL5'
        go_roundw
        case rel => exact ⟨g5, c5, j + 1, _, rfl, by omega, hc5, by go_num, HL5.out, O5', S5.out⟩
        case measure => simp [intOf]; omega
    · obtain rfl : j = m := by omega
      have hlt3 : ¬ (j : Int) < (if l < 3 then (3 : Int) else l) := by rw [hmax]; omega
      have hO := HO.out.lt
      have hg0 := (hO g rfl).2
      have hsz := HS.out.size
      obtain ⟨bb, oo, he, _, hcc⟩ := HO.out.ir.at_ (by omega)
      simp only [Option.some.injEq, Addr.mk.injEq, and_true] at he
      obtain ⟨rfl, rfl⟩ := he
      have o0 := hcc 0 (by omega)
      have o1 := hcc 1 (by omega)
      have o2 := hcc 2 (by omega)
      simp only [Nat.zero_add] at o0 o1 o2
      have hjm : (0 : Int) < j := by omega
      have hR2 : g ≠ R := by have := (hO g rfl).1; omega
      have hR1 : some g ≠ some R := by simpa using hR2
      clear hO hcc
      go_upto_region 8 with fail
      go_cut [11] from 36 to 47 (fun pv wx => ∃ g5 : Nat, pv = .pointer (some ⟨g5, 0, none⟩) ∧ Hid (GSt w R (p + j + 1) g5 wx))
      case first =>
        refine wp_frame fun a0 ha0 => ?_
        have HA := Lib.hid ha0
        clear ha0
        refine wp_region_inv (fun L a wx => ∃ x36 x37 x38 x39 x40 x41 x42 x43 x44 x45 x46 x47 x11, a = putL a0 [(36, x36), (37, x37), (38, x38), (39, x39), (40, x40), (41, x41), (42, x42), (43, x43), (44, x44), (45, x45), (46, x46), (47, x47), (11, x11)] ∧ Hid (J8 w R (p + j) g j c (nth zs 0) (nth zs 1) (nth zs 2) L x36 x37 x38 x39 x40 x41 x42 x43 x44 x45 x46 x47 x11 wx)) (by kernel_rfl) (by kernel_rfl) ?_ ?_ ?_
        · exact ⟨_, _, _, _, _, _, _, _, _, _, _, _, _, putL_self a0 [36, 37, 38, 39, 40, 41, 42, 43, 44, 45, 46, 47, 11], hide (J8.start HS.out.drew hR2 o0 o1 o2)⟩
        · refine ⟨?_, ?_, ?_, ?_, ?_, ?_, ?_, ?_, ?_, ?_, ?_, ?_, ?_, ?_, trivial⟩
          · intro L a wx _ hd
            rintro ⟨x36, x37, x38, x39, x40, x41, x42, x43, x44, x45, x46, x47, x11, rfl, HJ⟩
            have hD := hd
            simp [deps, Region.binds] at hD
            rw [← HA.out]
            simp only [putL, List.setIfInBounds_toArray, List.set_cons_succ, List.set_cons_zero]
            go_wp2_with fail
            refine ⟨_, _, _, _, _, _, _, _, _, _, _, _, _, ?_, hide (HJ.out.p0 rfl)⟩
            · try rw [← HA.out]
              try simp only [putL, List.setIfInBounds_toArray, List.set_cons_succ, List.set_cons_zero]
          · intro L a wx _ hd
            rintro ⟨x36, x37, x38, x39, x40, x41, x42, x43, x44, x45, x46, x47, x11, rfl, HJ⟩
            have hD := hd
            simp [deps, Region.binds] at hD
            obtain rfl := HJ.out.h0 (by simp [hD])
            clear hD hd
            rw [← HA.out]
            simp only [putL, List.setIfInBounds_toArray, List.set_cons_succ, List.set_cons_zero]
            go_wp2_with fail
            refine (pick_b R (p + j) 5 _ (HJ.out.s0 ‹_›).rd (by omega) (by omega)).mono ?_
            rintro e w1 ⟨r, rfl, _, _, _, hr, hg⟩
            have HJ2 := hide (HJ.out.pick (r := r) hr hg)
            clear hr hg
            go_wp2_with fail
            refine ⟨_, _, _, _, _, _, _, _, _, _, _, _, _, ?_, hide (HJ2.out)⟩
            · try rw [← HA.out]
              try simp only [putL, List.setIfInBounds_toArray, List.set_cons_succ, List.set_cons_zero]
          · intro L a wx _ hd
            rintro ⟨x36, x37, x38, x39, x40, x41, x42, x43, x44, x45, x46, x47, x11, rfl, HJ⟩
            have hD := hd
            simp [deps, Region.binds] at hD
            rw [← HA.out]
            simp only [putL, List.setIfInBounds_toArray, List.set_cons_succ, List.set_cons_zero]
            go_wp2_with fail
            refine ⟨_, _, _, _, _, _, _, _, _, _, _, _, _, ?_, hide (HJ.out.p2 rfl)⟩
            · try rw [← HA.out]
              try simp only [putL, List.setIfInBounds_toArray, List.set_cons_succ, List.set_cons_zero]
          · intro L a wx _ hd
            rintro ⟨x36, x37, x38, x39, x40, x41, x42, x43, x44, x45, x46, x47, x11, rfl, HJ⟩
            have hD := hd
            simp [deps, Region.binds] at hD
            obtain rfl := HJ.out.h2 (by simp [hD])
            clear hD hd
            rw [← HA.out]
            simp only [putL, List.setIfInBounds_toArray, List.set_cons_succ, List.set_cons_zero]
            have hj0 : (0 : Int) < j := by omega
            go_wp2_with fail
            refine ⟨_, _, _, _, _, _, _, _, _, _, _, _, _, ?_, hide (HJ.out.p3 rfl)⟩
            · try rw [← HA.out]
              try simp only [putL, List.setIfInBounds_toArray, List.set_cons_succ, List.set_cons_zero]
          · intro L a wx _ hd
            rintro ⟨x36, x37, x38, x39, x40, x41, x42, x43, x44, x45, x46, x47, x11, rfl, HJ⟩
            have hD := hd
            simp [deps, Region.binds] at hD
            obtain rfl := HJ.out.h3 (by simp [hD])
            clear hD hd
            have oo := HJ.out.o0
            rw [← HA.out]
            simp only [putL, List.setIfInBounds_toArray, List.set_cons_succ, List.set_cons_zero]
            go_wp2_with fail
            refine ⟨_, _, _, _, _, _, _, _, _, _, _, _, _, ?_, hide (HJ.out.p4 ⟨nth zs 0, rfl⟩)⟩
            · try rw [← HA.out]
              try simp only [putL, List.setIfInBounds_toArray, List.set_cons_succ, List.set_cons_zero]
          · intro L a wx _ hd
            rintro ⟨x36, x37, x38, x39, x40, x41, x42, x43, x44, x45, x46, x47, x11, rfl, HJ⟩
            have hD := hd
            simp [deps, Region.binds] at hD
            rw [← HA.out]
            simp only [putL, List.setIfInBounds_toArray, List.set_cons_succ, List.set_cons_zero]
            go_wp2_with fail
            refine ⟨_, _, _, _, _, _, _, _, _, _, _, _, _, ?_, hide (HJ.out.p5 rfl)⟩
            · try rw [← HA.out]
              try simp only [putL, List.setIfInBounds_toArray, List.set_cons_succ, List.set_cons_zero]
          · intro L a wx _ hd
            rintro ⟨x36, x37, x38, x39, x40, x41, x42, x43, x44, x45, x46, x47, x11, rfl, HJ⟩
            have hD := hd
            simp [deps, Region.binds] at hD
            obtain rfl := HJ.out.h5 (by simp [hD])
            clear hD hd
            rw [← HA.out]
            simp only [putL, List.setIfInBounds_toArray, List.set_cons_succ, List.set_cons_zero]
            have hj1 : (1 : Int) < j := by omega
            go_wp2_with fail
            refine ⟨_, _, _, _, _, _, _, _, _, _, _, _, _, ?_, hide (HJ.out.p6 rfl)⟩
            · try rw [← HA.out]
              try simp only [putL, List.setIfInBounds_toArray, List.set_cons_succ, List.set_cons_zero]
          · intro L a wx _ hd
            rintro ⟨x36, x37, x38, x39, x40, x41, x42, x43, x44, x45, x46, x47, x11, rfl, HJ⟩
            have hD := hd
            simp [deps, Region.binds] at hD
            obtain rfl := HJ.out.h6 (by simp [hD])
            clear hD hd
            have oo := HJ.out.o1
            rw [← HA.out]
            simp only [putL, List.setIfInBounds_toArray, List.set_cons_succ, List.set_cons_zero]
            go_wp2_with fail
            refine ⟨_, _, _, _, _, _, _, _, _, _, _, _, _, ?_, hide (HJ.out.p7 ⟨nth zs 1, rfl⟩)⟩
            · try rw [← HA.out]
              try simp only [putL, List.setIfInBounds_toArray, List.set_cons_succ, List.set_cons_zero]
          · intro L a wx _ hd
            rintro ⟨x36, x37, x38, x39, x40, x41, x42, x43, x44, x45, x46, x47, x11, rfl, HJ⟩
            have hD := hd
            simp [deps, Region.binds] at hD
            rw [← HA.out]
            simp only [putL, List.setIfInBounds_toArray, List.set_cons_succ, List.set_cons_zero]
            go_wp2_with fail
            refine ⟨_, _, _, _, _, _, _, _, _, _, _, _, _, ?_, hide (HJ.out.p8 rfl)⟩
            · try rw [← HA.out]
              try simp only [putL, List.setIfInBounds_toArray, List.set_cons_succ, List.set_cons_zero]
          · intro L a wx _ hd
            rintro ⟨x36, x37, x38, x39, x40, x41, x42, x43, x44, x45, x46, x47, x11, rfl, HJ⟩
            have hD := hd
            simp [deps, Region.binds] at hD
            obtain rfl := HJ.out.h8 (by simp [hD])
            clear hD hd
            rw [← HA.out]
            simp only [putL, List.setIfInBounds_toArray, List.set_cons_succ, List.set_cons_zero]
            have hj2 : (2 : Int) < j := by omega
            go_wp2_with fail
            refine ⟨_, _, _, _, _, _, _, _, _, _, _, _, _, ?_, hide (HJ.out.p9 rfl)⟩
            · try rw [← HA.out]
              try simp only [putL, List.setIfInBounds_toArray, List.set_cons_succ, List.set_cons_zero]
          · intro L a wx _ hd
            rintro ⟨x36, x37, x38, x39, x40, x41, x42, x43, x44, x45, x46, x47, x11, rfl, HJ⟩
            have hD := hd
            simp [deps, Region.binds] at hD
            obtain rfl := HJ.out.h9 (by simp [hD])
            clear hD hd
            have oo := HJ.out.o2
            rw [← HA.out]
            simp only [putL, List.setIfInBounds_toArray, List.set_cons_succ, List.set_cons_zero]
            go_wp2_with fail
            refine ⟨_, _, _, _, _, _, _, _, _, _, _, _, _, ?_, hide (HJ.out.p10 ⟨nth zs 2, rfl⟩)⟩
            · try rw [← HA.out]
              try simp only [putL, List.setIfInBounds_toArray, List.set_cons_succ, List.set_cons_zero]
          · intro L a wx _ hd
            rintro ⟨x36, x37, x38, x39, x40, x41, x42, x43, x44, x45, x46, x47, x11, rfl, HJ⟩
            have hD := hd
            simp [deps, Region.binds] at hD
            obtain ⟨r1, rfl⟩ := HJ.out.h1 (by simp [hD])
            obtain ⟨r2, rfl⟩ := HJ.out.h4 (by simp [hD])
            obtain ⟨r3, rfl⟩ := HJ.out.h7 (by simp [hD])
            obtain ⟨r4, rfl⟩ := HJ.out.h10 (by simp [hD])
            clear hD hd
            rw [← HA.out]
            simp only [putL, List.setIfInBounds_toArray, List.set_cons_succ, List.set_cons_zero]
            go_wp2_with fail
            refine ⟨_, _, _, _, _, _, _, _, _, _, _, _, _, ?_, hide (HJ.out.p11 ⟨r1, r2, r3, r4, rfl⟩)⟩
            · try rw [← HA.out]
              try simp only [putL, List.setIfInBounds_toArray, List.set_cons_succ, List.set_cons_zero]
          · intro L a wx _ hd
            rintro ⟨x36, x37, x38, x39, x40, x41, x42, x43, x44, x45, x46, x47, x11, rfl, HJ⟩
            have hD := hd
            simp [deps, Region.binds] at hD
            rw [← HA.out]
            simp only [putL, List.setIfInBounds_toArray, List.set_cons_succ, List.set_cons_zero]
            go_wp2_with fail
            refine ⟨_, _, _, _, _, _, _, _, _, _, _, _, _, ?_, hide (HJ.out.new)⟩
            · try rw [← HA.out]
              try simp only [putL, List.setIfInBounds_toArray, List.set_cons_succ, List.set_cons_zero]
          · intro L a wx _ hd
            rintro ⟨x36, x37, x38, x39, x40, x41, x42, x43, x44, x45, x46, x47, x11, rfl, HJ⟩
            have hD := hd
            simp [deps, Region.binds] at hD
            obtain ⟨r1, r2, r3, r4, rfl⟩ := HJ.out.h11 (by simp [hD])
            have hL12 : L 12 = true := by simp [hD]
            obtain ⟨g5, rfl, l5, n5, ⟨k, a, b, d, y0, y1, y2, y3⟩, fx⟩ := HJ.out.h12 hL12
            have HJ2 := hide (HJ.out.store (k := r1) (a := r2) (b := r3) (d := r4) hL12 rfl)
            unfold Free at fx
            clear hD hd
            rw [← HA.out]
            simp only [putL, List.setIfInBounds_toArray, List.set_cons_succ, List.set_cons_zero]
            go_wp2_with fail
            refine ⟨_, _, _, _, _, _, _, _, _, _, _, _, _, ?_, hide (HJ2.out)⟩
            · try rw [← HA.out]
              try simp only [putL, List.setIfInBounds_toArray, List.set_cons_succ, List.set_cons_zero]
        · intro L a wx hall
          rintro ⟨x36, x37, x38, x39, x40, x41, x42, x43, x44, x45, x46, x47, x11, rfl, HJ⟩
          obtain ⟨g5, rfl, l5, n5, hb5, hf5⟩ := HJ.out.h12 (hall 12 (by decide))
          rw [← HA.out]
          simp only [putL, List.setIfInBounds_toArray, List.set_cons_succ, List.set_cons_zero]
          have HG := hide (show GSt w R (p + j + 1) g5 wx from ⟨HJ.out.s1, l5, hb5, hf5⟩)
          clear hb5 hf5
          go_wp2_with fail
          go_meet
          exact ⟨g5, rfl, HG⟩
      case rest =>
        obtain ⟨g5, rfl, S0c⟩ := hcut
        clear o0 o1 o2 hR1 hjm
        go_upto_if 49 with fail
        go_cut [] from 48 to 50 (fun wx => Hid (GSt w R (p + j + 1) g5 wx))
        case first =>
          obtain ⟨k0, a0, b0, c0, y0, y1, y2, y3⟩ := S0c.out.b5
          have fx := S0c.out.f5
          unfold Free at fx
          by_cases hl1' : l = 1
          · subst hl1'
            go_wp2_with fail
            go_meet
            exact hide (S0c.out.put _ _ _ _)
          · have e1 : (l == 1) = false := by simpa using hl1'
            go_wp2_with fail
            go_meet
            exact S0c
        case rest =>
        have S2 := hcut
        clear hcut S0c
        go_upto_if 52 with fail
        go_cut [] from 51 to 64 (fun wx => Hid (GSt w R (p + j + 3) g5 wx))
        case first =>
          by_cases hl2' : l = 2
          · subst hl2'
            go_wp2_with fail
            refine wp_frame fun a0 ha0 => ?_
            have HA := Lib.hid ha0
            clear ha0
            refine wp_region_inv (fun L a wx => ∃ x53 x54 x55 x56 x57 x58 x59 x60, a = putL a0 [(53, x53), (54, x54), (55, x55), (56, x56), (57, x57), (58, x58), (59, x59), (60, x60)] ∧ Hid (J12 w R (p + j + 1) g5 L x53 x54 x55 x56 x57 x58 x59 x60 wx)) (by kernel_rfl) (by kernel_rfl) ?_ ?_ ?_
            · exact ⟨_, _, _, _, _, _, _, _, putL_self a0 [53, 54, 55, 56, 57, 58, 59, 60], hide (J12.start S2.out.drew)⟩
            · refine ⟨?_, ?_, ?_, ?_, ?_, ?_, ?_, ?_, ?_, trivial⟩
              · intro L a wx hL0 hd
                rintro ⟨x53, x54, x55, x56, x57, x58, x59, x60, rfl, HJ⟩
                have hD := hd
                simp [deps, Region.binds] at hD
                rw [← HA.out]
                simp only [putL, List.setIfInBounds_toArray, List.set_cons_succ, List.set_cons_zero]
                go_wp2_with fail
                refine ⟨_, _, _, _, _, _, _, _, ?_, hide (HJ.out.new 0 1 3)⟩
                · try rw [← HA.out]
                  try simp only [putL, List.setIfInBounds_toArray, List.set_cons_succ, List.set_cons_zero]
              · intro L a wx hL0 hd
                rintro ⟨x53, x54, x55, x56, x57, x58, x59, x60, rfl, HJ⟩
                have hD := hd
                simp [deps, Region.binds] at hD
                rw [← HA.out]
                simp only [putL, List.setIfInBounds_toArray, List.set_cons_succ, List.set_cons_zero]
                go_wp2_with fail
                refine ⟨_, _, _, _, _, _, _, _, ?_, hide (HJ.out.p1 rfl)⟩
                · try rw [← HA.out]
                  try simp only [putL, List.setIfInBounds_toArray, List.set_cons_succ, List.set_cons_zero]
              · intro L a wx hL0 hd
                rintro ⟨x53, x54, x55, x56, x57, x58, x59, x60, rfl, HJ⟩
                have hD := hd
                simp [deps, Region.binds] at hD
                obtain rfl := HJ.out.h1 (by simp [hD])
                clear hD hd
                rw [← HA.out]
                simp only [putL, List.setIfInBounds_toArray, List.set_cons_succ, List.set_cons_zero]
                go_wp2_with fail
                refine (pick_b R (p + j + 1) 3 _ (HJ.out.s0 hL0).s.rd (by omega) (by omega)).mono ?_
                rintro e w1 ⟨r, rfl, r1, r2, _, hr, hg⟩
                obtain ⟨t, rfl⟩ := Int.eq_ofNat_of_zero_le r1
                have HJ2 := hide (HJ.out.pick2 hL0 (r := t) (by have := r2 (by omega); omega) hr hg)
                clear hr hg r1 r2
                go_wp2_with fail
                refine ⟨_, _, _, _, _, _, _, _, ?_, hide (HJ2.out)⟩
                · try rw [← HA.out]
                  try simp only [putL, List.setIfInBounds_toArray, List.set_cons_succ, List.set_cons_zero]
              · intro L a wx hL0 hd
                rintro ⟨x53, x54, x55, x56, x57, x58, x59, x60, rfl, HJ⟩
                have hD := hd
                simp [deps, Region.binds] at hD
                obtain ⟨b, rfl, l1, n1, hc⟩ := HJ.out.h0 (by simp [hD])
                obtain ⟨t, rfl, ht⟩ := HJ.out.h2 (by simp [hD])
                have HC := hide (hc t ht)
                clear hc hD hd
                rw [← HA.out]
                simp only [putL, List.setIfInBounds_toArray, List.set_cons_succ, List.set_cons_zero]
                go_wp2_with fail
                obtain ⟨z, hz⟩ := HC.out
                refine ⟨_, _, _, _, _, _, _, _, ?_, hide (HJ.out.p3 ⟨b, t, z, rfl, l1, n1, hz⟩)⟩
                · try rw [← HA.out]
                  try simp only [putL, List.setIfInBounds_toArray, List.set_cons_succ, List.set_cons_zero]
              · intro L a wx hL0 hd
                rintro ⟨x53, x54, x55, x56, x57, x58, x59, x60, rfl, HJ⟩
                have hD := hd
                simp [deps, Region.binds] at hD
                obtain ⟨b, t, z, rfl, l1, n1, hz⟩ := HJ.out.h3 (by simp [hD])
                clear hD hd
                rw [← HA.out]
                simp only [putL, List.setIfInBounds_toArray, List.set_cons_succ, List.set_cons_zero]
                go_wp2_with fail
                refine ⟨_, _, _, _, _, _, _, _, ?_, hide (HJ.out.p4 ⟨z, rfl⟩)⟩
                · try rw [← HA.out]
                  try simp only [putL, List.setIfInBounds_toArray, List.set_cons_succ, List.set_cons_zero]
              · intro L a wx hL0 hd
                rintro ⟨x53, x54, x55, x56, x57, x58, x59, x60, rfl, HJ⟩
                have hD := hd
                simp [deps, Region.binds] at hD
                rw [← HA.out]
                simp only [putL, List.setIfInBounds_toArray, List.set_cons_succ, List.set_cons_zero]
                go_wp2_with fail
                refine ⟨_, _, _, _, _, _, _, _, ?_, hide (HJ.out.p5 rfl)⟩
                · try rw [← HA.out]
                  try simp only [putL, List.setIfInBounds_toArray, List.set_cons_succ, List.set_cons_zero]
              · intro L a wx hL0 hd
                rintro ⟨x53, x54, x55, x56, x57, x58, x59, x60, rfl, HJ⟩
                have hD := hd
                simp [deps, Region.binds] at hD
                obtain rfl := HJ.out.h5 (by simp [hD])
                have h2 : L 2 = true := by simp [hD]
                clear hD hd
                rw [← HA.out]
                simp only [putL, List.setIfInBounds_toArray, List.set_cons_succ, List.set_cons_zero]
                go_wp2_with fail
                refine (pick_b R (p + j + 1 + 1) 2 _ (HJ.out.s1 hL0).s.rd (by omega) (by omega)).mono ?_
                rintro e w1 ⟨r, rfl, r1, r2, _, hr, hg⟩
                obtain ⟨t, rfl⟩ := Int.eq_ofNat_of_zero_le r1
                have HJ2 := hide (HJ.out.pick6 h2 hL0 (r := t) (by have := r2 (by omega); omega) hr hg)
                clear hr hg r1 r2
                go_wp2_with fail
                refine ⟨_, _, _, _, _, _, _, _, ?_, hide (HJ2.out)⟩
                · try rw [← HA.out]
                  try simp only [putL, List.setIfInBounds_toArray, List.set_cons_succ, List.set_cons_zero]
              · intro L a wx hL0 hd
                rintro ⟨x53, x54, x55, x56, x57, x58, x59, x60, rfl, HJ⟩
                have hD := hd
                simp [deps, Region.binds] at hD
                obtain ⟨r1, rfl⟩ := HJ.out.h4 (by simp [hD])
                obtain ⟨r2, rfl⟩ := HJ.out.h6 (by simp [hD])
                clear hD hd
                rw [← HA.out]
                simp only [putL, List.setIfInBounds_toArray, List.set_cons_succ, List.set_cons_zero]
                go_wp2_with fail
                refine ⟨_, _, _, _, _, _, _, _, ?_, hide (HJ.out.p7 ⟨r1, r2, 0, 0, rfl⟩)⟩
                · try rw [← HA.out]
                  try simp only [putL, List.setIfInBounds_toArray, List.set_cons_succ, List.set_cons_zero]
              · intro L a wx hL0 hd
                rintro ⟨x53, x54, x55, x56, x57, x58, x59, x60, rfl, HJ⟩
                have hD := hd
                simp [deps, Region.binds] at hD
                obtain ⟨k, a, b, d, rfl⟩ := HJ.out.h7 (by simp [hD])
                obtain ⟨k0, a0_, b0, d0, y0, y1, y2, y3⟩ := HJ.out.s2.b5
                have fx := HJ.out.s2.f5
                unfold Free at fx
                clear hD hd
                rw [← HA.out]
                simp only [putL, List.setIfInBounds_toArray, List.set_cons_succ, List.set_cons_zero]
                go_wp2_with fail
                refine ⟨_, _, _, _, _, _, _, _, ?_, hide (HJ.out.store k a b d)⟩
                · try rw [← HA.out]
                  try simp only [putL, List.setIfInBounds_toArray, List.set_cons_succ, List.set_cons_zero]
            · intro L a wx hall
              rintro ⟨x53, x54, x55, x56, x57, x58, x59, x60, rfl, HJ⟩
              rw [← HA.out]
              simp only [putL, List.setIfInBounds_toArray, List.set_cons_succ, List.set_cons_zero]
              have S3 := hide HJ.out.s2
              obtain ⟨k1, a1, b1, c1, y0, y1, y2, y3⟩ := S3.out.b5
              have fx := S3.out.f5
              unfold Free at fx
              go_wp2_with fail
              go_meet
              exact hide ((S3.out.one 2 (by omega) _).mono (by omega))
          · have e1 : (l == 2) = false := by simpa using hl2'
            go_wp2_with fail
            go_meet
            exact hide (S2.out.mono (by omega))
        case rest =>
        have S4 := hcut
        clear hcut S2
        obtain ⟨k0, a0, b0, c0, y0, y1, y2, y3⟩ := S4.out.b5
        have fx := S4.out.f5
        unfold Free at fx
        go_upto_if 67 with fail
        go_cut [] from 65 to 68 (fun wx => Hid (GSt w R (p + j + 3) g5 wx))
        case first =>
          cases hb : (k0 == 0)
          · go_wp2_with fail
            go_meet
            exact S4
          · go_wp2_with fail
            go_meet
            exact hide (S4.out.one 2 (by omega) _)
        case rest =>
        have S5 := hcut
        clear hcut S4 y0 y1 y2 y3 fx k0 a0 b0 c0
        obtain ⟨k0, a0, b0, c0, y0, y1, y2, y3⟩ := S5.out.b5
        have fx := S5.out.f5
        unfold Free at fx
        go_upto_region 16 with fail
        go_cut [81] from 69 to 81 (fun v wx => ∃ bq : Bool, v = .bool bq ∧ Hid (GSt w R (p + j + 3) g5 wx))
        case first =>
          cases h0 : (k0 == 0) <;> cases h1 : (k0 == 1) <;> cases h3 : (k0 == 3)
          all_goals
            go_wp2_with fail
            go_meet
            exact ⟨_, rfl, S5⟩
        case rest =>
        obtain ⟨bq, rfl, S6⟩ := hcut
        clear S5 y0 y1 y2 y3 fx k0 a0 b0 c0
        obtain ⟨k0, a0, b0, c0, y0, y1, y2, y3⟩ := S6.out.b5
        have fx := S6.out.f5
        unfold Free at fx
        go_upto_if 81 with fail
        go_cut [] from 82 to 82 (fun wx => Hid (GSt w R (p + j + 3) g5 wx))
        case first =>
          cases bq
          · go_wp2_with fail
            go_meet
            exact S6
          · go_wp2_with fail
            go_meet
            exact hide (S6.out.one 3 (by omega) _)
        case rest =>
        have S7 := hcut
        clear hcut S6 y0 y1 y2 y3 fx k0 a0 b0 c0
        go_wp2_with fail
        refine (odd_b R (p + j + 3) M _ S7.out.s.rd (by omega) ⟨by omega, by omega⟩).mono ?_
        rintro e w8 ⟨bo, rfl, hr, hg⟩
        have S8 := hide (S7.out.pick hr hg)
        clear hr hg S7
        go_upto_if 85 with fail
        go_cut [] from 86 to 105 (fun wx => Hid (GSt w R (p + j + 6) g5 wx))
        case first =>
          cases bo
          · go_wp2_with fail
            go_meet
            exact hide (S8.out.mono (by omega))
          · go_wp2_with fail
            refine (pick_b R (p + j + 3 + 1) 4 _ S8.out.s.rd (by omega) (by omega)).mono ?_
            rintro e w9 ⟨r9, rfl, a9, b9, _, hr, hg⟩
            have c9 := b9 (by omega)
            have S9 := hide (S8.out.pick hr hg)
            clear hr hg b9
            rcases (show r9 = 0 ∨ r9 = 1 ∨ r9 = 2 ∨ r9 = 3 by omega) with rfl | rfl | rfl | rfl
            · clear a9 c9
              go_wp2_with fail
              have S9' := hide (S9.out.alloc (.cells #[.int .i64 (-1), .int .i64 5] 3))
              refine (pick_b R (p + j + 3 + 1 + 1) 2 _ S9'.out.s.rd (by omega) (by omega)).mono ?_
              rintro e w10 ⟨r10, rfl, a10, b10, _, hr, hg⟩
              have c10 := b10 (by omega)
              have S10 := hide (S9'.out.pick hr hg)
              have hltw := S9.out.s.size
              have ha : w10.cell? ⟨w9.heap.size, 0, none⟩ = some (.int .i64 (-1)) := hg.cell (cell_at rfl rfl) (by simp; omega)
              have hb : w10.cell? ⟨w9.heap.size, 1, none⟩ = some (.int .i64 5) := hg.cell (cell_at rfl rfl) (by simp; omega)
              clear hr hg b10
              obtain ⟨k0, a0, b0, c0, y0, y1, y2, y3⟩ := S10.out.b5
              have fx := S10.out.f5
              unfold Free at fx
              rcases (show r10 = 0 ∨ r10 = 1 by omega) with rfl | rfl
              all_goals
                go_wp2_with fail
                go_meet
                exact hide ((S10.out.one 0 (by omega) _).mono (by omega))
            · clear a9 c9
              obtain ⟨k0, a0, b0, c0, y0, y1, y2, y3⟩ := S9.out.b5
              have fx := S9.out.f5
              unfold Free at fx
              go_wp2_with fail
              go_meet
              exact hide ((S9.out.one 1 (by omega) _).mono (by omega))
            · clear a9 c9
              obtain ⟨k0, a0, b0, c0, y0, y1, y2, y3⟩ := S9.out.b5
              have fx := S9.out.f5
              unfold Free at fx
              go_wp2_with fail
              go_meet
              exact hide ((S9.out.one 2 (by omega) _).mono (by omega))
            · clear a9 c9
              obtain ⟨k0, a0, b0, c0, y0, y1, y2, y3⟩ := S9.out.b5
              have fx := S9.out.f5
              unfold Free at fx
              go_wp2_with fail
              go_meet
              exact hide ((S9.out.one 3 (by omega) _).mono (by omega))
        case rest =>
        have S11 := hcut
        clear hcut S8
        obtain ⟨k0, a0, b0, c0, y0, y1, y2, y3⟩ := S11.out.b5
        obtain ⟨z0, z1, z2, z3⟩ := S11.out.s.b
        have fz := S11.out.s.f
        unfold Free at fz
        go_wp2_with fail
        refine post_named fun w12 hw12 => ?_
        obtain ⟨⟨p0, p1, p2, p3⟩, hr, hg⟩ : Box4 w12 w.heap.size k0 a0 b0 c0 ∧ RdB w12 R (p + j + 6) ∧ w.grownBy w12 (some R) := by rw [← hw12]; exact S11.out.fin _ _ _ _
        clear hw12
        exact bodyPost_ret (v := .agg #[.int .i64 k0, .int .i64 a0, .int .i64 b0, .int .i64 c0]) (by simp [results, Try.results74, go_sem, p0, p1, p2, p3]) rfl ⟨k0, a0, b0, c0, rfl, hr.mono (by omega), hg⟩
end Go.Proofs.Ytdkphnojloanoaa
