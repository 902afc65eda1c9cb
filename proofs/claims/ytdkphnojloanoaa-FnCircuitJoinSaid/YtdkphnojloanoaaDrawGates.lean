/-
  The draws of the laws over gates: lines and a gate, two gates, a gate and a word.
  No condition.
-/
import Derived.Test.YtdkphnojloanoaaDrawGate
namespace Go.Proofs.Ytdkphnojloanoaa
open Go.RowKit Go.Sort base
theorem GS0.fin {w wx : World} {R P : Nat} (h : GS0 w R P wx) (k a b c : Int) :
    Box4 ((((wx.setCell ⟨w.heap.size, 0, none⟩ (.int .i64 k)).setCell ⟨w.heap.size, 1, none⟩ (.int .i64 a)).setCell ⟨w.heap.size, 2, none⟩ (.int .i64 b)).setCell ⟨w.heap.size, 3, none⟩ (.int .i64 c)) w.heap.size k a b c ∧
    RdB ((((wx.setCell ⟨w.heap.size, 0, none⟩ (.int .i64 k)).setCell ⟨w.heap.size, 1, none⟩ (.int .i64 a)).setCell ⟨w.heap.size, 2, none⟩ (.int .i64 b)).setCell ⟨w.heap.size, 3, none⟩ (.int .i64 c)) R P ∧
    w.grownBy ((((wx.setCell ⟨w.heap.size, 0, none⟩ (.int .i64 k)).setCell ⟨w.heap.size, 1, none⟩ (.int .i64 a)).setCell ⟨w.heap.size, 2, none⟩ (.int .i64 b)).setCell ⟨w.heap.size, 3, none⟩ (.int .i64 c)) (some R) := by
  have hg := put4_grown wx w.heap.size (.int .i64 k) (.int .i64 a) (.int .i64 b) (.int .i64 c)
  have hl := h.lo
  exact ⟨box4_put h.b k a b c, h.rd.grown hg (by simp; omega), grown_own h.gr hg (by simp)⟩
theorem box4_two {w : World} {g1 g2 : Nat} {k1 a1 b1 c1 : Int} (h : Box4 w g1 k1 a1 b1 c1) (hne : g1 ≠ g2) (k a b c : Int) :
    Box4 ((((w.setCell ⟨g2, 0, none⟩ (.int .i64 k)).setCell ⟨g2, 1, none⟩ (.int .i64 a)).setCell ⟨g2, 2, none⟩ (.int .i64 b)).setCell ⟨g2, 3, none⟩ (.int .i64 c)) g1 k1 a1 b1 c1 := (((h.set hne).set hne).set hne).set hne
/- a number of lines and a gate -/
def DrawnLG (w : World) (R P : Nat) (e : Ending) (w' : World) : Prop :=
  ∃ l k a b c : Int, e = .returned (.tuple #[.int .i64 l, .agg #[.int .i64 k, .int .i64 a, .int .i64 b, .int .i64 c]]) ∧ (-1 ≤ l ∧ l ≤ 9) ∧ RdB w' R P ∧ w.grownBy w' (some R)
set_option maxHeartbeats 1000000 in
theorem l20Gated_b (R p : Nat) (w : World) (h : RdB w R p) (hp : p ≤ 90000) :
    Calls Try.prog 48 #[.pointer (some ⟨R, 0, none⟩)] w (DrawnLG w R (p + 22)) := by
  have S0 : Hid (GS0 w R p (w.alloc (.cells #[.int .i64 0, .int .i64 0, .int .i64 0, .int .i64 0] 33))) :=
    ⟨h.lt, Box4.made w 0 0 0 0 _, Free.made w _ _, rd_alloc h _, World.grownBy_alloc _ _ _⟩
  clear h
  go_enter Try.func48, Try.ntmps48
  go_wp2_with fail
  refine (l20Lines_b R p 14 _ S0.out.rd (by omega) (by omega)).mono ?_
  rintro e w1 ⟨l, rfl, hl, hr, hg⟩
  have S1 := hide (S0.out.pick hr hg)
  have HL := hide hl
  clear hr hg hl
  go_wp2_with fail
  refine (l20Gate_b R (p + 2) _ 12 _ S1.out.rd (by omega) ⟨by omega, by omega⟩ (by omega)).mono ?_
  rintro e w2 ⟨k, a, b, c, rfl, hr, hg⟩
  have S2 := hide (S1.out.pick hr hg)
  clear hr hg
  obtain ⟨z0, z1, z2, z3⟩ := S2.out.b
  have fz := S2.out.f
  unfold Free at fz
  go_wp2_with fail
  refine post_named fun w3 hw3 => ?_
  obtain ⟨⟨p0, p1, p2, p3⟩, hr, hg⟩ : Box4 w3 w.heap.size k a b c ∧ RdB w3 R (p + 2 + 20) ∧ w.grownBy w3 (some R) := by rw [← hw3]; exact S2.out.fin _ _ _ _
  clear hw3
  exact bodyPost_ret (v := .tuple #[.int .i64 l, .agg #[.int .i64 k, .int .i64 a, .int .i64 b, .int .i64 c]]) (by simp [results, Try.results48, go_sem, p0, p1, p2, p3]) rfl ⟨l, k, a, b, c, rfl, HL.out, hr, hg⟩
/- a number of lines and a gate, from a code -/
def FreshLG (w : World) (e : Ending) (w' : World) : Prop :=
  ∃ l k a b c : Int, e = .returned (.tuple #[.int .i64 l, .agg #[.int .i64 k, .int .i64 a, .int .i64 b, .int .i64 c]]) ∧ (-1 ≤ l ∧ l ≤ 9) ∧ Below w.heap.size w w'

set_option maxHeartbeats 1000000 in
theorem drawGateMoves_b (A : Option Addr) (n c : Nat) (zs : List Int) (w : World) (h : IRk .u8 w A n zs) (hz : ∀ z ∈ zs, (Lit.int .u8 z).wf = true) (hc : n ≤ c) :
    Calls Try.prog 26 #[.slice A n c] w (FreshLG w) := by
  have B0 := hide (show Below w.heap.size w (w.alloc (.cells #[.int .i64 0, .int .i64 0, .int .i64 0, .int .i64 0] 33)) by go_grown)
  have H := hide (h.below B0.out)
  have HZ := hide hz
  have X0 := hide (Box4.made w 0 0 0 0 33)
  have F0 : Hid (Free (w.alloc (.cells #[.int .i64 0, .int .i64 0, .int .i64 0, .int .i64 0] 33)) w.heap.size) := Free.made w _ _
  clear h hz
  go_enter Try.func26, Try.ntmps26
  go_wp2_with fail
  refine (open_b A n c zs _ H.out HZ.out hc).mono ?_
  rintro e w1 ⟨R, rfl, hR, hr, hb⟩
  rw [World.size_alloc] at hR
  have H1 := hide hr
  have X1 := hide (X0.out.below hb)
  have F1 : Hid (Free w1 w.heap.size) := fun i => (hb.frozen (p := ⟨w.heap.size, i, none⟩) (by simp)).trans (F0.out i)
  have B1 := hide (B0.out.trans (hb.mono B0.out.size))
  clear hr hb
  go_wp2_with fail
  refine (l20Gated_b R 0 _ H1.out (by omega)).mono ?_
  rintro e w2 ⟨l, k, a, b, d, rfl, hl, _, hg⟩
  have X2 := hide (X1.out.grownBy hg (by simp; omega))
  have F2 : Hid (Free w2 w.heap.size) := F1.out.grownBy X1.out.lt hg (by simp; omega)
  have B2 := hide (B1.out.grown hg B1.out.size (by simp; omega))
  have HL := hide hl
  clear hg hl
  obtain ⟨x0, x1, x2, x3⟩ := X2.out
  have fx := F2.out
  unfold Free at fx
  go_wp2_with fail
  refine post_named fun w3 hw3 => ?_
  obtain ⟨p0, p1, p2, p3⟩ : Box4 w3 w.heap.size k a b d := by rw [← hw3]; exact box4_put X2.out _ _ _ _
  have B3 := hide (show Below w.heap.size w w3 by rw [← hw3]; exact (((B2.out.setCell (Nat.le_refl _) _).setCell (Nat.le_refl _) _).setCell (Nat.le_refl _) _).setCell (Nat.le_refl _) _)
  clear hw3
  exact bodyPost_ret (v := .tuple #[.int .i64 l, .agg #[.int .i64 k, .int .i64 a, .int .i64 b, .int .i64 d]]) (by simp [results, Try.results26, go_sem, p0, p1, p2, p3]) rfl ⟨l, k, a, b, d, rfl, HL.out, B3.out⟩
set_option maxHeartbeats 1000000 in
theorem drawKeeps_b (A : Option Addr) (n c : Nat) (zs : List Int) (w : World) (h : IRk .u8 w A n zs) (hz : ∀ z ∈ zs, (Lit.int .u8 z).wf = true) (hc : n ≤ c) :
    Calls Try.prog 18 #[.slice A n c] w (FreshLG w) := by
  have B0 := hide (show Below w.heap.size w (w.alloc (.cells #[.int .i64 0, .int .i64 0, .int .i64 0, .int .i64 0] 33)) by go_grown)
  have H := hide (h.below B0.out)
  have HZ := hide hz
  have X0 := hide (Box4.made w 0 0 0 0 33)
  have F0 : Hid (Free (w.alloc (.cells #[.int .i64 0, .int .i64 0, .int .i64 0, .int .i64 0] 33)) w.heap.size) := Free.made w _ _
  clear h hz
  go_enter Try.func18, Try.ntmps18
  go_wp2_with fail
  refine (open_b A n c zs _ H.out HZ.out hc).mono ?_
  rintro e w1 ⟨R, rfl, hR, hr, hb⟩
  rw [World.size_alloc] at hR
  have H1 := hide hr
  have X1 := hide (X0.out.below hb)
  have F1 : Hid (Free w1 w.heap.size) := fun i => (hb.frozen (p := ⟨w.heap.size, i, none⟩) (by simp)).trans (F0.out i)
  have B1 := hide (B0.out.trans (hb.mono B0.out.size))
  clear hr hb
  go_wp2_with fail
  refine (l20Gated_b R 0 _ H1.out (by omega)).mono ?_
  rintro e w2 ⟨l, k, a, b, d, rfl, hl, _, hg⟩
  have X2 := hide (X1.out.grownBy hg (by simp; omega))
  have F2 : Hid (Free w2 w.heap.size) := F1.out.grownBy X1.out.lt hg (by simp; omega)
  have B2 := hide (B1.out.grown hg B1.out.size (by simp; omega))
  have HL := hide hl
  clear hg hl
  obtain ⟨x0, x1, x2, x3⟩ := X2.out
  have fx := F2.out
  unfold Free at fx
  go_wp2_with fail
  refine post_named fun w3 hw3 => ?_
  obtain ⟨p0, p1, p2, p3⟩ : Box4 w3 w.heap.size k a b d := by rw [← hw3]; exact box4_put X2.out _ _ _ _
  have B3 := hide (show Below w.heap.size w w3 by rw [← hw3]; exact (((B2.out.setCell (Nat.le_refl _) _).setCell (Nat.le_refl _) _).setCell (Nat.le_refl _) _).setCell (Nat.le_refl _) _)
  clear hw3
  exact bodyPost_ret (v := .tuple #[.int .i64 l, .agg #[.int .i64 k, .int .i64 a, .int .i64 b, .int .i64 d]]) (by simp [results, Try.results18, go_sem, p0, p1, p2, p3]) rfl ⟨l, k, a, b, d, rfl, HL.out, B3.out⟩
def FreshLn (w : World) (e : Ending) (w' : World) : Prop := ∃ l : Int, e = .returned (.int .i64 l) ∧ (-1 ≤ l ∧ l ≤ 9) ∧ Below w.heap.size w w'
set_option maxHeartbeats 1000000 in
theorem drawRipple_b (A : Option Addr) (n c : Nat) (zs : List Int) (w : World) (h : IRk .u8 w A n zs) (hz : ∀ z ∈ zs, (Lit.int .u8 z).wf = true) (hc : n ≤ c) :
    Calls Try.prog 10 #[.slice A n c] w (FreshLn w) := by
  have H := hide h
  have HZ := hide hz
  clear h hz
  go_enter Try.func10, Try.ntmps10
  go_wp2_with fail
  refine (open_b A n c zs _ H.out HZ.out hc).mono ?_
  rintro e w1 ⟨R, rfl, hR, hr, hb⟩
  have H1 := hide hr
  have B1 := hide hb
  clear hr hb
  go_wp2_with fail
  refine (l20Lines_b R 0 5 _ H1.out (by omega) (by omega)).mono ?_
  rintro e w2 ⟨l, rfl, hl, _, hg⟩
  have B2 := hide (B1.out.grown hg B1.out.size (by simp; omega))
  have HL := hide hl
  clear hg hl
  go_wp2_with fail
  go_ret
  exact ⟨l, rfl, HL.out, B2.out⟩
/-- the draw under way: the reader -/
structure RG (w : World) (R P : Nat) (wx : World) : Prop where
  lo : R < w.heap.size
  rd : RdB wx R P
  gr : w.grownBy wx (some R)
theorem RG.start {w : World} {R P : Nat} (h : RdB w R P) : RG w R P w := ⟨h.lt, h, World.grownBy.refl _ _⟩
theorem RG.step {w wx wy : World} {R P : Nat} {row : Option Nat} (h : RG w R P wx) (hg : wx.grownBy wy row) (hrow : ∀ x, row = some x → w.heap.size ≤ x) : RG w R P wy :=
  ⟨h.lo, h.rd.grown hg (fun k hk => by have := hrow k hk; have := h.lo; omega), grown_own h.gr hg hrow⟩
theorem RG.pick {w wx wy : World} {R P Q : Nat} (h : RG w R P wx) (hr : RdB wy R Q) (hg : wx.grownBy wy (some R)) : RG w R Q wy := ⟨h.lo, hr, grown_seq h.gr hg⟩
theorem RG.alloc {w wx : World} {R P : Nat} (h : RG w R P wx) (o : Obj) : RG w R P (wx.alloc o) := h.step (World.grownBy_alloc _ _ none) (fun x hx => by cases hx)
theorem RG.drew {w wx : World} {R P : Nat} (h : RG w R P wx) : RG w R P wx.drew := ⟨h.lo, h.rd.below (below_drewN (Below.refl _ wx) 1), ⟨h.gr.os, h.gr.tape, h.gr.output, h.gr.size, h.gr.block⟩⟩
theorem RG.mono {w wx : World} {R P Q : Nat} (h : RG w R P wx) (hq : P ≤ Q) : RG w R Q wx := ⟨h.lo, h.rd.mono hq, h.gr⟩
theorem RG.size {w wx : World} {R P : Nat} (h : RG w R P wx) : w.heap.size ≤ wx.heap.size := h.gr.size
/-- a literal of n numbers of the call's own; the address of a number; a box -/
def IsLit (B n : Nat) (wx : World) (v : Value) : Prop := ∃ b : Nat, v = .slice (some ⟨b, 0, none⟩) n n ∧ B ≤ b ∧ ∀ t, t < n → ∃ z : Int, wx.cell? ⟨b, t, none⟩ = some (.int .i64 z)
def IsCell (B : Nat) (wx : World) (v : Value) : Prop := ∃ (b t : Nat) (z : Int), v = .pointer (some ⟨b, t, none⟩) ∧ B ≤ b ∧ wx.cell? ⟨b, t, none⟩ = some (.int .i64 z)
def Bx (wx : World) (g : Nat) : Prop := (∃ k a b c : Int, Box4 wx g k a b c) ∧ Free wx g
theorem IsLit.grown {B n : Nat} {wx wy : World} {v : Value} {row : Option Nat} (h : IsLit B n wx v) (hg : wx.grownBy wy row) (hrow : ∀ x, row = some x → x < B) : IsLit B n wy v := by
  obtain ⟨b, e, l, hc⟩ := h
  exact ⟨b, e, l, fun t ht => by obtain ⟨z, hz⟩ := hc t ht; exact ⟨z, hg.cell hz (fun e => by have := hrow b e.symm; omega)⟩⟩
theorem IsCell.grown {B : Nat} {wx wy : World} {v : Value} {row : Option Nat} (h : IsCell B wx v) (hg : wx.grownBy wy row) (hrow : ∀ x, row = some x → x < B) : IsCell B wy v := by
  obtain ⟨b, t, z, e, l, hz⟩ := h
  exact ⟨b, t, z, e, l, hg.cell hz (fun e => by have := hrow b e.symm; omega)⟩
theorem Bx.grown {g : Nat} {wx wy : World} {row : Option Nat} (h : Bx wx g) (hg : wx.grownBy wy row) (hne : some g ≠ row) : Bx wy g := by
  obtain ⟨⟨k, a, b, c, hb⟩, hf⟩ := h
  exact ⟨⟨k, a, b, c, hb.grownBy hg hne⟩, hf.grownBy hb.lt hg hne⟩
theorem Bx.lt {g : Nat} {wx : World} (h : Bx wx g) : g < wx.heap.size := by obtain ⟨⟨k, a, b, c, hb⟩, _⟩ := h; exact hb.lt
theorem Bx.put {g : Nat} {wx : World} (h : Bx wx g) (k a b c : Int) : Bx ((((wx.setCell ⟨g, 0, none⟩ (.int .i64 k)).setCell ⟨g, 1, none⟩ (.int .i64 a)).setCell ⟨g, 2, none⟩ (.int .i64 b)).setCell ⟨g, 3, none⟩ (.int .i64 c)) g := by
  obtain ⟨⟨k0, a0, b0, c0, hb⟩, hf⟩ := h
  exact ⟨⟨k, a, b, c, box4_put hb k a b c⟩, (((hf.set _ _).set _ _).set _ _).set _ _⟩
theorem Bx.made (w : World) (k a b c : Int) (t : TypeId) : Bx (w.alloc (.cells #[.int .i64 k, .int .i64 a, .int .i64 b, .int .i64 c] t)) w.heap.size := ⟨⟨k, a, b, c, Box4.made w k a b c t⟩, Free.made w _ _⟩
theorem Bx.below {g : Nat} {wx wy : World} (h : Bx wx g) (hb : Below wx.heap.size wx wy) : Bx wy g := by
  have hl := h.lt
  obtain ⟨⟨k, a, b, c, hx⟩, hf⟩ := h
  exact ⟨⟨k, a, b, c, hx.below hb⟩, fun i => (hb.frozen (p := ⟨g, i, none⟩) hl).trans (hf i)⟩
theorem IsLit.made2 (w : World) (a b : Int) (B : Nat) (hB : B ≤ w.heap.size) : IsLit B 2 (w.alloc (.cells #[.int .i64 a, .int .i64 b] 3)) (.slice (some ⟨w.heap.size, 0, none⟩) 2 2) :=
  ⟨_, rfl, hB, fun t ht => by rcases (show t = 0 ∨ t = 1 by omega) with rfl | rfl <;> exact ⟨_, cell_at rfl rfl⟩⟩
theorem pw_le {n : Nat} (h : n ≤ 8) : (1 : Int) ≤ 2 ^ n ∧ (2 : Int) ^ n ≤ 256 := by
  rcases (show n = 0 ∨ n = 1 ∨ n = 2 ∨ n = 3 ∨ n = 4 ∨ n = 5 ∨ n = 6 ∨ n = 7 ∨ n = 8 by omega) with rfl | rfl | rfl | rfl | rfl | rfl | rfl | rfl | rfl <;> decide
structure JW (w : World) (R P : Nat) (l : Int) (L : Nat → Bool) (x10 x11 x12 x13 x14 x15 x16 x17 x18 x6 : Value) (wx : World) : Prop where
  h0 : L 0 = true → x10 = .int .i64 l
  h1 : L 1 = true → x11 = .int .i64 (max l 0)
  h2 : L 2 = true → ∃ n : Nat, x12 = .int .i64 n ∧ n ≤ 8
  h3 : L 3 = true → ∃ z : Int, x13 = .int .i64 z
  h4 : L 4 = true → IsLit w.heap.size 2 wx x14
  h5 : L 5 = true → x15 = .pointer (some ⟨R, 0, none⟩)
  h6 : L 6 = true → ∃ t : Nat, x16 = .int .i64 t ∧ t < 2
  h7 : L 7 = true → IsCell w.heap.size wx x17
  h8 : L 8 = true → ∃ z : Int, x18 = .int .i64 z
  h9 : L 9 = true → ∃ z : Int, x6 = .int .i64 z
  s0 : L 6 = false → RG w R P wx
  s1 : RG w R (P + 1) wx
theorem JW.start {w : World} {R P : Nat} {l : Int} {wx : World} {x10 x11 x12 x13 x14 x15 x16 x17 x18 x6 : Value} (hs : RG w R P wx) : JW w R P l (fun _ => false) x10 x11 x12 x13 x14 x15 x16 x17 x18 x6 wx :=
  ⟨(fun h => by cases h), (fun h => by cases h), (fun h => by cases h), (fun h => by cases h), (fun h => by cases h), (fun h => by cases h), (fun h => by cases h), (fun h => by cases h), (fun h => by cases h), (fun h => by cases h), fun _ => hs, hs.mono (by omega)⟩
theorem JW.p0 {w : World} {R P : Nat} {l : Int} {wx : World} {L : Nat → Bool} {x10 x11 x12 x13 x14 x15 x16 x17 x18 x6 : Value} (h : JW w R P l L x10 x11 x12 x13 x14 x15 x16 x17 x18 x6 wx) {v : Value} (hv : v = .int .i64 l) : JW w R P l (upd L 0) v x11 x12 x13 x14 x15 x16 x17 x18 x6 wx :=
  ⟨fun _ => hv, fun e => h.h1 (upd_ne e rfl), fun e => h.h2 (upd_ne e rfl), fun e => h.h3 (upd_ne e rfl), fun e => h.h4 (upd_ne e rfl), fun e => h.h5 (upd_ne e rfl), fun e => h.h6 (upd_ne e rfl), fun e => h.h7 (upd_ne e rfl), fun e => h.h8 (upd_ne e rfl), fun e => h.h9 (upd_ne e rfl), fun e => h.s0 (upd_f e), h.s1⟩
theorem JW.p1 {w : World} {R P : Nat} {l : Int} {wx : World} {L : Nat → Bool} {x10 x11 x12 x13 x14 x15 x16 x17 x18 x6 : Value} (h : JW w R P l L x10 x11 x12 x13 x14 x15 x16 x17 x18 x6 wx) {v : Value} (hv : v = .int .i64 (max l 0)) : JW w R P l (upd L 1) x10 v x12 x13 x14 x15 x16 x17 x18 x6 wx :=
  ⟨fun e => h.h0 (upd_ne e rfl), fun _ => hv, fun e => h.h2 (upd_ne e rfl), fun e => h.h3 (upd_ne e rfl), fun e => h.h4 (upd_ne e rfl), fun e => h.h5 (upd_ne e rfl), fun e => h.h6 (upd_ne e rfl), fun e => h.h7 (upd_ne e rfl), fun e => h.h8 (upd_ne e rfl), fun e => h.h9 (upd_ne e rfl), fun e => h.s0 (upd_f e), h.s1⟩
theorem JW.p2 {w : World} {R P : Nat} {l : Int} {wx : World} {L : Nat → Bool} {x10 x11 x12 x13 x14 x15 x16 x17 x18 x6 : Value} (h : JW w R P l L x10 x11 x12 x13 x14 x15 x16 x17 x18 x6 wx) {v : Value} (hv : ∃ n : Nat, v = .int .i64 n ∧ n ≤ 8) : JW w R P l (upd L 2) x10 x11 v x13 x14 x15 x16 x17 x18 x6 wx :=
  ⟨fun e => h.h0 (upd_ne e rfl), fun e => h.h1 (upd_ne e rfl), fun _ => hv, fun e => h.h3 (upd_ne e rfl), fun e => h.h4 (upd_ne e rfl), fun e => h.h5 (upd_ne e rfl), fun e => h.h6 (upd_ne e rfl), fun e => h.h7 (upd_ne e rfl), fun e => h.h8 (upd_ne e rfl), fun e => h.h9 (upd_ne e rfl), fun e => h.s0 (upd_f e), h.s1⟩
theorem JW.p3 {w : World} {R P : Nat} {l : Int} {wx : World} {L : Nat → Bool} {x10 x11 x12 x13 x14 x15 x16 x17 x18 x6 : Value} (h : JW w R P l L x10 x11 x12 x13 x14 x15 x16 x17 x18 x6 wx) {v : Value} (hv : ∃ z : Int, v = .int .i64 z) : JW w R P l (upd L 3) x10 x11 x12 v x14 x15 x16 x17 x18 x6 wx :=
  ⟨fun e => h.h0 (upd_ne e rfl), fun e => h.h1 (upd_ne e rfl), fun e => h.h2 (upd_ne e rfl), fun _ => hv, fun e => h.h4 (upd_ne e rfl), fun e => h.h5 (upd_ne e rfl), fun e => h.h6 (upd_ne e rfl), fun e => h.h7 (upd_ne e rfl), fun e => h.h8 (upd_ne e rfl), fun e => h.h9 (upd_ne e rfl), fun e => h.s0 (upd_f e), h.s1⟩
theorem JW.p5 {w : World} {R P : Nat} {l : Int} {wx : World} {L : Nat → Bool} {x10 x11 x12 x13 x14 x15 x16 x17 x18 x6 : Value} (h : JW w R P l L x10 x11 x12 x13 x14 x15 x16 x17 x18 x6 wx) {v : Value} (hv : v = .pointer (some ⟨R, 0, none⟩)) : JW w R P l (upd L 5) x10 x11 x12 x13 x14 v x16 x17 x18 x6 wx :=
  ⟨fun e => h.h0 (upd_ne e rfl), fun e => h.h1 (upd_ne e rfl), fun e => h.h2 (upd_ne e rfl), fun e => h.h3 (upd_ne e rfl), fun e => h.h4 (upd_ne e rfl), fun _ => hv, fun e => h.h6 (upd_ne e rfl), fun e => h.h7 (upd_ne e rfl), fun e => h.h8 (upd_ne e rfl), fun e => h.h9 (upd_ne e rfl), fun e => h.s0 (upd_f e), h.s1⟩
theorem JW.p7 {w : World} {R P : Nat} {l : Int} {wx : World} {L : Nat → Bool} {x10 x11 x12 x13 x14 x15 x16 x17 x18 x6 : Value} (h : JW w R P l L x10 x11 x12 x13 x14 x15 x16 x17 x18 x6 wx) {v : Value} (hv : IsCell w.heap.size wx v) : JW w R P l (upd L 7) x10 x11 x12 x13 x14 x15 x16 v x18 x6 wx :=
  ⟨fun e => h.h0 (upd_ne e rfl), fun e => h.h1 (upd_ne e rfl), fun e => h.h2 (upd_ne e rfl), fun e => h.h3 (upd_ne e rfl), fun e => h.h4 (upd_ne e rfl), fun e => h.h5 (upd_ne e rfl), fun e => h.h6 (upd_ne e rfl), fun _ => hv, fun e => h.h8 (upd_ne e rfl), fun e => h.h9 (upd_ne e rfl), fun e => h.s0 (upd_f e), h.s1⟩
theorem JW.p8 {w : World} {R P : Nat} {l : Int} {wx : World} {L : Nat → Bool} {x10 x11 x12 x13 x14 x15 x16 x17 x18 x6 : Value} (h : JW w R P l L x10 x11 x12 x13 x14 x15 x16 x17 x18 x6 wx) {v : Value} (hv : ∃ z : Int, v = .int .i64 z) : JW w R P l (upd L 8) x10 x11 x12 x13 x14 x15 x16 x17 v x6 wx :=
  ⟨fun e => h.h0 (upd_ne e rfl), fun e => h.h1 (upd_ne e rfl), fun e => h.h2 (upd_ne e rfl), fun e => h.h3 (upd_ne e rfl), fun e => h.h4 (upd_ne e rfl), fun e => h.h5 (upd_ne e rfl), fun e => h.h6 (upd_ne e rfl), fun e => h.h7 (upd_ne e rfl), fun _ => hv, fun e => h.h9 (upd_ne e rfl), fun e => h.s0 (upd_f e), h.s1⟩
theorem JW.p9 {w : World} {R P : Nat} {l : Int} {wx : World} {L : Nat → Bool} {x10 x11 x12 x13 x14 x15 x16 x17 x18 x6 : Value} (h : JW w R P l L x10 x11 x12 x13 x14 x15 x16 x17 x18 x6 wx) {v : Value} (hv : ∃ z : Int, v = .int .i64 z) : JW w R P l (upd L 9) x10 x11 x12 x13 x14 x15 x16 x17 x18 v wx :=
  ⟨fun e => h.h0 (upd_ne e rfl), fun e => h.h1 (upd_ne e rfl), fun e => h.h2 (upd_ne e rfl), fun e => h.h3 (upd_ne e rfl), fun e => h.h4 (upd_ne e rfl), fun e => h.h5 (upd_ne e rfl), fun e => h.h6 (upd_ne e rfl), fun e => h.h7 (upd_ne e rfl), fun e => h.h8 (upd_ne e rfl), fun _ => hv, fun e => h.s0 (upd_f e), h.s1⟩
theorem JW.new {w : World} {R P : Nat} {l : Int} {wx : World} {L : Nat → Bool} {x10 x11 x12 x13 x14 x15 x16 x17 x18 x6 : Value} (h : JW w R P l L x10 x11 x12 x13 x14 x15 x16 x17 x18 x6 wx) (a b : Int) : JW w R P l (upd L 4) x10 x11 x12 x13 (.slice (some ⟨wx.heap.size, 0, none⟩) 2 2) x15 x16 x17 x18 x6 (wx.alloc (.cells #[.int .i64 a, .int .i64 b] 3)) := by
  exact ⟨fun e => h.h0 (upd_ne e rfl), fun e => h.h1 (upd_ne e rfl), fun e => h.h2 (upd_ne e rfl), fun e => h.h3 (upd_ne e rfl), fun _ => IsLit.made2 wx a b _ h.s1.size, fun e => h.h5 (upd_ne e rfl), fun e => h.h6 (upd_ne e rfl), fun e => (h.h7 (upd_ne e rfl)).grown (World.grownBy_alloc _ _ none) (fun x hx => by cases hx), fun e => h.h8 (upd_ne e rfl), fun e => h.h9 (upd_ne e rfl), fun e => (h.s0 (upd_f e)).alloc _, h.s1.alloc _⟩
theorem JW.pick {w : World} {R P : Nat} {l : Int} {wx : World} {L : Nat → Bool} {x10 x11 x12 x13 x14 x15 x16 x17 x18 x6 : Value} (h : JW w R P l L x10 x11 x12 x13 x14 x15 x16 x17 x18 x6 wx) (hL : L 6 = false) {t : Nat} (ht : t < 2) {wy : World} (hr : RdB wy R (P + 1)) (hg : wx.grownBy wy (some R)) : JW w R P l (upd L 6) x10 x11 x12 x13 x14 x15 (.int .i64 (t : Nat)) x17 x18 x6 wy := by
  have hl := h.s1.lo
  have hR : ∀ x, some R = some x → x < w.heap.size := fun x hx => by simp at hx; omega
  exact ⟨fun e => h.h0 (upd_ne e rfl), fun e => h.h1 (upd_ne e rfl), fun e => h.h2 (upd_ne e rfl), fun e => h.h3 (upd_ne e rfl), fun e => (h.h4 (upd_ne e rfl)).grown hg hR, fun e => h.h5 (upd_ne e rfl), fun _ => ⟨t, rfl, ht⟩, fun e => (h.h7 (upd_ne e rfl)).grown hg hR, fun e => h.h8 (upd_ne e rfl), fun e => h.h9 (upd_ne e rfl), fun e => by simp [upd] at e, (h.s0 hL).pick hr hg⟩
/- some number -/
def DrawnZ (w : World) (R P : Nat) (e : Ending) (w' : World) : Prop := ∃ x : Int, e = .returned (.int .i64 x) ∧ RG w R P w'
set_option maxRecDepth 100000 in
set_option maxHeartbeats 4000000 in
theorem l20Word_b (R p : Nat) (l M : Int) (w : World) (h : RdB w R p) (hp : p ≤ 90000) (hl : -1 ≤ l ∧ l ≤ 9) (hM : 0 ≤ M ∧ M ≤ 1000) :
    Calls Try.prog 61 #[.pointer (some ⟨R, 0, none⟩), .int .i64 l, .int .i64 M] w (DrawnZ w R (p + 2)) := by
  have H0 := hide h
  obtain ⟨hM0, hM1⟩ := hM
  obtain ⟨hl0, hl1⟩ := hl
  clear h
  go_enter Try.func61, Try.ntmps61
  go_wp2_with fail
  refine (odd_b R p M _ H0.out (by omega) ⟨by omega, by omega⟩).mono ?_
  rintro e w1 ⟨bo, rfl, hr, hg⟩
  have S1 := hide ((RG.start H0.out).pick hr hg)
  clear hr hg
  cases bo
  · obtain ⟨n, hn, hn8⟩ : ∃ n : Nat, min (max l 0) 8 = (n : Int) ∧ n ≤ 8 := ⟨(min (max l 0) 8).toNat, by omega, by omega⟩
    obtain ⟨hp1, hp2⟩ := pw_le hn8
    go_wp2_with fail
    refine (pick_b R (p + 1) _ _ S1.out.rd (by omega) ?_).mono ?_
    · have := hn; omega
    rintro e w2 ⟨r, rfl, _, _, _, hr, hg⟩
    have S2 := hide (S1.out.pick hr hg)
    clear hr hg
    go_wp2_with fail
    go_ret
    exact ⟨_, rfl, S2.out⟩
  · go_upto_region 2 with fail
    go_cut [6] from 10 to 18 (fun v wx => ∃ z : Int, v = .int .i64 z ∧ Hid (RG w R (p + 2) wx))
    case first =>

      refine wp_frame fun a0 ha0 => ?_
      have HA := Lib.hid ha0
      clear ha0
      refine wp_region_inv (fun L a wx => ∃ x10 x11 x12 x13 x14 x15 x16 x17 x18 x6, a = putL a0 [(10, x10), (11, x11), (12, x12), (13, x13), (14, x14), (15, x15), (16, x16), (17, x17), (18, x18), (6, x6)] ∧ Hid (JW w R (p + 1) l L x10 x11 x12 x13 x14 x15 x16 x17 x18 x6 wx)) (by kernel_rfl) (by kernel_rfl) ?_ ?_ ?_
      · exact ⟨_, _, _, _, _, _, _, _, _, _, putL_self a0 [10, 11, 12, 13, 14, 15, 16, 17, 18, 6], hide (JW.start S1.out.drew)⟩
      · refine ⟨?_, ?_, ?_, ?_, ?_, ?_, ?_, ?_, ?_, ?_, trivial⟩
        · intro L a wx hL0 hd
          rintro ⟨x10, x11, x12, x13, x14, x15, x16, x17, x18, x6, rfl, HJ⟩
          have hD := hd
          simp [deps, Region.binds] at hD
          clear hD hd
          rw [← HA.out]
          simp only [putL, List.setIfInBounds_toArray, List.set_cons_succ, List.set_cons_zero]
          go_wp2_with fail
          refine ⟨_, _, _, _, _, _, _, _, _, _, ?_, hide (HJ.out.p0 rfl)⟩
          · try rw [← HA.out]
            try simp only [putL, List.setIfInBounds_toArray, List.set_cons_succ, List.set_cons_zero]
        · intro L a wx hL0 hd
          rintro ⟨x10, x11, x12, x13, x14, x15, x16, x17, x18, x6, rfl, HJ⟩
          have hD := hd
          simp [deps, Region.binds] at hD
          obtain rfl := HJ.out.h0 (by simp [hD])
          clear hD hd
          rw [← HA.out]
          simp only [putL, List.setIfInBounds_toArray, List.set_cons_succ, List.set_cons_zero]
          go_wp2_with fail
          refine ⟨_, _, _, _, _, _, _, _, _, _, ?_, hide (HJ.out.p1 rfl)⟩
          · try rw [← HA.out]
            try simp only [putL, List.setIfInBounds_toArray, List.set_cons_succ, List.set_cons_zero]
        · intro L a wx hL0 hd
          rintro ⟨x10, x11, x12, x13, x14, x15, x16, x17, x18, x6, rfl, HJ⟩
          have hD := hd
          simp [deps, Region.binds] at hD
          obtain rfl := HJ.out.h1 (by simp [hD])
          obtain ⟨n, hn, hn8⟩ : ∃ n : Nat, min (max l 0) 8 = (n : Int) ∧ n ≤ 8 := ⟨(min (max l 0) 8).toNat, by omega, by omega⟩
          have HN := Lib.hid hn
          clear hn
          clear hD hd
          rw [← HA.out]
          simp only [putL, List.setIfInBounds_toArray, List.set_cons_succ, List.set_cons_zero]
          go_wp2_with fail
          have hn := HN.out
          try rw [hn]
          refine ⟨_, _, _, _, _, _, _, _, _, _, ?_, hide (HJ.out.p2 ⟨n, rfl, hn8⟩)⟩
          · try rw [← HA.out]
            try simp only [putL, List.setIfInBounds_toArray, List.set_cons_succ, List.set_cons_zero]
        · intro L a wx hL0 hd
          rintro ⟨x10, x11, x12, x13, x14, x15, x16, x17, x18, x6, rfl, HJ⟩
          have hD := hd
          simp [deps, Region.binds] at hD
          obtain ⟨n, rfl, hn⟩ := HJ.out.h2 (by simp [hD])
          obtain ⟨hp1, hp2⟩ := pw_le hn
          clear hD hd
          rw [← HA.out]
          simp only [putL, List.setIfInBounds_toArray, List.set_cons_succ, List.set_cons_zero]
          go_wp2_with fail
          refine ⟨_, _, _, _, _, _, _, _, _, _, ?_, hide (HJ.out.p3 ⟨2 ^ n, rfl⟩)⟩
          · try rw [← HA.out]
            try simp only [putL, List.setIfInBounds_toArray, List.set_cons_succ, List.set_cons_zero]
        · intro L a wx hL0 hd
          rintro ⟨x10, x11, x12, x13, x14, x15, x16, x17, x18, x6, rfl, HJ⟩
          have hD := hd
          simp [deps, Region.binds] at hD
          obtain ⟨z, rfl⟩ := HJ.out.h3 (by simp [hD])
          clear hD hd
          rw [← HA.out]
          simp only [putL, List.setIfInBounds_toArray, List.set_cons_succ, List.set_cons_zero]
          go_wp2_with fail
          refine ⟨_, _, _, _, _, _, _, _, _, _, ?_, hide (HJ.out.new (-1) z)⟩
          · try rw [← HA.out]
            try simp only [putL, List.setIfInBounds_toArray, List.set_cons_succ, List.set_cons_zero]
        · intro L a wx hL0 hd
          rintro ⟨x10, x11, x12, x13, x14, x15, x16, x17, x18, x6, rfl, HJ⟩
          have hD := hd
          simp [deps, Region.binds] at hD
          clear hD hd
          rw [← HA.out]
          simp only [putL, List.setIfInBounds_toArray, List.set_cons_succ, List.set_cons_zero]
          go_wp2_with fail
          refine ⟨_, _, _, _, _, _, _, _, _, _, ?_, hide (HJ.out.p5 rfl)⟩
          · try rw [← HA.out]
            try simp only [putL, List.setIfInBounds_toArray, List.set_cons_succ, List.set_cons_zero]
        · intro L a wx hL0 hd
          rintro ⟨x10, x11, x12, x13, x14, x15, x16, x17, x18, x6, rfl, HJ⟩
          have hD := hd
          simp [deps, Region.binds] at hD
          obtain rfl := HJ.out.h5 (by simp [hD])
          clear hD hd
          rw [← HA.out]
          simp only [putL, List.setIfInBounds_toArray, List.set_cons_succ, List.set_cons_zero]
          go_wp2_with fail
          refine (pick_b R (p + 1) 2 _ (HJ.out.s0 hL0).rd (by omega) (by omega)).mono ?_
          rintro e w1 ⟨r, rfl, r1, r2, _, hr, hg⟩
          obtain ⟨t, rfl⟩ := Int.eq_ofNat_of_zero_le r1
          have HJ2 := hide (HJ.out.pick hL0 (t := t) (by have := r2 (by omega); omega) hr hg)
          clear hr hg r1 r2
          go_wp2_with fail
          refine ⟨_, _, _, _, _, _, _, _, _, _, ?_, hide (HJ2.out)⟩
          · try rw [← HA.out]
            try simp only [putL, List.setIfInBounds_toArray, List.set_cons_succ, List.set_cons_zero]
        · intro L a wx hL0 hd
          rintro ⟨x10, x11, x12, x13, x14, x15, x16, x17, x18, x6, rfl, HJ⟩
          have hD := hd
          simp [deps, Region.binds] at hD
          obtain ⟨b, rfl, l1, hc⟩ := HJ.out.h4 (by simp [hD])
          obtain ⟨t, rfl, ht⟩ := HJ.out.h6 (by simp [hD])
          have HC := hide (hc t ht)
          clear hc
          clear hD hd
          rw [← HA.out]
          simp only [putL, List.setIfInBounds_toArray, List.set_cons_succ, List.set_cons_zero]
          go_wp2_with fail
          obtain ⟨z, hz⟩ := HC.out
          refine ⟨_, _, _, _, _, _, _, _, _, _, ?_, hide (HJ.out.p7 ⟨b, t, z, rfl, l1, hz⟩)⟩
          · try rw [← HA.out]
            try simp only [putL, List.setIfInBounds_toArray, List.set_cons_succ, List.set_cons_zero]
        · intro L a wx hL0 hd
          rintro ⟨x10, x11, x12, x13, x14, x15, x16, x17, x18, x6, rfl, HJ⟩
          have hD := hd
          simp [deps, Region.binds] at hD
          obtain ⟨b, t, z, rfl, l1, hz⟩ := HJ.out.h7 (by simp [hD])
          clear hD hd
          rw [← HA.out]
          simp only [putL, List.setIfInBounds_toArray, List.set_cons_succ, List.set_cons_zero]
          go_wp2_with fail
          refine ⟨_, _, _, _, _, _, _, _, _, _, ?_, hide (HJ.out.p8 ⟨z, rfl⟩)⟩
          · try rw [← HA.out]
            try simp only [putL, List.setIfInBounds_toArray, List.set_cons_succ, List.set_cons_zero]
        · intro L a wx hL0 hd
          rintro ⟨x10, x11, x12, x13, x14, x15, x16, x17, x18, x6, rfl, HJ⟩
          have hD := hd
          simp [deps, Region.binds] at hD
          obtain ⟨z, rfl⟩ := HJ.out.h8 (by simp [hD])
          clear hD hd
          rw [← HA.out]
          simp only [putL, List.setIfInBounds_toArray, List.set_cons_succ, List.set_cons_zero]
          go_wp2_with fail
          refine ⟨_, _, _, _, _, _, _, _, _, _, ?_, hide (HJ.out.p9 ⟨z, rfl⟩)⟩
          · try rw [← HA.out]
            try simp only [putL, List.setIfInBounds_toArray, List.set_cons_succ, List.set_cons_zero]
      · intro L a wx hall
        rintro ⟨x10, x11, x12, x13, x14, x15, x16, x17, x18, x6, rfl, HJ⟩
        rw [← HA.out]
        simp only [putL, List.setIfInBounds_toArray, List.set_cons_succ, List.set_cons_zero]
        obtain ⟨z, rfl⟩ := HJ.out.h9 (hall 9 (by decide))
        have S3 := hide HJ.out.s1
        go_wp2_with fail
        go_meet
        exact ⟨z, rfl, S3⟩
    case rest =>
      obtain ⟨z, rfl, S3⟩ := hcut
      go_wp2_with fail
      go_ret
      exact ⟨z, rfl, S3.out⟩
end Go.Proofs.Ytdkphnojloanoaa
