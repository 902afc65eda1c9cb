/-
  The draws of two gates, and of a gate and a word.
  No condition.
-/
import Derived.Test.YtdkphnojloanoaaDrawGates
namespace Go.Proofs.Ytdkphnojloanoaa
open Go.RowKit Go.Sort base
theorem Bx.two {g1 g2 : Nat} {wx : World} (h : Bx wx g1) (hne : g1 ≠ g2) (k a b c : Int) : Bx ((((wx.setCell ⟨g2, 0, none⟩ (.int .i64 k)).setCell ⟨g2, 1, none⟩ (.int .i64 a)).setCell ⟨g2, 2, none⟩ (.int .i64 b)).setCell ⟨g2, 3, none⟩ (.int .i64 c)) g1 :=
  h.grown (put4_grown wx g2 _ _ _ _) (by simpa using hne)
theorem RG.put {w wx : World} {R P g : Nat} (h : RG w R P wx) (hg : w.heap.size ≤ g) (k a b c : Int) : RG w R P ((((wx.setCell ⟨g, 0, none⟩ (.int .i64 k)).setCell ⟨g, 1, none⟩ (.int .i64 a)).setCell ⟨g, 2, none⟩ (.int .i64 b)).setCell ⟨g, 3, none⟩ (.int .i64 c)) :=
  h.step (put4_grown wx g _ _ _ _) (by simpa using hg)
theorem upd_t {L : Nat → Bool} {k j : Nat} (h : L j = true) : upd L k j = true := by simp [upd, h]
def IsG (v : Value) : Prop := ∃ k a b c : Int, v = .agg #[.int .i64 k, .int .i64 a, .int .i64 b, .int .i64 c]
/-- two boxes for the results, a third one -/
structure RG3 (w : World) (R P g3 : Nat) (wx : World) : Prop where
  r : RG w R P wx
  b1 : Bx wx w.heap.size
  b2 : Bx wx (w.heap.size + 1)
  b3 : Bx wx g3
  lo : w.heap.size + 2 ≤ g3
theorem RG3.pick {w wx wy : World} {R P Q g3 : Nat} (h : RG3 w R P g3 wx) (hr : RdB wy R Q) (hg : wx.grownBy wy (some R)) : RG3 w R Q g3 wy := by
  have hl := h.r.lo
  have := h.lo
  exact ⟨h.r.pick hr hg, h.b1.grown hg (by simp; omega), h.b2.grown hg (by simp; omega), h.b3.grown hg (by simp; omega), h.lo⟩
theorem RG3.drew {w wx : World} {R P g3 : Nat} (h : RG3 w R P g3 wx) : RG3 w R P g3 wx.drew := ⟨h.r.drew, h.b1, h.b2, h.b3, h.lo⟩
theorem RG3.mono {w wx : World} {R P Q g3 : Nat} (h : RG3 w R P g3 wx) (hq : P ≤ Q) : RG3 w R Q g3 wx := ⟨h.r.mono hq, h.b1, h.b2, h.b3, h.lo⟩
theorem RG3.put1 {w wx : World} {R P g3 : Nat} (h : RG3 w R P g3 wx) (k a b c : Int) : RG3 w R P g3 ((((wx.setCell ⟨w.heap.size, 0, none⟩ (.int .i64 k)).setCell ⟨w.heap.size, 1, none⟩ (.int .i64 a)).setCell ⟨w.heap.size, 2, none⟩ (.int .i64 b)).setCell ⟨w.heap.size, 3, none⟩ (.int .i64 c)) := by
  have := h.lo
  exact ⟨h.r.put (Nat.le_refl _) _ _ _ _, h.b1.put _ _ _ _, h.b2.two (by omega) _ _ _ _, h.b3.two (by omega) _ _ _ _, h.lo⟩
theorem RG3.put2 {w wx : World} {R P g3 : Nat} (h : RG3 w R P g3 wx) (k a b c : Int) : RG3 w R P g3 ((((wx.setCell ⟨w.heap.size + 1, 0, none⟩ (.int .i64 k)).setCell ⟨w.heap.size + 1, 1, none⟩ (.int .i64 a)).setCell ⟨w.heap.size + 1, 2, none⟩ (.int .i64 b)).setCell ⟨w.heap.size + 1, 3, none⟩ (.int .i64 c)) := by
  have := h.lo
  exact ⟨h.r.put (by omega) _ _ _ _, h.b1.two (by omega) _ _ _ _, h.b2.put _ _ _ _, h.b3.two (by omega) _ _ _ _, h.lo⟩
/- a number of lines and two gates -/
def DrawnLGG (w : World) (R P : Nat) (e : Ending) (w' : World) : Prop :=
  ∃ l k a b c k' a' b' c' : Int, e = .returned (.tuple #[.int .i64 l, .agg #[.int .i64 k, .int .i64 a, .int .i64 b, .int .i64 c], .agg #[.int .i64 k', .int .i64 a', .int .i64 b', .int .i64 c']]) ∧ (-1 ≤ l ∧ l ≤ 9) ∧ RdB w' R P ∧ w.grownBy w' (some R)

structure JG (w : World) (R P g3 : Nat) (l : Int) (L : Nat → Bool) (x12 x13 x14 x15 x16 x17 x18 x2 : Value) (wx : World) : Prop where
  h0 : L 0 = true → x12 = .int .i64 l
  h1 : L 1 = true → IsG x13
  h2 : L 2 = true → x14 = .pointer (some ⟨R, 0, none⟩)
  h3 : L 3 = true → x15 = .int .i64 l
  h4 : L 4 = true → x16 = .int .i64 (max l 1)
  h5 : L 5 = true → ∃ n : Int, x17 = .int .i64 n ∧ 1 ≤ n ∧ n ≤ 8
  h6 : L 6 = true → IsG x18
  h7 : L 7 = true → x2 = .int .i64 l
  s0 : L 6 = false → RG3 w R P g3 wx
  s1 : RG3 w R (P + 20) g3 wx
theorem JG.start {w : World} {R P g3 : Nat} {l : Int} {wx : World} {x12 x13 x14 x15 x16 x17 x18 x2 : Value} (hs : RG3 w R P g3 wx) : JG w R P g3 l (fun _ => false) x12 x13 x14 x15 x16 x17 x18 x2 wx :=
  ⟨(fun h => by cases h), (fun h => by cases h), (fun h => by cases h), (fun h => by cases h), (fun h => by cases h), (fun h => by cases h), (fun h => by cases h), (fun h => by cases h), fun _ => hs, hs.mono (by omega)⟩
theorem JG.p0 {w : World} {R P g3 : Nat} {l : Int} {wx : World} {L : Nat → Bool} {x12 x13 x14 x15 x16 x17 x18 x2 : Value} (h : JG w R P g3 l L x12 x13 x14 x15 x16 x17 x18 x2 wx) {v : Value} (hv : v = .int .i64 l) : JG w R P g3 l (upd L 0) v x13 x14 x15 x16 x17 x18 x2 wx :=
  ⟨fun _ => hv, fun e => h.h1 (upd_ne e rfl), fun e => h.h2 (upd_ne e rfl), fun e => h.h3 (upd_ne e rfl), fun e => h.h4 (upd_ne e rfl), fun e => h.h5 (upd_ne e rfl), fun e => h.h6 (upd_ne e rfl), fun e => h.h7 (upd_ne e rfl), fun e => h.s0 (upd_f e), h.s1⟩
theorem JG.p1 {w : World} {R P g3 : Nat} {l : Int} {wx : World} {L : Nat → Bool} {x12 x13 x14 x15 x16 x17 x18 x2 : Value} (h : JG w R P g3 l L x12 x13 x14 x15 x16 x17 x18 x2 wx) {v : Value} (hv : IsG v) : JG w R P g3 l (upd L 1) x12 v x14 x15 x16 x17 x18 x2 wx :=
  ⟨fun e => h.h0 (upd_ne e rfl), fun _ => hv, fun e => h.h2 (upd_ne e rfl), fun e => h.h3 (upd_ne e rfl), fun e => h.h4 (upd_ne e rfl), fun e => h.h5 (upd_ne e rfl), fun e => h.h6 (upd_ne e rfl), fun e => h.h7 (upd_ne e rfl), fun e => h.s0 (upd_f e), h.s1⟩
theorem JG.p2 {w : World} {R P g3 : Nat} {l : Int} {wx : World} {L : Nat → Bool} {x12 x13 x14 x15 x16 x17 x18 x2 : Value} (h : JG w R P g3 l L x12 x13 x14 x15 x16 x17 x18 x2 wx) {v : Value} (hv : v = .pointer (some ⟨R, 0, none⟩)) : JG w R P g3 l (upd L 2) x12 x13 v x15 x16 x17 x18 x2 wx :=
  ⟨fun e => h.h0 (upd_ne e rfl), fun e => h.h1 (upd_ne e rfl), fun _ => hv, fun e => h.h3 (upd_ne e rfl), fun e => h.h4 (upd_ne e rfl), fun e => h.h5 (upd_ne e rfl), fun e => h.h6 (upd_ne e rfl), fun e => h.h7 (upd_ne e rfl), fun e => h.s0 (upd_f e), h.s1⟩
theorem JG.p3 {w : World} {R P g3 : Nat} {l : Int} {wx : World} {L : Nat → Bool} {x12 x13 x14 x15 x16 x17 x18 x2 : Value} (h : JG w R P g3 l L x12 x13 x14 x15 x16 x17 x18 x2 wx) {v : Value} (hv : v = .int .i64 l) : JG w R P g3 l (upd L 3) x12 x13 x14 v x16 x17 x18 x2 wx :=
  ⟨fun e => h.h0 (upd_ne e rfl), fun e => h.h1 (upd_ne e rfl), fun e => h.h2 (upd_ne e rfl), fun _ => hv, fun e => h.h4 (upd_ne e rfl), fun e => h.h5 (upd_ne e rfl), fun e => h.h6 (upd_ne e rfl), fun e => h.h7 (upd_ne e rfl), fun e => h.s0 (upd_f e), h.s1⟩
theorem JG.p4 {w : World} {R P g3 : Nat} {l : Int} {wx : World} {L : Nat → Bool} {x12 x13 x14 x15 x16 x17 x18 x2 : Value} (h : JG w R P g3 l L x12 x13 x14 x15 x16 x17 x18 x2 wx) {v : Value} (hv : v = .int .i64 (max l 1)) : JG w R P g3 l (upd L 4) x12 x13 x14 x15 v x17 x18 x2 wx :=
  ⟨fun e => h.h0 (upd_ne e rfl), fun e => h.h1 (upd_ne e rfl), fun e => h.h2 (upd_ne e rfl), fun e => h.h3 (upd_ne e rfl), fun _ => hv, fun e => h.h5 (upd_ne e rfl), fun e => h.h6 (upd_ne e rfl), fun e => h.h7 (upd_ne e rfl), fun e => h.s0 (upd_f e), h.s1⟩
theorem JG.p5 {w : World} {R P g3 : Nat} {l : Int} {wx : World} {L : Nat → Bool} {x12 x13 x14 x15 x16 x17 x18 x2 : Value} (h : JG w R P g3 l L x12 x13 x14 x15 x16 x17 x18 x2 wx) {v : Value} (hv : ∃ n : Int, v = .int .i64 n ∧ 1 ≤ n ∧ n ≤ 8) : JG w R P g3 l (upd L 5) x12 x13 x14 x15 x16 v x18 x2 wx :=
  ⟨fun e => h.h0 (upd_ne e rfl), fun e => h.h1 (upd_ne e rfl), fun e => h.h2 (upd_ne e rfl), fun e => h.h3 (upd_ne e rfl), fun e => h.h4 (upd_ne e rfl), fun _ => hv, fun e => h.h6 (upd_ne e rfl), fun e => h.h7 (upd_ne e rfl), fun e => h.s0 (upd_f e), h.s1⟩
theorem JG.p7 {w : World} {R P g3 : Nat} {l : Int} {wx : World} {L : Nat → Bool} {x12 x13 x14 x15 x16 x17 x18 x2 : Value} (h : JG w R P g3 l L x12 x13 x14 x15 x16 x17 x18 x2 wx) {v : Value} (hv : v = .int .i64 l) : JG w R P g3 l (upd L 7) x12 x13 x14 x15 x16 x17 x18 v wx :=
  ⟨fun e => h.h0 (upd_ne e rfl), fun e => h.h1 (upd_ne e rfl), fun e => h.h2 (upd_ne e rfl), fun e => h.h3 (upd_ne e rfl), fun e => h.h4 (upd_ne e rfl), fun e => h.h5 (upd_ne e rfl), fun e => h.h6 (upd_ne e rfl), fun _ => hv, fun e => h.s0 (upd_f e), h.s1⟩
theorem JG.gate {w : World} {R P g3 : Nat} {l : Int} {wx : World} {L : Nat → Bool} {x12 x13 x14 x15 x16 x17 x18 x2 : Value} (h : JG w R P g3 l L x12 x13 x14 x15 x16 x17 x18 x2 wx) (hL : L 6 = false) (k a b c : Int) {wy : World} (hr : RdB wy R (P + 20)) (hg : wx.grownBy wy (some R)) : JG w R P g3 l (upd L 6) x12 x13 x14 x15 x16 x17 (.agg #[.int .i64 k, .int .i64 a, .int .i64 b, .int .i64 c]) x2 wy := by
  exact ⟨fun e => h.h0 (upd_ne e rfl), fun e => h.h1 (upd_ne e rfl), fun e => h.h2 (upd_ne e rfl), fun e => h.h3 (upd_ne e rfl), fun e => h.h4 (upd_ne e rfl), fun e => h.h5 (upd_ne e rfl), fun _ => ⟨k, a, b, c, rfl⟩, fun e => h.h7 (upd_ne e rfl), fun e => by simp [upd] at e, (h.s0 hL).pick hr hg⟩
theorem JG.put1 {w : World} {R P g3 : Nat} {l : Int} {wx : World} {L : Nat → Bool} {x12 x13 x14 x15 x16 x17 x18 x2 : Value} (h : JG w R P g3 l L x12 x13 x14 x15 x16 x17 x18 x2 wx) (k a b c : Int) : JG w R P g3 l (upd L 8) x12 x13 x14 x15 x16 x17 x18 x2 ((((wx.setCell ⟨w.heap.size, 0, none⟩ (.int .i64 k)).setCell ⟨w.heap.size, 1, none⟩ (.int .i64 a)).setCell ⟨w.heap.size, 2, none⟩ (.int .i64 b)).setCell ⟨w.heap.size, 3, none⟩ (.int .i64 c)) := by
  exact ⟨fun e => h.h0 (upd_ne e rfl), fun e => h.h1 (upd_ne e rfl), fun e => h.h2 (upd_ne e rfl), fun e => h.h3 (upd_ne e rfl), fun e => h.h4 (upd_ne e rfl), fun e => h.h5 (upd_ne e rfl), fun e => h.h6 (upd_ne e rfl), fun e => h.h7 (upd_ne e rfl), fun e => (h.s0 (upd_f e)).put1 _ _ _ _, h.s1.put1 _ _ _ _⟩
theorem JG.put2 {w : World} {R P g3 : Nat} {l : Int} {wx : World} {L : Nat → Bool} {x12 x13 x14 x15 x16 x17 x18 x2 : Value} (h : JG w R P g3 l L x12 x13 x14 x15 x16 x17 x18 x2 wx) (k a b c : Int) : JG w R P g3 l (upd L 9) x12 x13 x14 x15 x16 x17 x18 x2 ((((wx.setCell ⟨w.heap.size + 1, 0, none⟩ (.int .i64 k)).setCell ⟨w.heap.size + 1, 1, none⟩ (.int .i64 a)).setCell ⟨w.heap.size + 1, 2, none⟩ (.int .i64 b)).setCell ⟨w.heap.size + 1, 3, none⟩ (.int .i64 c)) := by
  exact ⟨fun e => h.h0 (upd_ne e rfl), fun e => h.h1 (upd_ne e rfl), fun e => h.h2 (upd_ne e rfl), fun e => h.h3 (upd_ne e rfl), fun e => h.h4 (upd_ne e rfl), fun e => h.h5 (upd_ne e rfl), fun e => h.h6 (upd_ne e rfl), fun e => h.h7 (upd_ne e rfl), fun e => (h.s0 (upd_f e)).put2 _ _ _ _, h.s1.put2 _ _ _ _⟩
set_option maxRecDepth 100000 in
set_option maxHeartbeats 4000000 in
theorem l20Gates2_b (R p : Nat) (w : World) (h : RdB w R p) (hp : p ≤ 80000) :
    Calls Try.prog 60 #[.pointer (some ⟨R, 0, none⟩)] w (DrawnLGG w R (p + 42)) := by
  have R0 : Hid (RG w R p ((w.alloc (.cells #[.int .i64 0, .int .i64 0, .int .i64 0, .int .i64 0] 33)).alloc (.cells #[.int .i64 0, .int .i64 0, .int .i64 0, .int .i64 0] 33))) := ((RG.start h).alloc _).alloc _
  have X1 : Hid (Bx ((w.alloc (.cells #[.int .i64 0, .int .i64 0, .int .i64 0, .int .i64 0] 33)).alloc (.cells #[.int .i64 0, .int .i64 0, .int .i64 0, .int .i64 0] 33)) w.heap.size) := (Bx.made w 0 0 0 0 _).below ((Below.refl _ _).alloc (Nat.le_refl _) _)
  have X2 : Hid (Bx ((w.alloc (.cells #[.int .i64 0, .int .i64 0, .int .i64 0, .int .i64 0] 33)).alloc (.cells #[.int .i64 0, .int .i64 0, .int .i64 0, .int .i64 0] 33)) (w.heap.size + 1)) := by
    have := Bx.made (w.alloc (.cells #[.int .i64 0, .int .i64 0, .int .i64 0, .int .i64 0] 33)) 0 0 0 0 33
    rwa [World.size_alloc] at this
  have hlt := h.lt
  clear h
  go_enter Try.func60, Try.ntmps60
  go_wp2_with fail
  refine (l20Gated_b R p _ R0.out.rd (by omega)).mono ?_
  rintro e w1 ⟨l, k, a, b, c, rfl, hl, hr, hg⟩
  have hs1 := (show w.heap.size + 2 ≤ w1.heap.size by have := hg.size; simpa using this)
  have S1 : Hid (RG3 w R (p + 22) w1.heap.size (w1.alloc (.cells #[.int .i64 k, .int .i64 a, .int .i64 b, .int .i64 c] 33))) :=
    ⟨(R0.out.pick hr hg).alloc _, (X1.out.grown hg (by simp; omega)).below ((Below.refl _ _).alloc (Nat.le_refl _) _), (X2.out.grown hg (by simp; omega)).below ((Below.refl _ _).alloc (Nat.le_refl _) _), Bx.made _ _ _ _ _ _, hs1⟩
  have HL := hide hl
  clear hr hg hl R0 X1 X2
  go_upto_region 2 with fail
  go_cut [2] from 12 to 18 (fun v wx => v = .int .i64 l ∧ Hid (RG3 w R (p + 42) w1.heap.size wx))
  case first =>

    refine wp_frame fun a0 ha0 => ?_
    have HA := Lib.hid ha0
    clear ha0
    refine wp_region_inv (fun L a wx => ∃ x12 x13 x14 x15 x16 x17 x18 x2, a = putL a0 [(12, x12), (13, x13), (14, x14), (15, x15), (16, x16), (17, x17), (18, x18), (2, x2)] ∧ Hid (JG w R (p + 22) w1.heap.size l L x12 x13 x14 x15 x16 x17 x18 x2 wx)) (by kernel_rfl) (by kernel_rfl) ?_ ?_ ?_
    · exact ⟨_, _, _, _, _, _, _, _, putL_self a0 [12, 13, 14, 15, 16, 17, 18, 2], hide (JG.start S1.out.drew)⟩
    · refine ⟨?_, ?_, ?_, ?_, ?_, ?_, ?_, ?_, ?_, ?_, trivial⟩
      · intro L a wx hL0 hd
        rintro ⟨x12, x13, x14, x15, x16, x17, x18, x2, rfl, HJ⟩
        have hD := hd
        try simp [deps, Region.binds] at hD
        clear hD hd
        rw [← HA.out]
        simp only [putL, List.setIfInBounds_toArray, List.set_cons_succ, List.set_cons_zero]
        go_wp2_with fail
        refine ⟨_, _, _, _, _, _, _, _, ?_, hide (HJ.out.p0 rfl)⟩
        · try rw [← HA.out]
          try simp only [putL, List.setIfInBounds_toArray, List.set_cons_succ, List.set_cons_zero]
      · intro L a wx hL0 hd
        rintro ⟨x12, x13, x14, x15, x16, x17, x18, x2, rfl, HJ⟩
        have hD := hd
        try simp [deps, Region.binds] at hD
        obtain ⟨⟨k, a, b, c, y0, y1, y2, y3⟩, _⟩ := HJ.out.s1.b3
        clear hD hd
        rw [← HA.out]
        simp only [putL, List.setIfInBounds_toArray, List.set_cons_succ, List.set_cons_zero]
        go_wp2_with fail
        refine ⟨_, _, _, _, _, _, _, _, ?_, hide (HJ.out.p1 ⟨k, a, b, c, rfl⟩)⟩
        · try rw [← HA.out]
          try simp only [putL, List.setIfInBounds_toArray, List.set_cons_succ, List.set_cons_zero]
      · intro L a wx hL0 hd
        rintro ⟨x12, x13, x14, x15, x16, x17, x18, x2, rfl, HJ⟩
        have hD := hd
        try simp [deps, Region.binds] at hD
        clear hD hd
        rw [← HA.out]
        simp only [putL, List.setIfInBounds_toArray, List.set_cons_succ, List.set_cons_zero]
        go_wp2_with fail
        refine ⟨_, _, _, _, _, _, _, _, ?_, hide (HJ.out.p2 rfl)⟩
        · try rw [← HA.out]
          try simp only [putL, List.setIfInBounds_toArray, List.set_cons_succ, List.set_cons_zero]
      · intro L a wx hL0 hd
        rintro ⟨x12, x13, x14, x15, x16, x17, x18, x2, rfl, HJ⟩
        have hD := hd
        try simp [deps, Region.binds] at hD
        clear hD hd
        rw [← HA.out]
        simp only [putL, List.setIfInBounds_toArray, List.set_cons_succ, List.set_cons_zero]
        go_wp2_with fail
        refine ⟨_, _, _, _, _, _, _, _, ?_, hide (HJ.out.p3 rfl)⟩
        · try rw [← HA.out]
          try simp only [putL, List.setIfInBounds_toArray, List.set_cons_succ, List.set_cons_zero]
      · intro L a wx hL0 hd
        rintro ⟨x12, x13, x14, x15, x16, x17, x18, x2, rfl, HJ⟩
        have hD := hd
        try simp [deps, Region.binds] at hD
        obtain rfl := HJ.out.h3 (by simp [hD])
        clear hD hd
        rw [← HA.out]
        simp only [putL, List.setIfInBounds_toArray, List.set_cons_succ, List.set_cons_zero]
        go_wp2_with fail
        refine ⟨_, _, _, _, _, _, _, _, ?_, hide (HJ.out.p4 rfl)⟩
        · try rw [← HA.out]
          try simp only [putL, List.setIfInBounds_toArray, List.set_cons_succ, List.set_cons_zero]
      · intro L a wx hL0 hd
        rintro ⟨x12, x13, x14, x15, x16, x17, x18, x2, rfl, HJ⟩
        have hD := hd
        try simp [deps, Region.binds] at hD
        obtain rfl := HJ.out.h4 (by simp [hD])
        clear hD hd
        rw [← HA.out]
        simp only [putL, List.setIfInBounds_toArray, List.set_cons_succ, List.set_cons_zero]
        go_wp2_with fail
        refine ⟨_, _, _, _, _, _, _, _, ?_, hide (HJ.out.p5 ⟨min (max l 1) 8, rfl, by omega, by omega⟩)⟩
        · try rw [← HA.out]
          try simp only [putL, List.setIfInBounds_toArray, List.set_cons_succ, List.set_cons_zero]
      · intro L a wx hL0 hd
        rintro ⟨x12, x13, x14, x15, x16, x17, x18, x2, rfl, HJ⟩
        have hD := hd
        try simp [deps, Region.binds] at hD
        obtain rfl := HJ.out.h2 (by simp [hD])
        obtain ⟨n, rfl, n1, n2⟩ := HJ.out.h5 (by simp [hD])
        clear hD hd
        rw [← HA.out]
        simp only [putL, List.setIfInBounds_toArray, List.set_cons_succ, List.set_cons_zero]
        go_wp2_with fail
        refine (l20Gate_b R (p + 22) n 12 _ (HJ.out.s0 hL0).r.rd (by omega) ⟨n1, n2⟩ (by omega)).mono ?_
        rintro e w1 ⟨k, a, b, c, rfl, hr, hg⟩
        have HJ2 := hide (HJ.out.gate hL0 k a b c hr hg)
        clear hr hg
        go_wp2_with fail
        refine ⟨_, _, _, _, _, _, _, _, ?_, hide (HJ2.out)⟩
        · try rw [← HA.out]
          try simp only [putL, List.setIfInBounds_toArray, List.set_cons_succ, List.set_cons_zero]
      · intro L a wx hL0 hd
        rintro ⟨x12, x13, x14, x15, x16, x17, x18, x2, rfl, HJ⟩
        have hD := hd
        try simp [deps, Region.binds] at hD
        obtain rfl := HJ.out.h0 (by simp [hD])
        clear hD hd
        rw [← HA.out]
        simp only [putL, List.setIfInBounds_toArray, List.set_cons_succ, List.set_cons_zero]
        go_wp2_with fail
        refine ⟨_, _, _, _, _, _, _, _, ?_, hide (HJ.out.p7 rfl)⟩
        · try rw [← HA.out]
          try simp only [putL, List.setIfInBounds_toArray, List.set_cons_succ, List.set_cons_zero]
      · intro L a wx hL0 hd
        rintro ⟨x12, x13, x14, x15, x16, x17, x18, x2, rfl, HJ⟩
        have hD := hd
        try simp [deps, Region.binds] at hD
        obtain ⟨k, a, b, c, rfl⟩ := HJ.out.h1 (by simp [hD])
        obtain ⟨⟨k0, a0_, b0, c0, y0, y1, y2, y3⟩, fx⟩ := HJ.out.s1.b1
        unfold Free at fx
        clear hD hd
        rw [← HA.out]
        simp only [putL, List.setIfInBounds_toArray, List.set_cons_succ, List.set_cons_zero]
        go_wp2_with fail
        refine ⟨_, _, _, _, _, _, _, _, ?_, hide (HJ.out.put1 k a b c)⟩
        · try rw [← HA.out]
          try simp only [putL, List.setIfInBounds_toArray, List.set_cons_succ, List.set_cons_zero]
      · intro L a wx hL0 hd
        rintro ⟨x12, x13, x14, x15, x16, x17, x18, x2, rfl, HJ⟩
        have hD := hd
        try simp [deps, Region.binds] at hD
        obtain ⟨k, a, b, c, rfl⟩ := HJ.out.h6 (by simp [hD])
        obtain ⟨⟨k0, a0_, b0, c0, y0, y1, y2, y3⟩, fx⟩ := HJ.out.s1.b2
        unfold Free at fx
        clear hD hd
        rw [← HA.out]
        simp only [putL, List.setIfInBounds_toArray, List.set_cons_succ, List.set_cons_zero]
        go_wp2_with fail
        refine ⟨_, _, _, _, _, _, _, _, ?_, hide (HJ.out.put2 k a b c)⟩
        · try rw [← HA.out]
          try simp only [putL, List.setIfInBounds_toArray, List.set_cons_succ, List.set_cons_zero]
    · intro L a wx hall
      rintro ⟨x12, x13, x14, x15, x16, x17, x18, x2, rfl, HJ⟩
      rw [← HA.out]
      simp only [putL, List.setIfInBounds_toArray, List.set_cons_succ, List.set_cons_zero]
      obtain rfl := HJ.out.h7 (hall 7 (by decide))
      have S3 := hide HJ.out.s1
      go_wp2_with fail
      go_meet
      exact ⟨rfl, S3⟩
  case rest =>
    obtain ⟨rfl, S3⟩ := hcut
    obtain ⟨⟨k1, a1, b1, c1, y0, y1, y2, y3⟩, _⟩ := S3.out.b1
    obtain ⟨⟨k2, a2, b2, c2, z0, z1, z2, z3⟩, _⟩ := S3.out.b2
    go_wp2_with fail
    exact bodyPost_ret (v := .tuple #[.int .i64 l, .agg #[.int .i64 k1, .int .i64 a1, .int .i64 b1, .int .i64 c1], .agg #[.int .i64 k2, .int .i64 a2, .int .i64 b2, .int .i64 c2]]) (by simp [results, Try.results60, go_sem, y0, y1, y2, y3, z0, z1, z2, z3]) rfl ⟨l, _, _, _, _, _, _, _, _, rfl, HL.out, S3.out.r.rd, S3.out.r.gr⟩
def FreshLGG (w : World) (e : Ending) (w' : World) : Prop :=
  ∃ l k a b c k' a' b' c' : Int, e = .returned (.tuple #[.int .i64 l, .agg #[.int .i64 k, .int .i64 a, .int .i64 b, .int .i64 c], .agg #[.int .i64 k', .int .i64 a', .int .i64 b', .int .i64 c']]) ∧ (-1 ≤ l ∧ l ≤ 9) ∧ Below w.heap.size w w'

set_option maxHeartbeats 1000000 in
theorem drawCommute_b (A : Option Addr) (n c : Nat) (zs : List Int) (w : World) (h : IRk .u8 w A n zs) (hz : ∀ z ∈ zs, (Lit.int .u8 z).wf = true) (hc : n ≤ c) :
    Calls Try.prog 29 #[.slice A n c] w (FreshLGG w) := by
  have B0 := hide (show Below w.heap.size w ((w.alloc (.cells #[.int .i64 0, .int .i64 0, .int .i64 0, .int .i64 0] 33)).alloc (.cells #[.int .i64 0, .int .i64 0, .int .i64 0, .int .i64 0] 33)) by go_grown)
  have H := hide (h.below B0.out)
  have HZ := hide hz
  have X0 : Hid (Bx ((w.alloc (.cells #[.int .i64 0, .int .i64 0, .int .i64 0, .int .i64 0] 33)).alloc (.cells #[.int .i64 0, .int .i64 0, .int .i64 0, .int .i64 0] 33)) w.heap.size) := (Bx.made w 0 0 0 0 _).below ((Below.refl _ _).alloc (Nat.le_refl _) _)
  have Y0 : Hid (Bx ((w.alloc (.cells #[.int .i64 0, .int .i64 0, .int .i64 0, .int .i64 0] 33)).alloc (.cells #[.int .i64 0, .int .i64 0, .int .i64 0, .int .i64 0] 33)) (w.heap.size + 1)) := by
    have := Bx.made (w.alloc (.cells #[.int .i64 0, .int .i64 0, .int .i64 0, .int .i64 0] 33)) 0 0 0 0 33
    rwa [World.size_alloc] at this
  clear h hz
  go_enter Try.func29, Try.ntmps29
  go_wp2_with fail
  refine (open_b A n c zs _ H.out HZ.out hc).mono ?_
  rintro e w1 ⟨R, rfl, hR, hr, hb⟩
  simp only [World.size_alloc] at hR
  have H1 := hide hr
  have X1 := hide (X0.out.below hb)
  have Y1 := hide (Y0.out.below hb)
  have B1 := hide (B0.out.trans (hb.mono B0.out.size))
  clear hr hb
  go_wp2_with fail
  refine (l20Gates2_b R 0 _ H1.out (by omega)).mono ?_
  rintro e w2 ⟨l, k, a, b, d, k', a', b', d', rfl, hl, _, hg⟩
  have X2 := hide (X1.out.grown hg (by simp; omega))
  have Y2 := hide (Y1.out.grown hg (by simp; omega))
  have B2 := hide (B1.out.grown hg B1.out.size (by simp; omega))
  have HL := hide hl
  clear hg hl
  obtain ⟨⟨_, _, _, _, x0, x1, x2, x3⟩, fx⟩ := X2.out
  obtain ⟨⟨_, _, _, _, y0, y1, y2, y3⟩, fy⟩ := Y2.out
  unfold Free at fx fy
  go_wp2_with fail
  refine post_named fun w3 hw3 => ?_
  obtain ⟨p0, p1, p2, p3⟩ : Box4 w3 w.heap.size k a b d := by rw [← hw3]; exact box4_two (box4_put ⟨x0, x1, x2, x3⟩ _ _ _ _) (by omega) _ _ _ _
  obtain ⟨q0, q1, q2, q3⟩ : Box4 w3 (w.heap.size + 1) k' a' b' d' := by rw [← hw3]; exact box4_put (box4_two ⟨y0, y1, y2, y3⟩ (by omega) _ _ _ _) _ _ _ _
  have B3 := hide (show Below w.heap.size w w3 by rw [← hw3]; exact (((((((B2.out.setCell (Nat.le_refl _) _).setCell (Nat.le_refl _) _).setCell (Nat.le_refl _) _).setCell (Nat.le_refl _) _).setCell (Nat.le_succ _) _).setCell (Nat.le_succ _) _).setCell (Nat.le_succ _) _).setCell (Nat.le_succ _) _)
  clear hw3
  exact bodyPost_ret (v := .tuple #[.int .i64 l, .agg #[.int .i64 k, .int .i64 a, .int .i64 b, .int .i64 d], .agg #[.int .i64 k', .int .i64 a', .int .i64 b', .int .i64 d']]) (by simp [results, Try.results29, go_sem, p0, p1, p2, p3, q0, q1, q2, q3]) rfl ⟨l, k, a, b, d, k', a', b', d', rfl, HL.out, B3.out⟩
/-- a box for the result, another one -/
structure RG2 (w : World) (R P g3 : Nat) (wx : World) : Prop where
  r : RG w R P wx
  b1 : Bx wx w.heap.size
  b3 : Bx wx g3
  lo : w.heap.size + 1 ≤ g3
def FreshLGW (w : World) (e : Ending) (w' : World) : Prop :=
  ∃ l k a b c x : Int, e = .returned (.tuple #[.int .i64 l, .agg #[.int .i64 k, .int .i64 a, .int .i64 b, .int .i64 c], .int .i64 x]) ∧ (-1 ≤ l ∧ l ≤ 9) ∧ Below w.heap.size w w'
/-- as the reader is of the call's own, all else has only grown -/
structure BG (w : World) (R P g1 g3 : Nat) (wx : World) : Prop where
  rd : RdB wx R P
  lo : w.heap.size ≤ R ∧ w.heap.size ≤ g1 ∧ w.heap.size ≤ g3 ∧ g1 ≠ R ∧ g3 ≠ R ∧ g1 ≠ g3 ∧ R < g3 ∧ g1 < R
  b1 : Bx wx g1
  b3 : Bx wx g3
  bl : Below w.heap.size w wx
theorem BG.pick {w wx wy : World} {R P Q g1 g3 : Nat} (h : BG w R P g1 g3 wx) (hr : RdB wy R Q) (hg : wx.grownBy wy (some R)) : BG w R Q g1 g3 wy := by
  obtain ⟨l1, l2, l3, l4, l5, l6, l7, l8⟩ := h.lo
  exact ⟨hr, h.lo, h.b1.grown hg (by simpa using l4), h.b3.grown hg (by simpa using l5), h.bl.grown hg h.bl.size (by simpa using l1)⟩
theorem BG.drew {w wx : World} {R P g1 g3 : Nat} (h : BG w R P g1 g3 wx) : BG w R P g1 g3 wx.drew := ⟨h.rd.below (below_drewN (Below.refl _ wx) 1), h.lo, h.b1, h.b3, below_drewN h.bl 1⟩
theorem BG.mono {w wx : World} {R P Q g1 g3 : Nat} (h : BG w R P g1 g3 wx) (hq : P ≤ Q) : BG w R Q g1 g3 wx := ⟨h.rd.mono hq, h.lo, h.b1, h.b3, h.bl⟩
theorem put4_below {w wx : World} {g : Nat} (h : Below w.heap.size w wx) (hg : w.heap.size ≤ g) (k a b c : Int) : Below w.heap.size w ((((wx.setCell ⟨g, 0, none⟩ (.int .i64 k)).setCell ⟨g, 1, none⟩ (.int .i64 a)).setCell ⟨g, 2, none⟩ (.int .i64 b)).setCell ⟨g, 3, none⟩ (.int .i64 c)) :=
  (((h.setCell hg _).setCell hg _).setCell hg _).setCell hg _

structure JR (w : World) (R P g1 g3 : Nat) (l : Int) (L : Nat → Bool) (x15 x16 x17 x18 x19 x2 x4 : Value) (wx : World) : Prop where
  h0 : L 0 = true → x15 = .int .i64 l
  h1 : L 1 = true → IsG x16
  h2 : L 2 = true → x17 = .pointer (some ⟨R, 0, none⟩)
  h3 : L 3 = true → x18 = .int .i64 l
  h4 : L 4 = true → ∃ z : Int, x19 = .int .i64 z
  h5 : L 5 = true → x2 = .int .i64 l
  h6 : L 6 = true → True
  h7 : L 7 = true → ∃ z : Int, x4 = .int .i64 z
  s0 : L 4 = false → BG w R P g1 g3 wx
  c5 : L 5 = true → L 4 = true
  lo : w.heap.size ≤ g1 ∧ g1 ≠ g3
  b1 : Bx wx g1
  b3 : Bx wx g3
  bl : Below w.heap.size w wx
theorem JR.start {w : World} {R P g1 g3 : Nat} {l : Int} {wx : World} {x15 x16 x17 x18 x19 x2 x4 : Value} (hs : BG w R P g1 g3 wx) : JR w R P g1 g3 l (fun _ => false) x15 x16 x17 x18 x19 x2 x4 wx :=
  ⟨(fun h => by cases h), (fun h => by cases h), (fun h => by cases h), (fun h => by cases h), (fun h => by cases h), (fun h => by cases h), (fun h => by cases h), (fun h => by cases h), fun _ => hs, (fun h => by cases h), ⟨hs.lo.2.1, hs.lo.2.2.2.2.2.1⟩, hs.b1, hs.b3, hs.bl⟩
theorem JR.p0 {w : World} {R P g1 g3 : Nat} {l : Int} {wx : World} {L : Nat → Bool} {x15 x16 x17 x18 x19 x2 x4 : Value} (h : JR w R P g1 g3 l L x15 x16 x17 x18 x19 x2 x4 wx) {v : Value} (hv : v = .int .i64 l) : JR w R P g1 g3 l (upd L 0) v x16 x17 x18 x19 x2 x4 wx :=
  ⟨fun _ => hv, fun e => h.h1 (upd_ne e rfl), fun e => h.h2 (upd_ne e rfl), fun e => h.h3 (upd_ne e rfl), fun e => h.h4 (upd_ne e rfl), fun e => h.h5 (upd_ne e rfl), fun e => h.h6 (upd_ne e rfl), fun e => h.h7 (upd_ne e rfl), fun e => h.s0 (upd_f e), fun e => upd_t (h.c5 (upd_ne e rfl)), h.lo, h.b1, h.b3, h.bl⟩
theorem JR.p1 {w : World} {R P g1 g3 : Nat} {l : Int} {wx : World} {L : Nat → Bool} {x15 x16 x17 x18 x19 x2 x4 : Value} (h : JR w R P g1 g3 l L x15 x16 x17 x18 x19 x2 x4 wx) {v : Value} (hv : IsG v) : JR w R P g1 g3 l (upd L 1) x15 v x17 x18 x19 x2 x4 wx :=
  ⟨fun e => h.h0 (upd_ne e rfl), fun _ => hv, fun e => h.h2 (upd_ne e rfl), fun e => h.h3 (upd_ne e rfl), fun e => h.h4 (upd_ne e rfl), fun e => h.h5 (upd_ne e rfl), fun e => h.h6 (upd_ne e rfl), fun e => h.h7 (upd_ne e rfl), fun e => h.s0 (upd_f e), fun e => upd_t (h.c5 (upd_ne e rfl)), h.lo, h.b1, h.b3, h.bl⟩
theorem JR.p2 {w : World} {R P g1 g3 : Nat} {l : Int} {wx : World} {L : Nat → Bool} {x15 x16 x17 x18 x19 x2 x4 : Value} (h : JR w R P g1 g3 l L x15 x16 x17 x18 x19 x2 x4 wx) {v : Value} (hv : v = .pointer (some ⟨R, 0, none⟩)) : JR w R P g1 g3 l (upd L 2) x15 x16 v x18 x19 x2 x4 wx :=
  ⟨fun e => h.h0 (upd_ne e rfl), fun e => h.h1 (upd_ne e rfl), fun _ => hv, fun e => h.h3 (upd_ne e rfl), fun e => h.h4 (upd_ne e rfl), fun e => h.h5 (upd_ne e rfl), fun e => h.h6 (upd_ne e rfl), fun e => h.h7 (upd_ne e rfl), fun e => h.s0 (upd_f e), fun e => upd_t (h.c5 (upd_ne e rfl)), h.lo, h.b1, h.b3, h.bl⟩
theorem JR.p3 {w : World} {R P g1 g3 : Nat} {l : Int} {wx : World} {L : Nat → Bool} {x15 x16 x17 x18 x19 x2 x4 : Value} (h : JR w R P g1 g3 l L x15 x16 x17 x18 x19 x2 x4 wx) {v : Value} (hv : v = .int .i64 l) : JR w R P g1 g3 l (upd L 3) x15 x16 x17 v x19 x2 x4 wx :=
  ⟨fun e => h.h0 (upd_ne e rfl), fun e => h.h1 (upd_ne e rfl), fun e => h.h2 (upd_ne e rfl), fun _ => hv, fun e => h.h4 (upd_ne e rfl), fun e => h.h5 (upd_ne e rfl), fun e => h.h6 (upd_ne e rfl), fun e => h.h7 (upd_ne e rfl), fun e => h.s0 (upd_f e), fun e => upd_t (h.c5 (upd_ne e rfl)), h.lo, h.b1, h.b3, h.bl⟩
theorem JR.p5 {w : World} {R P g1 g3 : Nat} {l : Int} {wx : World} {L : Nat → Bool} {x15 x16 x17 x18 x19 x2 x4 : Value} (h : JR w R P g1 g3 l L x15 x16 x17 x18 x19 x2 x4 wx) (hL : L 4 = true) {v : Value} (hv : v = .int .i64 l) : JR w R P g1 g3 l (upd L 5) x15 x16 x17 x18 x19 (v) x4 wx := by
  exact ⟨fun e => h.h0 (upd_ne e rfl), fun e => h.h1 (upd_ne e rfl), fun e => h.h2 (upd_ne e rfl), fun e => h.h3 (upd_ne e rfl), fun e => h.h4 (upd_ne e rfl), fun _ => hv, fun e => h.h6 (upd_ne e rfl), fun e => h.h7 (upd_ne e rfl), fun e => h.s0 (upd_f e), fun _ => upd_t hL, h.lo, h.b1, h.b3, h.bl⟩
theorem JR.word {w : World} {R P g1 g3 : Nat} {l : Int} {wx : World} {L : Nat → Bool} {x15 x16 x17 x18 x19 x2 x4 : Value} (h : JR w R P g1 g3 l L x15 x16 x17 x18 x19 x2 x4 wx) (hL : L 4 = false) (z : Int) {wy : World} {Q : Nat} (hr : RdB wy R Q) (hg : wx.grownBy wy (some R)) : JR w R P g1 g3 l (upd L 4) x15 x16 x17 x18 (.int .i64 z) x2 x4 wy := by
  have k := (h.s0 hL).pick hr hg
  exact ⟨fun e => h.h0 (upd_ne e rfl), fun e => h.h1 (upd_ne e rfl), fun e => h.h2 (upd_ne e rfl), fun e => h.h3 (upd_ne e rfl), fun _ => ⟨z, rfl⟩, fun e => h.h5 (upd_ne e rfl), fun e => h.h6 (upd_ne e rfl), fun e => h.h7 (upd_ne e rfl), fun e => by simp [upd] at e, fun e => by simp [upd], h.lo, k.b1, k.b3, k.bl⟩
theorem JR.put {w : World} {R P g1 g3 : Nat} {l : Int} {wx : World} {L : Nat → Bool} {x15 x16 x17 x18 x19 x2 x4 : Value} (h : JR w R P g1 g3 l L x15 x16 x17 x18 x19 x2 x4 wx) (hL : L 4 = true) (k a b c : Int) : JR w R P g1 g3 l (upd L 6) x15 x16 x17 x18 x19 x2 x4 ((((wx.setCell ⟨g1, 0, none⟩ (.int .i64 k)).setCell ⟨g1, 1, none⟩ (.int .i64 a)).setCell ⟨g1, 2, none⟩ (.int .i64 b)).setCell ⟨g1, 3, none⟩ (.int .i64 c)) := by
  exact ⟨fun e => h.h0 (upd_ne e rfl), fun e => h.h1 (upd_ne e rfl), fun e => h.h2 (upd_ne e rfl), fun e => h.h3 (upd_ne e rfl), fun e => h.h4 (upd_ne e rfl), fun e => h.h5 (upd_ne e rfl), fun _ => trivial, fun e => h.h7 (upd_ne e rfl), (fun e => by rw [upd_f e] at hL; cases hL), fun _ => upd_t hL, h.lo, h.b1.put _ _ _ _, h.b3.two (Ne.symm h.lo.2) _ _ _ _, put4_below h.bl h.lo.1 _ _ _ _⟩
theorem JR.p7 {w : World} {R P g1 g3 : Nat} {l : Int} {wx : World} {L : Nat → Bool} {x15 x16 x17 x18 x19 x2 x4 : Value} (h : JR w R P g1 g3 l L x15 x16 x17 x18 x19 x2 x4 wx) {z : Int} : JR w R P g1 g3 l (upd L 7) x15 x16 x17 x18 x19 x2 (.int .i64 z) wx :=
  ⟨fun e => h.h0 (upd_ne e rfl), fun e => h.h1 (upd_ne e rfl), fun e => h.h2 (upd_ne e rfl), fun e => h.h3 (upd_ne e rfl), fun e => h.h4 (upd_ne e rfl), fun e => h.h5 (upd_ne e rfl), fun e => h.h6 (upd_ne e rfl), fun _ => ⟨z, rfl⟩, fun e => h.s0 (upd_f e), fun e => upd_t (h.c5 (upd_ne e rfl)), h.lo, h.b1, h.b3, h.bl⟩
set_option maxRecDepth 100000 in
set_option maxHeartbeats 4000000 in
theorem drawGateRun_b (A : Option Addr) (n c : Nat) (zs : List Int) (w : World) (h : IRk .u8 w A n zs) (hz : ∀ z ∈ zs, (Lit.int .u8 z).wf = true) (hc : n ≤ c) :
    Calls Try.prog 32 #[.slice A n c] w (FreshLGW w) := by
  have B0 := hide (show Below w.heap.size w (w.alloc (.cells #[.int .i64 0, .int .i64 0, .int .i64 0, .int .i64 0] 33)) by go_grown)
  have H := hide (h.below B0.out)
  have HZ := hide hz
  have X0 : Hid (Bx (w.alloc (.cells #[.int .i64 0, .int .i64 0, .int .i64 0, .int .i64 0] 33)) w.heap.size) := Bx.made w 0 0 0 0 _
  clear h hz
  go_enter Try.func32, Try.ntmps32
  go_wp2_with fail
  refine (open_b A n c zs _ H.out HZ.out hc).mono ?_
  rintro e w1 ⟨R, rfl, hR, hr, hb⟩
  have hR' : w.heap.size + 1 ≤ R := by simpa using hR
  have H1 := hide hr
  have X1 := hide (X0.out.below hb)
  have B1 := hide (B0.out.trans (hb.mono B0.out.size))
  clear hr hb
  go_wp2_with fail
  refine (l20Gated_b R 0 _ H1.out (by omega)).mono ?_
  rintro e w2 ⟨l, k, a, b, d, rfl, hl, hr, hg⟩
  have hlt := hr.lt
  have S2 : Hid (BG w R 22 w.heap.size w2.heap.size (w2.alloc (.cells #[.int .i64 k, .int .i64 a, .int .i64 b, .int .i64 d] 33))) := by
    have hs := (B1.out.grown hg B1.out.size (by simp; omega)).size
    exact ⟨rd_alloc (hr.mono (by omega)) _, by omega, (X1.out.grown hg (by simp; omega)).below ((Below.refl _ _).alloc (Nat.le_refl _) _), Bx.made _ _ _ _ _ _, (B1.out.grown hg B1.out.size (by simp; omega)).alloc (B1.out.grown hg B1.out.size (by simp; omega)).size _⟩
  have HL := hide hl
  clear hr hg hl X0 X1
  go_upto_region 3 with fail
  go_cut [2, 4] from 15 to 19 (fun v u wx => ∃ z : Int, v = .int .i64 l ∧ u = .int .i64 z ∧ Hid (Bx wx w.heap.size ∧ Below w.heap.size w wx))
  case first =>

    refine wp_frame fun a0 ha0 => ?_
    have HA := Lib.hid ha0
    clear ha0
    refine wp_region_inv (fun L a wx => ∃ x15 x16 x17 x18 x19 x2 x4, a = putL a0 [(15, x15), (16, x16), (17, x17), (18, x18), (19, x19), (2, x2), (4, x4)] ∧ Hid (JR w R 22 w.heap.size w2.heap.size l L x15 x16 x17 x18 x19 x2 x4 wx)) (by kernel_rfl) (by kernel_rfl) ?_ ?_ ?_
    · exact ⟨_, _, _, _, _, _, _, putL_self a0 [15, 16, 17, 18, 19, 2, 4], hide (JR.start S2.out.drew)⟩
    · refine ⟨?_, ?_, ?_, ?_, ?_, ?_, ?_, ?_, trivial⟩
      · intro L a wx hL0 hd
        rintro ⟨x15, x16, x17, x18, x19, x2, x4, rfl, HJ⟩
        have hD := hd
        try simp [deps, Region.binds] at hD
        clear hD hd
        rw [← HA.out]
        simp only [putL, List.setIfInBounds_toArray, List.set_cons_succ, List.set_cons_zero]
        go_wp2_with fail
        refine ⟨_, _, _, _, _, _, _, ?_, hide (HJ.out.p0 rfl)⟩
        · try rw [← HA.out]
          try simp only [putL, List.setIfInBounds_toArray, List.set_cons_succ, List.set_cons_zero]
      · intro L a wx hL0 hd
        rintro ⟨x15, x16, x17, x18, x19, x2, x4, rfl, HJ⟩
        have hD := hd
        try simp [deps, Region.binds] at hD
        obtain ⟨⟨k, a, b, c, y0, y1, y2, y3⟩, _⟩ := HJ.out.b3
        clear hD hd
        rw [← HA.out]
        simp only [putL, List.setIfInBounds_toArray, List.set_cons_succ, List.set_cons_zero]
        go_wp2_with fail
        refine ⟨_, _, _, _, _, _, _, ?_, hide (HJ.out.p1 ⟨k, a, b, c, rfl⟩)⟩
        · try rw [← HA.out]
          try simp only [putL, List.setIfInBounds_toArray, List.set_cons_succ, List.set_cons_zero]
      · intro L a wx hL0 hd
        rintro ⟨x15, x16, x17, x18, x19, x2, x4, rfl, HJ⟩
        have hD := hd
        try simp [deps, Region.binds] at hD
        clear hD hd
        rw [← HA.out]
        simp only [putL, List.setIfInBounds_toArray, List.set_cons_succ, List.set_cons_zero]
        go_wp2_with fail
        refine ⟨_, _, _, _, _, _, _, ?_, hide (HJ.out.p2 rfl)⟩
        · try rw [← HA.out]
          try simp only [putL, List.setIfInBounds_toArray, List.set_cons_succ, List.set_cons_zero]
      · intro L a wx hL0 hd
        rintro ⟨x15, x16, x17, x18, x19, x2, x4, rfl, HJ⟩
        have hD := hd
        try simp [deps, Region.binds] at hD
        clear hD hd
        rw [← HA.out]
        simp only [putL, List.setIfInBounds_toArray, List.set_cons_succ, List.set_cons_zero]
        go_wp2_with fail
        refine ⟨_, _, _, _, _, _, _, ?_, hide (HJ.out.p3 rfl)⟩
        · try rw [← HA.out]
          try simp only [putL, List.setIfInBounds_toArray, List.set_cons_succ, List.set_cons_zero]
      · intro L a wx hL0 hd
        rintro ⟨x15, x16, x17, x18, x19, x2, x4, rfl, HJ⟩
        have hD := hd
        try simp [deps, Region.binds] at hD
        obtain rfl := HJ.out.h2 (by simp [hD])
        obtain rfl := HJ.out.h3 (by simp [hD])
        clear hD hd
        rw [← HA.out]
        simp only [putL, List.setIfInBounds_toArray, List.set_cons_succ, List.set_cons_zero]
        go_wp2_with fail
        refine (l20Word_b R 22 l 12 _ (HJ.out.s0 hL0).rd (by omega) HL.out (by omega)).mono ?_
        rintro e w1 ⟨z, rfl, hz⟩
        have HJ2 := hide (HJ.out.word hL0 z hz.rd hz.gr)
        clear hz
        go_wp2_with fail
        refine ⟨_, _, _, _, _, _, _, ?_, hide (HJ2.out)⟩
        · try rw [← HA.out]
          try simp only [putL, List.setIfInBounds_toArray, List.set_cons_succ, List.set_cons_zero]
      · intro L a wx hL0 hd
        rintro ⟨x15, x16, x17, x18, x19, x2, x4, rfl, HJ⟩
        have hD := hd
        try simp [deps, Region.binds] at hD
        have hL4 : L 4 = true := by simp [hD]
        obtain rfl := HJ.out.h0 (by simp [hD])
        clear hD hd
        rw [← HA.out]
        simp only [putL, List.setIfInBounds_toArray, List.set_cons_succ, List.set_cons_zero]
        go_wp2_with fail
        refine ⟨_, _, _, _, _, _, _, ?_, hide (HJ.out.p5 hL4 rfl)⟩
        · try rw [← HA.out]
          try simp only [putL, List.setIfInBounds_toArray, List.set_cons_succ, List.set_cons_zero]
      · intro L a wx hL0 hd
        rintro ⟨x15, x16, x17, x18, x19, x2, x4, rfl, HJ⟩
        have hD := hd
        try simp [deps, Region.binds] at hD
        have hL4 : L 4 = true := HJ.out.c5 (by simp [hD])
        obtain ⟨k, a, b, c, rfl⟩ := HJ.out.h1 (by simp [hD])
        obtain ⟨⟨k0, a0_, b0, c0, y0, y1, y2, y3⟩, fx⟩ := HJ.out.b1
        unfold Free at fx
        clear hD hd
        rw [← HA.out]
        simp only [putL, List.setIfInBounds_toArray, List.set_cons_succ, List.set_cons_zero]
        go_wp2_with fail
        refine ⟨_, _, _, _, _, _, _, ?_, hide (HJ.out.put hL4 k a b c)⟩
        · try rw [← HA.out]
          try simp only [putL, List.setIfInBounds_toArray, List.set_cons_succ, List.set_cons_zero]
      · intro L a wx hL0 hd
        rintro ⟨x15, x16, x17, x18, x19, x2, x4, rfl, HJ⟩
        have hD := hd
        try simp [deps, Region.binds] at hD
        obtain ⟨z, rfl⟩ := HJ.out.h4 (by simp [hD])
        clear hD hd
        rw [← HA.out]
        simp only [putL, List.setIfInBounds_toArray, List.set_cons_succ, List.set_cons_zero]
        go_wp2_with fail
        refine ⟨_, _, _, _, _, _, _, ?_, hide (HJ.out.p7 (z := z))⟩
        · try rw [← HA.out]
          try simp only [putL, List.setIfInBounds_toArray, List.set_cons_succ, List.set_cons_zero]
    · intro L a wx hall
      rintro ⟨x15, x16, x17, x18, x19, x2, x4, rfl, HJ⟩
      rw [← HA.out]
      simp only [putL, List.setIfInBounds_toArray, List.set_cons_succ, List.set_cons_zero]
      obtain rfl := HJ.out.h5 (hall 5 (by decide))
      obtain ⟨z, rfl⟩ := HJ.out.h7 (hall 7 (by decide))
      have S3 := hide (And.intro HJ.out.b1 HJ.out.bl)
      go_wp2_with fail
      go_meet
      exact ⟨z, rfl, rfl, S3⟩
  case rest =>
    obtain ⟨z, rfl, rfl, S3⟩ := hcut
    obtain ⟨⟨k1, a1, b1, c1, y0, y1, y2, y3⟩, _⟩ := S3.out.1
    go_wp2_with fail
    exact bodyPost_ret (v := .tuple #[.int .i64 l, .agg #[.int .i64 k1, .int .i64 a1, .int .i64 b1, .int .i64 c1], .int .i64 z]) (by simp [results, Try.results32, go_sem, y0, y1, y2, y3]) rfl ⟨l, _, _, _, _, z, rfl, HL.out, S3.out.2⟩
end Go.Proofs.Ytdkphnojloanoaa
