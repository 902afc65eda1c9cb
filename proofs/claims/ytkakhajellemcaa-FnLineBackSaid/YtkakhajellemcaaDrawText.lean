/-
  The draw of one statement of a program, of any kind.
  No condition.
-/
import Derived.Deep.RegionWith
import Derived.Deep.DeepCutAuto
import Derived.Deep.CutBlock
import Derived.Test.YtkakhajellemcaaDrawLine
namespace Go.Proofs.Ytkakhajellemcaa
open Go.RowKit Go.Sort base
/-- the draw under way: the result's box, the statement's box, the reader -/
structure LSt (w : World) (R P g4 g5 : Nat) (N : Int) (wx : World) : Prop where
  lo : w.heap.size ≤ g4 ∧ w.heap.size ≤ g5 ∧ g4 ≠ g5 ∧ R < w.heap.size
  b4 : Box4 wx g4 0 0 0 0
  f4 : Free wx g4
  b5 : ∃ k v m n : Int, Box4 wx g5 k v m n ∧ 0 ≤ n ∧ n ≤ N
  f5 : Free wx g5
  rd : RdB wx R P
  gr : w.grownBy wx (some R)
theorem LSt.lt4 {w wx : World} {R P g4 g5 : Nat} {N : Int} (h : LSt w R P g4 g5 N wx) : g4 < wx.heap.size := h.b4.lt
theorem LSt.lt5 {w wx : World} {R P g4 g5 : Nat} {N : Int} (h : LSt w R P g4 g5 N wx) : g5 < wx.heap.size := by
  obtain ⟨k, v, m, n, hb, _⟩ := h.b5; exact hb.lt
theorem LSt.grown {w wx wy : World} {R P Q g4 g5 : Nat} {N : Int} (h : LSt w R P g4 g5 N wx) (hr : RdB wy R Q) (hg : wx.grownBy wy (some R)) : LSt w R Q g4 g5 N wy := by
  have hl := h.lo
  refine ⟨h.lo, h.b4.grown hg (by omega), h.f4.grown h.lt4 hg (by omega), ?_, h.f5.grown h.lt5 hg (by omega), hr, grown_seq h.gr hg⟩
  obtain ⟨k, v, m, n, hb, hn⟩ := h.b5
  exact ⟨k, v, m, n, hb.grown hg (by omega), hn⟩
theorem LSt.alloc {w wx : World} {R P g4 g5 : Nat} {N : Int} (h : LSt w R P g4 g5 N wx) (o : Obj) : LSt w R P g4 g5 N (wx.alloc o) := h.grown (rd_alloc h.rd o) (World.grownBy_alloc _ _ _)
theorem LSt.drew {w wx : World} {R P g4 g5 : Nat} {N : Int} (h : LSt w R P g4 g5 N wx) : LSt w R P g4 g5 N wx.drew := ⟨h.lo, h.b4, h.f4, h.b5, h.f5, h.rd.below (below_drewN (Below.refl _ wx) 1), ⟨h.gr.os, h.gr.tape, h.gr.output, h.gr.size, h.gr.block⟩⟩
theorem LSt.mono {w wx : World} {R P Q g4 g5 : Nat} {N : Int} (h : LSt w R P g4 g5 N wx) (hq : P ≤ Q) : LSt w R Q g4 g5 N wx := ⟨h.lo, h.b4, h.f4, h.b5, h.f5, h.rd.mono hq, h.gr⟩
theorem Free.set {w : World} {g : Nat} (h : Free w g) (a : Addr) (v : Value) : Free (w.setCell a v) g := fun j => (World.frozen?_setCell _ _ _ _).trans (h j)
theorem set1_grown (w : World) (g i : Nat) (v : Value) : w.grownBy (w.setCell ⟨g, i, none⟩ v) (some g) :=
  ⟨rfl, rfl, rfl, by simp [World.setCell], fun k _ hne => heap_setCell_other _ ⟨g, i, none⟩ k _ (fun e => hne (by simp [e]))⟩
/-- the statement's box written anew -/
theorem LSt.put {w wx : World} {R P g4 g5 : Nat} {N M : Int} (h : LSt w R P g4 g5 N wx) (k v m n : Int) (hn : 0 ≤ n ∧ n ≤ M) :
    LSt w R P g4 g5 M ((((wx.setCell ⟨g5, 0, none⟩ (.int .i64 k)).setCell ⟨g5, 1, none⟩ (.int .i64 v)).setCell ⟨g5, 2, none⟩ (.int .i64 m)).setCell ⟨g5, 3, none⟩ (.int .i64 n)) := by
  obtain ⟨l1, l2, l3, l4⟩ := h.lo
  obtain ⟨k0, v0, m0, n0, hb, _⟩ := h.b5
  have hg := put4_grown wx g5 (.int .i64 k) (.int .i64 v) (.int .i64 m) (.int .i64 n)
  refine ⟨h.lo, (((h.b4.set l3).set l3).set l3).set l3, (((h.f4.set _ _).set _ _).set _ _).set _ _, ⟨k, v, m, n, box4_put hb k v m n, hn⟩, (((h.f5.set _ _).set _ _).set _ _).set _ _, ?_, grown_own h.gr hg (by simpa using l2)⟩
  exact h.rd.grown hg (by simp; omega)
/-- one number of the statement written anew -/
theorem LSt.set0 {w wx : World} {R P g4 g5 : Nat} {N : Int} (h : LSt w R P g4 g5 N wx) (i : Nat) (hi : i = 0 ∨ i = 1) (z : Int) : LSt w R P g4 g5 N (wx.setCell ⟨g5, i, none⟩ (.int .i64 z)) := by
  obtain ⟨l1, l2, l3, l4⟩ := h.lo
  obtain ⟨k0, v0, m0, n0, ⟨h0, h1, h2, h3⟩, hn⟩ := h.b5
  have hg := set1_grown wx g5 i (.int .i64 z)
  refine ⟨h.lo, h.b4.set l3, h.f4.set _ _, ?_, h.f5.set _ _, h.rd.grown hg (by simp; omega), grown_own h.gr hg (by simpa using l2)⟩
  rcases hi with rfl | rfl
  · exact ⟨z, v0, m0, n0, ⟨World.cell?_setCell_same _ _ _ h0, by rw [World.cell?_setCell_other _ _ _ _ (by simp)]; exact h1, by rw [World.cell?_setCell_other _ _ _ _ (by simp)]; exact h2, by rw [World.cell?_setCell_other _ _ _ _ (by simp)]; exact h3⟩, hn⟩
  · exact ⟨k0, z, m0, n0, ⟨by rw [World.cell?_setCell_other _ _ _ _ (by simp)]; exact h0, World.cell?_setCell_same _ _ _ h1, by rw [World.cell?_setCell_other _ _ _ _ (by simp)]; exact h2, by rw [World.cell?_setCell_other _ _ _ _ (by simp)]; exact h3⟩, hn⟩
theorem LSt.set3 {w wx : World} {R P g4 g5 : Nat} {N M : Int} (h : LSt w R P g4 g5 N wx) (z : Int) (hz : 0 ≤ z ∧ z ≤ M) : LSt w R P g4 g5 M (wx.setCell ⟨g5, 3, none⟩ (.int .i64 z)) := by
  obtain ⟨l1, l2, l3, l4⟩ := h.lo
  obtain ⟨k0, v0, m0, n0, ⟨h0, h1, h2, h3⟩, hn⟩ := h.b5
  have hg := set1_grown wx g5 3 (.int .i64 z)
  refine ⟨h.lo, h.b4.set l3, h.f4.set _ _, ?_, h.f5.set _ _, h.rd.grown hg (by simp; omega), grown_own h.gr hg (by simpa using l2)⟩
  exact ⟨k0, v0, m0, z, ⟨by rw [World.cell?_setCell_other _ _ _ _ (by simp)]; exact h0, by rw [World.cell?_setCell_other _ _ _ _ (by simp)]; exact h1, by rw [World.cell?_setCell_other _ _ _ _ (by simp)]; exact h2, World.cell?_setCell_same _ _ _ h3⟩, hz⟩
/-- the end: the statement goes to the result's box -/
theorem LSt.fin {w wx : World} {R P g4 g5 : Nat} {N : Int} (h : LSt w R P g4 g5 N wx) (k v m n : Int) :
    Box4 ((((wx.setCell ⟨g4, 0, none⟩ (.int .i64 k)).setCell ⟨g4, 1, none⟩ (.int .i64 v)).setCell ⟨g4, 2, none⟩ (.int .i64 m)).setCell ⟨g4, 3, none⟩ (.int .i64 n)) g4 k v m n ∧
    RdB ((((wx.setCell ⟨g4, 0, none⟩ (.int .i64 k)).setCell ⟨g4, 1, none⟩ (.int .i64 v)).setCell ⟨g4, 2, none⟩ (.int .i64 m)).setCell ⟨g4, 3, none⟩ (.int .i64 n)) R P ∧
    w.grownBy ((((wx.setCell ⟨g4, 0, none⟩ (.int .i64 k)).setCell ⟨g4, 1, none⟩ (.int .i64 v)).setCell ⟨g4, 2, none⟩ (.int .i64 m)).setCell ⟨g4, 3, none⟩ (.int .i64 n)) (some R) := by
  obtain ⟨l1, l2, l3, l4⟩ := h.lo
  have hg := put4_grown wx g4 (.int .i64 k) (.int .i64 v) (.int .i64 m) (.int .i64 n)
  exact ⟨box4_put h.b4 k v m n, h.rd.grown hg (by simp; omega), grown_own h.gr hg (by simpa using l1)⟩
def of2 (a b : Int) (t : Nat) : Int := if t = 0 then a else b
theorem lit2 (a b : Int) (t : Nat) (ht : t ≤ 1) : ∀ W : World, (W.alloc (.cells #[.int .i64 a, .int .i64 b] 3)).cell? ⟨W.heap.size, t, none⟩ = some (.int .i64 (of2 a b t)) := by
  intro W
  rcases (show t = 0 ∨ t = 1 by omega) with rfl | rfl
  · exact cell_at rfl rfl
  · exact cell_at rfl rfl
set_option maxHeartbeats 8000000 in
theorem l20Text_b (R p : Nat) (M : Int) (w : World) (h : RdB w R p) (hp : p ≤ 100000) (hM : 0 ≤ M ∧ M ≤ 1000) :
    Calls Try.prog 28 #[.pointer (some ⟨R, 0, none⟩), .int .i64 M] w (DrawnLine w R (p + 12) 127) := by
  obtain ⟨hM0, hM1⟩ := hM
  have hlt := h.lt
  have H0 := hide (rd_alloc h (.cells #[.int .i64 0, .int .i64 0, .int .i64 0, .int .i64 0] 25))
  have G0 := hide (World.grownBy_alloc w (.cells #[.int .i64 0, .int .i64 0, .int .i64 0, .int .i64 0] 25) (some R))
  have X0 := hide (Box4.made w 0 0 0 0 25)
  have F0 : Hid (Free (w.alloc (.cells #[.int .i64 0, .int .i64 0, .int .i64 0, .int .i64 0] 25)) w.heap.size) := free_made w _ _
  clear h
  go_enter Try.func28, Try.ntmps28
  go_wp2_with fail
  refine (l20Plain_b R p _ H0.out (by omega)).mono ?_
  rintro e w1 ⟨k1, v1, m1, n1, rfl, hn, hr, hg⟩
  have hs1 : w.heap.size + 1 ≤ w1.heap.size := by have := hg.size; simpa using this
  have S1 : Hid (LSt w R (p + 3) w.heap.size w1.heap.size 63 (w1.alloc (.cells #[.int .i64 k1, .int .i64 v1, .int .i64 m1, .int .i64 n1] 25))) := by
    refine ⟨by omega, ?_, ?_, ⟨k1, v1, m1, n1, Box4.made w1 _ _ _ _ _, hn⟩, free_made w1 _ _, rd_alloc hr _, grown_seq (grown_seq G0.out hg) (World.grownBy_alloc _ _ _)⟩
    · exact (X0.out.grown hg (by omega)).below ((Below.refl _ _).alloc (Nat.le_refl _) _)
    · exact (F0.out.grown X0.out.lt hg (by omega)).below (by omega) ((Below.refl _ _).alloc (Nat.le_refl _) _)
  clear hr hg hn
  go_wp2_with fail
  refine (pick_b R (p + 3) 6 _ S1.out.rd (by omega) (by omega)).mono ?_
  rintro e w2 ⟨r2, rfl, a2, b2, _, hr, hg⟩
  have c2 := b2 (by omega)
  have S2 := hide (S1.out.grown hr hg)
  clear hr hg b2 S1
  go_upto_block 0 with fail
  go_cut [] from 10 to 34 (fun wx => Hid (LSt w R (p + 8) w.heap.size w1.heap.size 63 wx))
  case first =>
    rcases (show r2 = 0 ∨ r2 = 1 ∨ r2 = 2 ∨ r2 = 3 ∨ r2 = 4 ∨ r2 = 5 by omega) with rfl | rfl | rfl | rfl | rfl | rfl
    · clear a2 c2
      go_wp2_with fail
      refine (pick_b R (p + 3 + 1) 4 _ S2.out.rd (by omega) (by omega)).mono ?_
      rintro e w3 ⟨r3, rfl, a3, b3, _, hr, hg⟩
      have c3 := b3 (by omega)
      have S3 := hide (S2.out.grown hr hg)
      clear hr hg b3
      obtain ⟨k, v, m, n, ⟨x0, x1, x2, x3⟩, _⟩ := S3.out.b5
      have fx := S3.out.f5
      unfold Free at fx
      go_wp2_with fail
      go_meet
      exact (S3.out.put _ _ _ _ ⟨by omega, by omega⟩).mono (by omega)
    · clear a2 c2
      go_wp2_with fail
      have S2' := hide (S2.out.alloc (.cells #[.int .i64 5, .int .i64 7] 3))
      refine (pick_b R (p + 3 + 1) 2 _ S2'.out.rd (by omega) (by omega)).mono ?_
      rintro e w3 ⟨r3, rfl, a3, b3, _, hr, hg⟩
      have c3 := b3 (by omega)
      have S3 := hide (S2'.out.grown hr hg)
      have hltw := S2.out.gr.size
      have ha : w3.cell? ⟨w2.heap.size, 0, none⟩ = some (.int .i64 5) := hg.cell (cell_at rfl rfl) (by simp; omega)
      have hb : w3.cell? ⟨w2.heap.size, 1, none⟩ = some (.int .i64 7) := hg.cell (cell_at rfl rfl) (by simp; omega)
      clear hr hg b3
      obtain ⟨k, v, m, n, ⟨x0, x1, x2, x3⟩, _⟩ := S3.out.b5
      have fx := S3.out.f5
      unfold Free at fx
      rcases (show r3 = 0 ∨ r3 = 1 by omega) with rfl | rfl
      all_goals
        go_wp2_with fail
        go_meet
        exact (S3.out.put _ _ _ _ ⟨by omega, by omega⟩).mono (by omega)
    · clear a2 c2
      have hs2 := S2.out.gr.size
      go_wp2_with fail
      go_region_with (go_at_call 35; first
        | ((with_reducible refine (pick_b R (p + 3 + 1) 2 _ ?_ ?_ ?_).mono ?_); (first | exact (S2.out).rd | exact (S2.out.drew).rd | exact (S2.out.alloc _).rd | exact ((S2.out.alloc _).drew).rd); omega; omega; rintro e w3 ⟨r3, rfl, a3, b3, _, hr, hg⟩; have c3 := b3 (by omega); have S3 : Hid (LSt w R (p + 3 + 1 + 1) w.heap.size w1.heap.size 63 w3) := (by first | exact (S2.out).grown hr hg | exact (S2.out.drew).grown hr hg | exact (S2.out.alloc _).grown hr hg | exact ((S2.out.alloc _).drew).grown hr hg); have hs3 := S3.out.gr.size; obtain ⟨t, rfl⟩ := Int.eq_ofNat_of_zero_le a3; have hlit := lit2 6 8 t (by omega); (try (have hz3 : w3.cell? ⟨w2.heap.size, t, none⟩ = some (.int .i64 (of2 6 8 t)) := hg.cell (hlit w2) (by simp; omega))); clear hr hg b3)
        | ((with_reducible refine (pick_b R (p + 3 + 1 + 1) 4 _ ?_ ?_ ?_).mono ?_); (first | exact (S3.out).rd | exact (S3.out.drew).rd | exact (S3.out.alloc _).rd | exact ((S3.out.alloc _).drew).rd); omega; omega; rintro e w4 ⟨r4, rfl, a4, b4, _, hr, hg⟩; have c4 := b4 (by omega); have S4 : Hid (LSt w R (p + 3 + 1 + 1 + 1) w.heap.size w1.heap.size 63 w4) := (by first | exact (S3.out).grown hr hg | exact (S3.out.drew).grown hr hg | exact (S3.out.alloc _).grown hr hg | exact ((S3.out.alloc _).drew).grown hr hg); have hs4 := S4.out.gr.size; (try (have hz4 : w4.cell? ⟨w2.heap.size, t, none⟩ = some (.int .i64 (of2 6 8 t)) := hg.cell hz3 (by simp; omega))); (try (have hy4 : w4.cell? ⟨w3.heap.size, t, none⟩ = some (.int .i64 (of2 6 8 t)) := hg.cell (hlit w3) (by simp; omega))); clear hr hg b4)
        | ((with_reducible refine (pick_b R (p + 3 + 1 + 1 + 1) 64 _ ?_ ?_ ?_).mono ?_); (first | exact (S4.out).rd | exact (S4.out.drew).rd | exact (S4.out.alloc _).rd | exact ((S4.out.alloc _).drew).rd); omega; omega; rintro e w5 ⟨r5, rfl, a5, b5, _, hr, hg⟩; have c5 := b5 (by omega); have S5 : Hid (LSt w R (p + 3 + 1 + 1 + 1 + 1) w.heap.size w1.heap.size 63 w5) := (by first | exact (S4.out).grown hr hg | exact (S4.out.drew).grown hr hg | exact (S4.out.alloc _).grown hr hg | exact ((S4.out.alloc _).drew).grown hr hg); have hs5 := S5.out.gr.size; (try (have hz5 : w5.cell? ⟨w2.heap.size, t, none⟩ = some (.int .i64 (of2 6 8 t)) := hg.cell hz4 (by simp; omega))); (try (have hy5 : w5.cell? ⟨w3.heap.size, t, none⟩ = some (.int .i64 (of2 6 8 t)) := hg.cell hy4 (by simp; omega))); (try (have hx5 : w5.cell? ⟨w4.heap.size, t, none⟩ = some (.int .i64 (of2 6 8 t)) := hg.cell (hlit w4) (by simp; omega))); obtain ⟨k, v, m, n, ⟨x0, x1, x2, x3⟩, _⟩ := S5.out.b5; have fx := S5.out.f5; have l5 := S5.out.lt5; unfold Free at fx; clear hr hg b5))
      all_goals go_wp2_with fail
      all_goals go_meet
      all_goals first
        | exact (S5.out.put _ _ _ _ ⟨by omega, by omega⟩).mono (by omega)
        | exact (S5.out.drew.put _ _ _ _ ⟨by omega, by omega⟩).mono (by omega)
        | exact ((S5.out.alloc _).put _ _ _ _ ⟨by omega, by omega⟩).mono (by omega)
        | exact ((S5.out.put _ _ _ _ ⟨by omega, by omega⟩).alloc _).mono (by omega)
    all_goals
      clear a2 c2
      go_wp2_with fail
      go_meet
      exact S2.out.mono (by omega)
  case rest =>
  have S5 := hcut
  clear S2 hcut a2 c2
  go_wp2_with fail
  refine (odd_b R (p + 8) M _ S5.out.rd (by omega) ⟨by omega, by omega⟩).mono ?_
  rintro e w6 ⟨bo, rfl, hr, hg⟩
  have S6 := hide (S5.out.grown hr hg)
  clear hr hg
  cases bo
  · obtain ⟨k, v, m, n, ⟨x0, x1, x2, x3⟩, hn⟩ := S6.out.b5
    obtain ⟨y0, y1, y2, y3⟩ := S6.out.b4
    have fx := S6.out.f4
    unfold Free at fx
    go_wp2_with fail
    refine post_named fun w7 hw7 => ?_
    obtain ⟨⟨p0, p1, p2, p3⟩, hr, hg⟩ : Box4 w7 w.heap.size k v m n ∧ RdB w7 R (p + 8 + 1) ∧ w.grownBy w7 (some R) := by rw [← hw7]; exact S6.out.fin _ _ _ _
    clear hw7
    exact bodyPost_ret (v := .agg #[.int .i64 k, .int .i64 v, .int .i64 m, .int .i64 n]) (by simp [results, Try.results28, go_sem, p0, p1, p2, p3]) rfl ⟨k, v, m, n, rfl, ⟨by omega, by omega⟩, hr.mono (by omega), hg⟩
  · go_wp2_with fail
    refine (pick_b R (p + 8 + 1) 3 _ S6.out.rd (by omega) (by omega)).mono ?_
    rintro e w7 ⟨r7, rfl, a7, b7, _, hr, hg⟩
    have c7 := b7 (by omega)
    have S7 := hide (S6.out.grown hr hg)
    clear hr hg b7
    rcases (show r7 = 0 ∨ r7 = 1 ∨ r7 = 2 by omega) with rfl | rfl | rfl
    · clear a7 c7
      go_wp2_with fail
      have S7' := hide (S7.out.alloc (.cells #[.int .i64 (-1), .int .i64 9] 3))
      refine (pick_b R (p + 8 + 1 + 1) 2 _ S7'.out.rd (by omega) (by omega)).mono ?_
      rintro e w8 ⟨r8, rfl, a8, b8, _, hr, hg⟩
      have c8 := b8 (by omega)
      have S8 := hide (S7'.out.grown hr hg)
      have hltw := S7.out.gr.size
      have ha : w8.cell? ⟨w7.heap.size, 0, none⟩ = some (.int .i64 (-1)) := hg.cell (cell_at rfl rfl) (by simp; omega)
      have hb : w8.cell? ⟨w7.heap.size, 1, none⟩ = some (.int .i64 9) := hg.cell (cell_at rfl rfl) (by simp; omega)
      clear hr hg b8
      obtain ⟨k, v, m, n, ⟨x0, x1, x2, x3⟩, hn⟩ := S8.out.b5
      obtain ⟨y0, y1, y2, y3⟩ := S8.out.b4
      have fx := S8.out.f4
      have fy := S8.out.f5
      unfold Free at fx fy
      have hne := S8.out.lo.2.2.1
      rcases (show r8 = 0 ∨ r8 = 1 by omega) with rfl | rfl
      · go_wp2_with fail
        refine post_named fun w9 hw9 => ?_
        obtain ⟨⟨p0, p1, p2, p3⟩, hr, hg⟩ : Box4 w9 w.heap.size (-1) v m n ∧ RdB w9 R (p + 8 + 1 + 1 + 1) ∧ w.grownBy w9 (some R) := by rw [← hw9]; exact (S8.out.set0 0 (.inl rfl) (-1)).fin _ _ _ _
        clear hw9
        exact bodyPost_ret (v := .agg #[.int .i64 (-1), .int .i64 v, .int .i64 m, .int .i64 n]) (by simp [results, Try.results28, go_sem, p0, p1, p2, p3]) rfl ⟨(-1), v, m, n, rfl, ⟨by omega, by omega⟩, hr.mono (by omega), hg⟩
      · go_wp2_with fail
        refine post_named fun w9 hw9 => ?_
        obtain ⟨⟨p0, p1, p2, p3⟩, hr, hg⟩ : Box4 w9 w.heap.size 9 v m n ∧ RdB w9 R (p + 8 + 1 + 1 + 1) ∧ w.grownBy w9 (some R) := by rw [← hw9]; exact (S8.out.set0 0 (.inl rfl) 9).fin _ _ _ _
        clear hw9
        exact bodyPost_ret (v := .agg #[.int .i64 9, .int .i64 v, .int .i64 m, .int .i64 n]) (by simp [results, Try.results28, go_sem, p0, p1, p2, p3]) rfl ⟨9, v, m, n, rfl, ⟨by omega, by omega⟩, hr.mono (by omega), hg⟩
    · clear a7 c7
      obtain ⟨k, v, m, n, ⟨x0, x1, x2, x3⟩, hn⟩ := S7.out.b5
      obtain ⟨y0, y1, y2, y3⟩ := S7.out.b4
      have fx := S7.out.f4
      have fy := S7.out.f5
      unfold Free at fx fy
      have hne := S7.out.lo.2.2.1
      go_wp2_with fail
      refine post_named fun w9 hw9 => ?_
      obtain ⟨⟨p0, p1, p2, p3⟩, hr, hg⟩ : Box4 w9 w.heap.size k 4 m n ∧ RdB w9 R (p + 8 + 1 + 1) ∧ w.grownBy w9 (some R) := by rw [← hw9]; exact (S7.out.set0 1 (.inr rfl) 4).fin _ _ _ _
      clear hw9
      exact bodyPost_ret (v := .agg #[.int .i64 k, .int .i64 4, .int .i64 m, .int .i64 n]) (by simp [results, Try.results28, go_sem, p0, p1, p2, p3]) rfl ⟨k, 4, m, n, rfl, ⟨by omega, by omega⟩, hr.mono (by omega), hg⟩
    · clear a7 c7
      obtain ⟨k, v, m, n, ⟨x0, x1, x2, x3⟩, hn0, hn1⟩ := S7.out.b5
      obtain ⟨y0, y1, y2, y3⟩ := S7.out.b4
      have fx := S7.out.f4
      have fy := S7.out.f5
      unfold Free at fx fy
      have hne := S7.out.lo.2.2.1
      go_wp2_with fail
      refine post_named fun w9 hw9 => ?_
      obtain ⟨⟨p0, p1, p2, p3⟩, hr, hg⟩ : Box4 w9 w.heap.size k v m (n + 64) ∧ RdB w9 R (p + 8 + 1 + 1) ∧ w.grownBy w9 (some R) := by rw [← hw9]; exact (S7.out.set3 (M := 127) (n + 64) ⟨by omega, by omega⟩).fin _ _ _ _
      clear hw9
      exact bodyPost_ret (v := .agg #[.int .i64 k, .int .i64 v, .int .i64 m, .int .i64 (n + 64)]) (by simp [results, Try.results28, go_sem, p0, p1, p2, p3]) rfl ⟨k, v, m, n + 64, rfl, ⟨by omega, by omega⟩, hr.mono (by omega), hg⟩
end Go.Proofs.Ytkakhajellemcaa
