/-
  What undoes a statement, by the program and by the reference.
  No condition.
-/
import Derived.Test.YtkakhajellemcaaLines
namespace Go.Proofs.Ytkakhajellemcaa
open Go.RowKit Go.Sort base
theorem post_named {P : Program} {f : Func} {Q : Ending → World → Prop} {x : Exit} {a : Act} {W : World} (h : ∀ wr, W = wr → bodyPost P f Q x a wr) : bodyPost P f Q x a W := h _ rfl
theorem box4_put {w : World} {g : Nat} {k0 a0 b0 c0 : Int} (h : Box4 w g k0 a0 b0 c0) (k a b c : Int) :
    Box4 ((((w.setCell ⟨g, 0, none⟩ (.int .i64 k)).setCell ⟨g, 1, none⟩ (.int .i64 a)).setCell ⟨g, 2, none⟩ (.int .i64 b)).setCell ⟨g, 3, none⟩ (.int .i64 c)) g k a b c := by
  obtain ⟨h0, h1, h2, h3⟩ := h
  refine ⟨?_, ?_, ?_, ?_⟩
  · rw [World.cell?_setCell_other _ _ _ _ (by simp), World.cell?_setCell_other _ _ _ _ (by simp), World.cell?_setCell_other _ _ _ _ (by simp)]
    exact World.cell?_setCell_same _ _ _ h0
  · rw [World.cell?_setCell_other _ _ _ _ (by simp), World.cell?_setCell_other _ _ _ _ (by simp)]
    exact World.cell?_setCell_same _ _ _ (by rw [World.cell?_setCell_other _ _ _ _ (by simp)]; exact h1)
  · rw [World.cell?_setCell_other _ _ _ _ (by simp)]
    exact World.cell?_setCell_same _ _ _ (by rw [World.cell?_setCell_other _ _ _ _ (by simp), World.cell?_setCell_other _ _ _ _ (by simp)]; exact h2)
  · exact World.cell?_setCell_same _ _ _ (by rw [World.cell?_setCell_other _ _ _ _ (by simp), World.cell?_setCell_other _ _ _ _ (by simp), World.cell?_setCell_other _ _ _ _ (by simp)]; exact h3)
theorem free_made (w : World) (cs : Array Value) (t : TypeId) : ∀ i, (w.alloc (.cells cs t)).frozen? ⟨w.heap.size, i, none⟩ = false := fun i => frozen_of_row _ _ i cs t (heap_alloc_last _ _)
theorem free_below {w w' : World} {g : Nat} (h : ∀ i, w.frozen? ⟨g, i, none⟩ = false) (hg : g < w.heap.size) (hb : Below w.heap.size w w') : ∀ i, w'.frozen? ⟨g, i, none⟩ = false := fun i => (hb.frozen (p := ⟨g, i, none⟩) hg).trans (h i)
/-- the statement that undoes one -/
def lineBack (k v w n : Int) : Int × Int × Int × Int :=
  if lineQ k v w n = false then (0, 0, 0, 0)
  else if k = 0 then (1, v, w, n) else if k = 1 then (0, v, w, n) else if k = 2 then (2, v, w, -n % 64) else if k = 3 then (3, v, w, n)
  else if k = 4 then (5, 0, 0, 0) else if k = 5 then (4, v, w, n) else if k = 6 then (8, v, w, n) else if k = 7 then (7, v, w, n) else (6, v, w, n)
def lineV (t : Int × Int × Int × Int) : Value := .agg #[.int .i64 t.1, .int .i64 t.2.1, .int .i64 t.2.2.1, .int .i64 t.2.2.2]
theorem lineQ_n {k v w n : Int} (h : lineQ k v w n = true) : 0 ≤ n ∧ n ≤ 63 := by
  simp only [lineQ, Bool.and_eq_true, inR_iff] at h
  obtain ⟨_, ⟨⟨_, _⟩, h3⟩, _⟩ := h
  unfold mostN at h3
  split at h3
  · omega
  · split at h3 <;> omega
theorem lineBackRes : Try.f13.results = #[.cell 2 25] := by kernel_rfl
set_option maxHeartbeats 4000000 in
theorem lineBack_any (k v w n : Int) (W : World) :
    Calls Try.prog 13 #[.agg #[.int .i64 k, .int .i64 v, .int .i64 w, .int .i64 n]] W fun e w' => e = .returned (lineV (lineBack k v w n)) ∧ Below W.heap.size W w' := by
  have HB0 := hide (show Below W.heap.size W ((W.alloc (.cells #[.int .i64 k, .int .i64 v, .int .i64 w, .int .i64 n] 25)).alloc (.cells #[.int .i64 0, .int .i64 0, .int .i64 0, .int .i64 0] 25)) by go_grown)
  have HX0 : Hid (Box4 ((W.alloc (.cells #[.int .i64 k, .int .i64 v, .int .i64 w, .int .i64 n] 25)).alloc (.cells #[.int .i64 0, .int .i64 0, .int .i64 0, .int .i64 0] 25)) W.heap.size k v w n) := (Box4.made W k v w n 25).below ((Below.refl _ _).alloc (Nat.le_refl _) _)
  have HY0 : Hid (Box4 ((W.alloc (.cells #[.int .i64 k, .int .i64 v, .int .i64 w, .int .i64 n] 25)).alloc (.cells #[.int .i64 0, .int .i64 0, .int .i64 0, .int .i64 0] 25)) (W.heap.size + 1) 0 0 0 0) := by
    have := Box4.made (W.alloc (.cells #[.int .i64 k, .int .i64 v, .int .i64 w, .int .i64 n] 25)) 0 0 0 0 25
    rwa [World.size_alloc] at this
  have FX0 := hide (free_below (free_made W #[.int .i64 k, .int .i64 v, .int .i64 w, .int .i64 n] 25) (by simp) ((Below.refl _ _).alloc (Nat.le_refl _) (.cells #[.int .i64 0, .int .i64 0, .int .i64 0, .int .i64 0] 25)))
  have FY0 : Hid (∀ i, ((W.alloc (.cells #[.int .i64 k, .int .i64 v, .int .i64 w, .int .i64 n] 25)).alloc (.cells #[.int .i64 0, .int .i64 0, .int .i64 0, .int .i64 0] 25)).frozen? ⟨W.heap.size + 1, i, none⟩ = false) := by
    have := free_made (W.alloc (.cells #[.int .i64 k, .int .i64 v, .int .i64 w, .int .i64 n] 25)) #[.int .i64 0, .int .i64 0, .int .i64 0, .int .i64 0] 25
    rwa [World.size_alloc] at this
  cases hq : lineQ k v w n
  · have HR := Lib.hid (show lineBack k v w n = (0, 0, 0, 0) by rw [lineBack, if_pos hq])
    have HQ := Lib.hid hq
    clear hq
    go_enter Try.func13, Try.ntmps13
    go_wp2_with fail
    refine (lineValid_b false _ _ _ _ HQ.out _).mono ?_
    rintro e w1 ⟨rfl, hb1⟩
    have HB1 := hide (HB0.out.trans (hb1.mono HB0.out.size))
    have HX1 := hide (HX0.out.below hb1)
    have HY1 := hide (HY0.out.below hb1)
    have fy := free_below FY0.out (by simp) hb1
    clear hb1
    obtain ⟨r0, r1, r2, r3⟩ := HY1.out
    go_wp2_with fail
    refine post_named fun w2 hw2 => ?_
    obtain ⟨p0, p1, p2, p3⟩ : Box4 w2 (W.heap.size + 1) 0 0 0 0 := by rw [← hw2]; exact box4_put HY1.out _ _ _ _
    have HB2 := hide (show Below W.heap.size W w2 by rw [← hw2]; exact (((HB1.out.setCell (by simp) _).setCell (by simp) _).setCell (by simp) _).setCell (by simp) _)
    clear hw2
    refine bodyPost_ret (v := lineV (lineBack k v w n)) (by rw [HR.out]; simp [results, Try.results13, go_sem, p0, p1, p2, p3, lineV]) rfl ⟨rfl, HB2.out⟩
  · obtain ⟨hn0, hn1⟩ := lineQ_n hq
    have h9 := kind9 (show inR 0 8 k = true by simp only [lineQ, Bool.and_eq_true] at hq; exact hq.1)
    have HQ := Lib.hid hq
    clear hq
    rcases h9 with rfl | rfl | rfl | rfl | rfl | rfl | rfl | rfl | rfl
    · have HR := Lib.hid (show lineBack 0 v w n = (1, v, w, n) by rw [lineBack, HQ.out]; rfl)
      go_enter Try.func13, Try.ntmps13
      go_wp2_with fail
      refine (lineValid_b true _ _ _ _ HQ.out _).mono ?_
      rintro e w1 ⟨rfl, hb1⟩
      have HB1 := hide (HB0.out.trans (hb1.mono HB0.out.size))
      have HX1 := hide (HX0.out.below hb1)
      have HY1 := hide (HY0.out.below hb1)
      have fx := free_below FX0.out (by simp; omega) hb1
      have fy := free_below FY0.out (by simp) hb1
      clear hb1
      obtain ⟨r0, r1, r2, r3⟩ := HY1.out
      obtain ⟨c0, c1, c2, c3⟩ := HX1.out
      go_wp2_with fail
      refine post_named fun w2 hw2 => ?_
      obtain ⟨p0, p1, p2, p3⟩ : Box4 w2 (W.heap.size + 1) 1 v w n := by rw [← hw2]; exact box4_put (HY1.out.set (i := 0) (g' := W.heap.size) (by omega)) _ _ _ _
      have HB2 := hide (show Below W.heap.size W w2 by rw [← hw2]; exact ((((HB1.out.setCell (by simp) _).setCell (by simp) _).setCell (by simp) _).setCell (by simp) _).setCell (by simp) _)
      clear hw2
      refine bodyPost_ret (v := lineV (lineBack 0 v w n)) (by rw [HR.out]; simp [results, Try.results13, go_sem, p0, p1, p2, p3, lineV]) rfl ⟨rfl, HB2.out⟩
    · have HR := Lib.hid (show lineBack 1 v w n = (0, v, w, n) by rw [lineBack, HQ.out]; rfl)
      go_enter Try.func13, Try.ntmps13
      go_wp2_with fail
      refine (lineValid_b true _ _ _ _ HQ.out _).mono ?_
      rintro e w1 ⟨rfl, hb1⟩
      have HB1 := hide (HB0.out.trans (hb1.mono HB0.out.size))
      have HX1 := hide (HX0.out.below hb1)
      have HY1 := hide (HY0.out.below hb1)
      have fx := free_below FX0.out (by simp; omega) hb1
      have fy := free_below FY0.out (by simp) hb1
      clear hb1
      obtain ⟨r0, r1, r2, r3⟩ := HY1.out
      obtain ⟨c0, c1, c2, c3⟩ := HX1.out
      go_wp2_with fail
      refine post_named fun w2 hw2 => ?_
      obtain ⟨p0, p1, p2, p3⟩ : Box4 w2 (W.heap.size + 1) 0 v w n := by rw [← hw2]; exact box4_put (HY1.out.set (i := 0) (g' := W.heap.size) (by omega)) _ _ _ _
      have HB2 := hide (show Below W.heap.size W w2 by rw [← hw2]; exact ((((HB1.out.setCell (by simp) _).setCell (by simp) _).setCell (by simp) _).setCell (by simp) _).setCell (by simp) _)
      clear hw2
      refine bodyPost_ret (v := lineV (lineBack 1 v w n)) (by rw [HR.out]; simp [results, Try.results13, go_sem, p0, p1, p2, p3, lineV]) rfl ⟨rfl, HB2.out⟩
    · have HR := Lib.hid (show lineBack 2 v w n = (2, v, w, (-n % 64)) by rw [lineBack, HQ.out]; rfl)
      go_enter Try.func13, Try.ntmps13
      go_wp2_with fail
      refine (lineValid_b true _ _ _ _ HQ.out _).mono ?_
      rintro e w1 ⟨rfl, hb1⟩
      have HB1 := hide (HB0.out.trans (hb1.mono HB0.out.size))
      have HX1 := hide (HX0.out.below hb1)
      have HY1 := hide (HY0.out.below hb1)
      have fx := free_below FX0.out (by simp; omega) hb1
      have fy := free_below FY0.out (by simp) hb1
      clear hb1
      obtain ⟨r0, r1, r2, r3⟩ := HY1.out
      obtain ⟨c0, c1, c2, c3⟩ := HX1.out
      go_wp2_with fail
      refine post_named fun w2 hw2 => ?_
      obtain ⟨p0, p1, p2, p3⟩ : Box4 w2 (W.heap.size + 1) 2 v w (-n % 64) := by rw [← hw2]; exact box4_put (HY1.out.set (i := 3) (g' := W.heap.size) (by omega)) _ _ _ _
      have HB2 := hide (show Below W.heap.size W w2 by rw [← hw2]; exact ((((HB1.out.setCell (by simp) _).setCell (by simp) _).setCell (by simp) _).setCell (by simp) _).setCell (by simp) _)
      clear hw2
      refine bodyPost_ret (v := lineV (lineBack 2 v w n)) (by rw [HR.out]; simp [results, Try.results13, go_sem, p0, p1, p2, p3, lineV]) rfl ⟨rfl, HB2.out⟩
    · have HR := Lib.hid (show lineBack 3 v w n = (3, v, w, n) by rw [lineBack, HQ.out]; rfl)
      go_enter Try.func13, Try.ntmps13
      go_wp2_with fail
      refine (lineValid_b true _ _ _ _ HQ.out _).mono ?_
      rintro e w1 ⟨rfl, hb1⟩
      have HB1 := hide (HB0.out.trans (hb1.mono HB0.out.size))
      have HX1 := hide (HX0.out.below hb1)
      have HY1 := hide (HY0.out.below hb1)
      have fx := free_below FX0.out (by simp; omega) hb1
      have fy := free_below FY0.out (by simp) hb1
      clear hb1
      obtain ⟨r0, r1, r2, r3⟩ := HY1.out
      obtain ⟨c0, c1, c2, c3⟩ := HX1.out
      go_wp2_with fail
      refine post_named fun w2 hw2 => ?_
      obtain ⟨p0, p1, p2, p3⟩ : Box4 w2 (W.heap.size + 1) 3 v w n := by rw [← hw2]; exact box4_put HY1.out _ _ _ _
      have HB2 := hide (show Below W.heap.size W w2 by rw [← hw2]; exact (((HB1.out.setCell (by simp) _).setCell (by simp) _).setCell (by simp) _).setCell (by simp) _)
      clear hw2
      refine bodyPost_ret (v := lineV (lineBack 3 v w n)) (by rw [HR.out]; simp [results, Try.results13, go_sem, p0, p1, p2, p3, lineV]) rfl ⟨rfl, HB2.out⟩
    · have HR := Lib.hid (show lineBack 4 v w n = (5, 0, 0, 0) by rw [lineBack, HQ.out]; rfl)
      go_enter Try.func13, Try.ntmps13
      go_wp2_with fail
      refine (lineValid_b true _ _ _ _ HQ.out _).mono ?_
      rintro e w1 ⟨rfl, hb1⟩
      have HB1 := hide (HB0.out.trans (hb1.mono HB0.out.size))
      have HX1 := hide (HX0.out.below hb1)
      have HY1 := hide (HY0.out.below hb1)
      have fx := free_below FX0.out (by simp; omega) hb1
      have fy := free_below FY0.out (by simp) hb1
      clear hb1
      obtain ⟨r0, r1, r2, r3⟩ := HY1.out
      obtain ⟨c0, c1, c2, c3⟩ := HX1.out
      go_wp2_with fail
      refine post_named fun w2 hw2 => ?_
      obtain ⟨p0, p1, p2, p3⟩ : Box4 w2 (W.heap.size + 1) 5 0 0 0 := by rw [← hw2]; exact box4_put ((((HY1.out.set (i := 0) (g' := W.heap.size) (by omega)).set (i := 1) (g' := W.heap.size) (by omega)).set (i := 2) (g' := W.heap.size) (by omega)).set (i := 3) (g' := W.heap.size) (by omega)) _ _ _ _
      have HB2 := hide (show Below W.heap.size W w2 by rw [← hw2]; exact (((((((HB1.out.setCell (by simp) _).setCell (by simp) _).setCell (by simp) _).setCell (by simp) _).setCell (by simp) _).setCell (by simp) _).setCell (by simp) _).setCell (by simp) _)
      clear hw2
      refine bodyPost_ret (v := lineV (lineBack 4 v w n)) (by rw [HR.out]; simp [results, Try.results13, go_sem, p0, p1, p2, p3, lineV]) rfl ⟨rfl, HB2.out⟩
    · have HR := Lib.hid (show lineBack 5 v w n = (4, v, w, n) by rw [lineBack, HQ.out]; rfl)
      go_enter Try.func13, Try.ntmps13
      go_wp2_with fail
      refine (lineValid_b true _ _ _ _ HQ.out _).mono ?_
      rintro e w1 ⟨rfl, hb1⟩
      have HB1 := hide (HB0.out.trans (hb1.mono HB0.out.size))
      have HX1 := hide (HX0.out.below hb1)
      have HY1 := hide (HY0.out.below hb1)
      have fx := free_below FX0.out (by simp; omega) hb1
      have fy := free_below FY0.out (by simp) hb1
      clear hb1
      obtain ⟨r0, r1, r2, r3⟩ := HY1.out
      obtain ⟨c0, c1, c2, c3⟩ := HX1.out
      go_wp2_with fail
      refine post_named fun w2 hw2 => ?_
      obtain ⟨p0, p1, p2, p3⟩ : Box4 w2 (W.heap.size + 1) 4 v w n := by rw [← hw2]; exact box4_put (HY1.out.set (i := 0) (g' := W.heap.size) (by omega)) _ _ _ _
      have HB2 := hide (show Below W.heap.size W w2 by rw [← hw2]; exact ((((HB1.out.setCell (by simp) _).setCell (by simp) _).setCell (by simp) _).setCell (by simp) _).setCell (by simp) _)
      clear hw2
      refine bodyPost_ret (v := lineV (lineBack 5 v w n)) (by rw [HR.out]; simp [results, Try.results13, go_sem, p0, p1, p2, p3, lineV]) rfl ⟨rfl, HB2.out⟩
    · have HR := Lib.hid (show lineBack 6 v w n = (8, v, w, n) by rw [lineBack, HQ.out]; rfl)
      go_enter Try.func13, Try.ntmps13
      go_wp2_with fail
      refine (lineValid_b true _ _ _ _ HQ.out _).mono ?_
      rintro e w1 ⟨rfl, hb1⟩
      have HB1 := hide (HB0.out.trans (hb1.mono HB0.out.size))
      have HX1 := hide (HX0.out.below hb1)
      have HY1 := hide (HY0.out.below hb1)
      have fx := free_below FX0.out (by simp; omega) hb1
      have fy := free_below FY0.out (by simp) hb1
      clear hb1
      obtain ⟨r0, r1, r2, r3⟩ := HY1.out
      obtain ⟨c0, c1, c2, c3⟩ := HX1.out
      go_wp2_with fail
      refine post_named fun w2 hw2 => ?_
      obtain ⟨p0, p1, p2, p3⟩ : Box4 w2 (W.heap.size + 1) 8 v w n := by rw [← hw2]; exact box4_put (HY1.out.set (i := 0) (g' := W.heap.size) (by omega)) _ _ _ _
      have HB2 := hide (show Below W.heap.size W w2 by rw [← hw2]; exact ((((HB1.out.setCell (by simp) _).setCell (by simp) _).setCell (by simp) _).setCell (by simp) _).setCell (by simp) _)
      clear hw2
      refine bodyPost_ret (v := lineV (lineBack 6 v w n)) (by rw [HR.out]; simp [results, Try.results13, go_sem, p0, p1, p2, p3, lineV]) rfl ⟨rfl, HB2.out⟩
    · have HR := Lib.hid (show lineBack 7 v w n = (7, v, w, n) by rw [lineBack, HQ.out]; rfl)
      go_enter Try.func13, Try.ntmps13
      go_wp2_with fail
      refine (lineValid_b true _ _ _ _ HQ.out _).mono ?_
      rintro e w1 ⟨rfl, hb1⟩
      have HB1 := hide (HB0.out.trans (hb1.mono HB0.out.size))
      have HX1 := hide (HX0.out.below hb1)
      have HY1 := hide (HY0.out.below hb1)
      have fx := free_below FX0.out (by simp; omega) hb1
      have fy := free_below FY0.out (by simp) hb1
      clear hb1
      obtain ⟨r0, r1, r2, r3⟩ := HY1.out
      obtain ⟨c0, c1, c2, c3⟩ := HX1.out
      go_wp2_with fail
      refine post_named fun w2 hw2 => ?_
      obtain ⟨p0, p1, p2, p3⟩ : Box4 w2 (W.heap.size + 1) 7 v w n := by rw [← hw2]; exact box4_put HY1.out _ _ _ _
      have HB2 := hide (show Below W.heap.size W w2 by rw [← hw2]; exact (((HB1.out.setCell (by simp) _).setCell (by simp) _).setCell (by simp) _).setCell (by simp) _)
      clear hw2
      refine bodyPost_ret (v := lineV (lineBack 7 v w n)) (by rw [HR.out]; simp [results, Try.results13, go_sem, p0, p1, p2, p3, lineV]) rfl ⟨rfl, HB2.out⟩
    · have HR := Lib.hid (show lineBack 8 v w n = (6, v, w, n) by rw [lineBack, HQ.out]; rfl)
      go_enter Try.func13, Try.ntmps13
      go_wp2_with fail
      refine (lineValid_b true _ _ _ _ HQ.out _).mono ?_
      rintro e w1 ⟨rfl, hb1⟩
      have HB1 := hide (HB0.out.trans (hb1.mono HB0.out.size))
      have HX1 := hide (HX0.out.below hb1)
      have HY1 := hide (HY0.out.below hb1)
      have fx := free_below FX0.out (by simp; omega) hb1
      have fy := free_below FY0.out (by simp) hb1
      clear hb1
      obtain ⟨r0, r1, r2, r3⟩ := HY1.out
      obtain ⟨c0, c1, c2, c3⟩ := HX1.out
      go_wp2_with fail
      refine post_named fun w2 hw2 => ?_
      obtain ⟨p0, p1, p2, p3⟩ : Box4 w2 (W.heap.size + 1) 6 v w n := by rw [← hw2]; exact box4_put (HY1.out.set (i := 0) (g' := W.heap.size) (by omega)) _ _ _ _
      have HB2 := hide (show Below W.heap.size W w2 by rw [← hw2]; exact ((((HB1.out.setCell (by simp) _).setCell (by simp) _).setCell (by simp) _).setCell (by simp) _).setCell (by simp) _)
      clear hw2
      refine bodyPost_ret (v := lineV (lineBack 8 v w n)) (by rw [HR.out]; simp [results, Try.results13, go_sem, p0, p1, p2, p3, lineV]) rfl ⟨rfl, HB2.out⟩
theorem sLineBackRes : Try.f12.results = #[.cell 2 25] := by kernel_rfl
set_option maxHeartbeats 4000000 in
theorem sLineBack_any (k v w n : Int) (W : World) :
    Calls Try.prog 12 #[.agg #[.int .i64 k, .int .i64 v, .int .i64 w, .int .i64 n]] W fun e w' => e = .returned (lineV (lineBack k v w n)) ∧ Below W.heap.size W w' := by
  have HB0 := hide (show Below W.heap.size W ((W.alloc (.cells #[.int .i64 k, .int .i64 v, .int .i64 w, .int .i64 n] 25)).alloc (.cells #[.int .i64 0, .int .i64 0, .int .i64 0, .int .i64 0] 25)) by go_grown)
  have HX0 : Hid (Box4 ((W.alloc (.cells #[.int .i64 k, .int .i64 v, .int .i64 w, .int .i64 n] 25)).alloc (.cells #[.int .i64 0, .int .i64 0, .int .i64 0, .int .i64 0] 25)) W.heap.size k v w n) := (Box4.made W k v w n 25).below ((Below.refl _ _).alloc (Nat.le_refl _) _)
  have HY0 : Hid (Box4 ((W.alloc (.cells #[.int .i64 k, .int .i64 v, .int .i64 w, .int .i64 n] 25)).alloc (.cells #[.int .i64 0, .int .i64 0, .int .i64 0, .int .i64 0] 25)) (W.heap.size + 1) 0 0 0 0) := by
    have := Box4.made (W.alloc (.cells #[.int .i64 k, .int .i64 v, .int .i64 w, .int .i64 n] 25)) 0 0 0 0 25
    rwa [World.size_alloc] at this
  have FX0 := hide (free_below (free_made W #[.int .i64 k, .int .i64 v, .int .i64 w, .int .i64 n] 25) (by simp) ((Below.refl _ _).alloc (Nat.le_refl _) (.cells #[.int .i64 0, .int .i64 0, .int .i64 0, .int .i64 0] 25)))
  have FY0 : Hid (∀ i, ((W.alloc (.cells #[.int .i64 k, .int .i64 v, .int .i64 w, .int .i64 n] 25)).alloc (.cells #[.int .i64 0, .int .i64 0, .int .i64 0, .int .i64 0] 25)).frozen? ⟨W.heap.size + 1, i, none⟩ = false) := by
    have := free_made (W.alloc (.cells #[.int .i64 k, .int .i64 v, .int .i64 w, .int .i64 n] 25)) #[.int .i64 0, .int .i64 0, .int .i64 0, .int .i64 0] 25
    rwa [World.size_alloc] at this
  cases hq : lineQ k v w n
  · have HR := Lib.hid (show lineBack k v w n = (0, 0, 0, 0) by rw [lineBack, if_pos hq])
    have HQ := Lib.hid hq
    clear hq
    go_enter Try.func12, Try.ntmps12
    go_wp2_with fail
    refine (sLineValid_b false _ _ _ _ HQ.out _).mono ?_
    rintro e w1 ⟨rfl, hb1⟩
    have HB1 := hide (HB0.out.trans (hb1.mono HB0.out.size))
    have HX1 := hide (HX0.out.below hb1)
    have HY1 := hide (HY0.out.below hb1)
    have fy := free_below FY0.out (by simp) hb1
    clear hb1
    obtain ⟨r0, r1, r2, r3⟩ := HY1.out
    go_wp2_with fail
    refine post_named fun w2 hw2 => ?_
    obtain ⟨p0, p1, p2, p3⟩ : Box4 w2 (W.heap.size + 1) 0 0 0 0 := by rw [← hw2]; exact box4_put HY1.out _ _ _ _
    have HB2 := hide (show Below W.heap.size W w2 by rw [← hw2]; exact (((HB1.out.setCell (by simp) _).setCell (by simp) _).setCell (by simp) _).setCell (by simp) _)
    clear hw2
    refine bodyPost_ret (v := lineV (lineBack k v w n)) (by rw [HR.out]; simp [results, Try.results12, go_sem, p0, p1, p2, p3, lineV]) rfl ⟨rfl, HB2.out⟩
  · obtain ⟨hn0, hn1⟩ := lineQ_n hq
    have h9 := kind9 (show inR 0 8 k = true by simp only [lineQ, Bool.and_eq_true] at hq; exact hq.1)
    have HQ := Lib.hid hq
    clear hq
    rcases h9 with rfl | rfl | rfl | rfl | rfl | rfl | rfl | rfl | rfl
    · have HR := Lib.hid (show lineBack 0 v w n = (1, v, w, n) by rw [lineBack, HQ.out]; rfl)
      go_enter Try.func12, Try.ntmps12
      go_wp2_with fail
      refine (sLineValid_b true _ _ _ _ HQ.out _).mono ?_
      rintro e w1 ⟨rfl, hb1⟩
      have HB1 := hide (HB0.out.trans (hb1.mono HB0.out.size))
      have HX1 := hide (HX0.out.below hb1)
      have HY1 := hide (HY0.out.below hb1)
      have fx := free_below FX0.out (by simp; omega) hb1
      have fy := free_below FY0.out (by simp) hb1
      clear hb1
      obtain ⟨r0, r1, r2, r3⟩ := HY1.out
      obtain ⟨c0, c1, c2, c3⟩ := HX1.out
      go_wp2_with fail
      refine post_named fun w2 hw2 => ?_
      obtain ⟨p0, p1, p2, p3⟩ : Box4 w2 (W.heap.size + 1) 1 v w n := by rw [← hw2]; exact box4_put (HY1.out.set (i := 0) (g' := W.heap.size) (by omega)) _ _ _ _
      have HB2 := hide (show Below W.heap.size W w2 by rw [← hw2]; exact ((((HB1.out.setCell (by simp) _).setCell (by simp) _).setCell (by simp) _).setCell (by simp) _).setCell (by simp) _)
      clear hw2
      refine bodyPost_ret (v := lineV (lineBack 0 v w n)) (by rw [HR.out]; simp [results, Try.results12, go_sem, p0, p1, p2, p3, lineV]) rfl ⟨rfl, HB2.out⟩
    · have HR := Lib.hid (show lineBack 1 v w n = (0, v, w, n) by rw [lineBack, HQ.out]; rfl)
      go_enter Try.func12, Try.ntmps12
      go_wp2_with fail
      refine (sLineValid_b true _ _ _ _ HQ.out _).mono ?_
      rintro e w1 ⟨rfl, hb1⟩
      have HB1 := hide (HB0.out.trans (hb1.mono HB0.out.size))
      have HX1 := hide (HX0.out.below hb1)
      have HY1 := hide (HY0.out.below hb1)
      have fx := free_below FX0.out (by simp; omega) hb1
      have fy := free_below FY0.out (by simp) hb1
      clear hb1
      obtain ⟨r0, r1, r2, r3⟩ := HY1.out
      obtain ⟨c0, c1, c2, c3⟩ := HX1.out
      go_wp2_with fail
      refine post_named fun w2 hw2 => ?_
      obtain ⟨p0, p1, p2, p3⟩ : Box4 w2 (W.heap.size + 1) 0 v w n := by rw [← hw2]; exact box4_put (HY1.out.set (i := 0) (g' := W.heap.size) (by omega)) _ _ _ _
      have HB2 := hide (show Below W.heap.size W w2 by rw [← hw2]; exact ((((HB1.out.setCell (by simp) _).setCell (by simp) _).setCell (by simp) _).setCell (by simp) _).setCell (by simp) _)
      clear hw2
      refine bodyPost_ret (v := lineV (lineBack 1 v w n)) (by rw [HR.out]; simp [results, Try.results12, go_sem, p0, p1, p2, p3, lineV]) rfl ⟨rfl, HB2.out⟩
    · have HR := Lib.hid (show lineBack 2 v w n = (2, v, w, (-n % 64)) by rw [lineBack, HQ.out]; rfl)
      go_enter Try.func12, Try.ntmps12
      go_wp2_with fail
      refine (sLineValid_b true _ _ _ _ HQ.out _).mono ?_
      rintro e w1 ⟨rfl, hb1⟩
      have HB1 := hide (HB0.out.trans (hb1.mono HB0.out.size))
      have HX1 := hide (HX0.out.below hb1)
      have HY1 := hide (HY0.out.below hb1)
      have fx := free_below FX0.out (by simp; omega) hb1
      have fy := free_below FY0.out (by simp) hb1
      clear hb1
      obtain ⟨r0, r1, r2, r3⟩ := HY1.out
      obtain ⟨c0, c1, c2, c3⟩ := HX1.out
      go_wp2_with fail
      refine post_named fun w2 hw2 => ?_
      obtain ⟨p0, p1, p2, p3⟩ : Box4 w2 (W.heap.size + 1) 2 v w (-n % 64) := by rw [← hw2]; exact box4_put (HY1.out.set (i := 3) (g' := W.heap.size) (by omega)) _ _ _ _
      have HB2 := hide (show Below W.heap.size W w2 by rw [← hw2]; exact ((((HB1.out.setCell (by simp) _).setCell (by simp) _).setCell (by simp) _).setCell (by simp) _).setCell (by simp) _)
      clear hw2
      refine bodyPost_ret (v := lineV (lineBack 2 v w n)) (by rw [HR.out]; simp [results, Try.results12, go_sem, p0, p1, p2, p3, lineV]) rfl ⟨rfl, HB2.out⟩
    · have HR := Lib.hid (show lineBack 3 v w n = (3, v, w, n) by rw [lineBack, HQ.out]; rfl)
      go_enter Try.func12, Try.ntmps12
      go_wp2_with fail
      refine (sLineValid_b true _ _ _ _ HQ.out _).mono ?_
      rintro e w1 ⟨rfl, hb1⟩
      have HB1 := hide (HB0.out.trans (hb1.mono HB0.out.size))
      have HX1 := hide (HX0.out.below hb1)
      have HY1 := hide (HY0.out.below hb1)
      have fx := free_below FX0.out (by simp; omega) hb1
      have fy := free_below FY0.out (by simp) hb1
      clear hb1
      obtain ⟨r0, r1, r2, r3⟩ := HY1.out
      obtain ⟨c0, c1, c2, c3⟩ := HX1.out
      go_wp2_with fail
      refine post_named fun w2 hw2 => ?_
      obtain ⟨p0, p1, p2, p3⟩ : Box4 w2 (W.heap.size + 1) 3 v w n := by rw [← hw2]; exact box4_put HY1.out _ _ _ _
      have HB2 := hide (show Below W.heap.size W w2 by rw [← hw2]; exact (((HB1.out.setCell (by simp) _).setCell (by simp) _).setCell (by simp) _).setCell (by simp) _)
      clear hw2
      refine bodyPost_ret (v := lineV (lineBack 3 v w n)) (by rw [HR.out]; simp [results, Try.results12, go_sem, p0, p1, p2, p3, lineV]) rfl ⟨rfl, HB2.out⟩
    · have HR := Lib.hid (show lineBack 4 v w n = (5, 0, 0, 0) by rw [lineBack, HQ.out]; rfl)
      go_enter Try.func12, Try.ntmps12
      go_wp2_with fail
      refine (sLineValid_b true _ _ _ _ HQ.out _).mono ?_
      rintro e w1 ⟨rfl, hb1⟩
      have HB1 := hide (HB0.out.trans (hb1.mono HB0.out.size))
      have HX1 := hide (HX0.out.below hb1)
      have HY1 := hide (HY0.out.below hb1)
      have fx := free_below FX0.out (by simp; omega) hb1
      have fy := free_below FY0.out (by simp) hb1
      clear hb1
      obtain ⟨r0, r1, r2, r3⟩ := HY1.out
      obtain ⟨c0, c1, c2, c3⟩ := HX1.out
      go_wp2_with fail
      refine post_named fun w2 hw2 => ?_
      obtain ⟨p0, p1, p2, p3⟩ : Box4 w2 (W.heap.size + 1) 5 0 0 0 := by rw [← hw2]; exact box4_put ((((HY1.out.set (i := 0) (g' := W.heap.size) (by omega)).set (i := 1) (g' := W.heap.size) (by omega)).set (i := 2) (g' := W.heap.size) (by omega)).set (i := 3) (g' := W.heap.size) (by omega)) _ _ _ _
      have HB2 := hide (show Below W.heap.size W w2 by rw [← hw2]; exact (((((((HB1.out.setCell (by simp) _).setCell (by simp) _).setCell (by simp) _).setCell (by simp) _).setCell (by simp) _).setCell (by simp) _).setCell (by simp) _).setCell (by simp) _)
      clear hw2
      refine bodyPost_ret (v := lineV (lineBack 4 v w n)) (by rw [HR.out]; simp [results, Try.results12, go_sem, p0, p1, p2, p3, lineV]) rfl ⟨rfl, HB2.out⟩
    · have HR := Lib.hid (show lineBack 5 v w n = (4, v, w, n) by rw [lineBack, HQ.out]; rfl)
      go_enter Try.func12, Try.ntmps12
      go_wp2_with fail
      refine (sLineValid_b true _ _ _ _ HQ.out _).mono ?_
      rintro e w1 ⟨rfl, hb1⟩
      have HB1 := hide (HB0.out.trans (hb1.mono HB0.out.size))
      have HX1 := hide (HX0.out.below hb1)
      have HY1 := hide (HY0.out.below hb1)
      have fx := free_below FX0.out (by simp; omega) hb1
      have fy := free_below FY0.out (by simp) hb1
      clear hb1
      obtain ⟨r0, r1, r2, r3⟩ := HY1.out
      obtain ⟨c0, c1, c2, c3⟩ := HX1.out
      go_wp2_with fail
      refine post_named fun w2 hw2 => ?_
      obtain ⟨p0, p1, p2, p3⟩ : Box4 w2 (W.heap.size + 1) 4 v w n := by rw [← hw2]; exact box4_put (HY1.out.set (i := 0) (g' := W.heap.size) (by omega)) _ _ _ _
      have HB2 := hide (show Below W.heap.size W w2 by rw [← hw2]; exact ((((HB1.out.setCell (by simp) _).setCell (by simp) _).setCell (by simp) _).setCell (by simp) _).setCell (by simp) _)
      clear hw2
      refine bodyPost_ret (v := lineV (lineBack 5 v w n)) (by rw [HR.out]; simp [results, Try.results12, go_sem, p0, p1, p2, p3, lineV]) rfl ⟨rfl, HB2.out⟩
    · have HR := Lib.hid (show lineBack 6 v w n = (8, v, w, n) by rw [lineBack, HQ.out]; rfl)
      go_enter Try.func12, Try.ntmps12
      go_wp2_with fail
      refine (sLineValid_b true _ _ _ _ HQ.out _).mono ?_
      rintro e w1 ⟨rfl, hb1⟩
      have HB1 := hide (HB0.out.trans (hb1.mono HB0.out.size))
      have HX1 := hide (HX0.out.below hb1)
      have HY1 := hide (HY0.out.below hb1)
      have fx := free_below FX0.out (by simp; omega) hb1
      have fy := free_below FY0.out (by simp) hb1
      clear hb1
      obtain ⟨r0, r1, r2, r3⟩ := HY1.out
      obtain ⟨c0, c1, c2, c3⟩ := HX1.out
      go_wp2_with fail
      refine post_named fun w2 hw2 => ?_
      obtain ⟨p0, p1, p2, p3⟩ : Box4 w2 (W.heap.size + 1) 8 v w n := by rw [← hw2]; exact box4_put (HY1.out.set (i := 0) (g' := W.heap.size) (by omega)) _ _ _ _
      have HB2 := hide (show Below W.heap.size W w2 by rw [← hw2]; exact ((((HB1.out.setCell (by simp) _).setCell (by simp) _).setCell (by simp) _).setCell (by simp) _).setCell (by simp) _)
      clear hw2
      refine bodyPost_ret (v := lineV (lineBack 6 v w n)) (by rw [HR.out]; simp [results, Try.results12, go_sem, p0, p1, p2, p3, lineV]) rfl ⟨rfl, HB2.out⟩
    · have HR := Lib.hid (show lineBack 7 v w n = (7, v, w, n) by rw [lineBack, HQ.out]; rfl)
      go_enter Try.func12, Try.ntmps12
      go_wp2_with fail
      refine (sLineValid_b true _ _ _ _ HQ.out _).mono ?_
      rintro e w1 ⟨rfl, hb1⟩
      have HB1 := hide (HB0.out.trans (hb1.mono HB0.out.size))
      have HX1 := hide (HX0.out.below hb1)
      have HY1 := hide (HY0.out.below hb1)
      have fx := free_below FX0.out (by simp; omega) hb1
      have fy := free_below FY0.out (by simp) hb1
      clear hb1
      obtain ⟨r0, r1, r2, r3⟩ := HY1.out
      obtain ⟨c0, c1, c2, c3⟩ := HX1.out
      go_wp2_with fail
      refine post_named fun w2 hw2 => ?_
      obtain ⟨p0, p1, p2, p3⟩ : Box4 w2 (W.heap.size + 1) 7 v w n := by rw [← hw2]; exact box4_put HY1.out _ _ _ _
      have HB2 := hide (show Below W.heap.size W w2 by rw [← hw2]; exact (((HB1.out.setCell (by simp) _).setCell (by simp) _).setCell (by simp) _).setCell (by simp) _)
      clear hw2
      refine bodyPost_ret (v := lineV (lineBack 7 v w n)) (by rw [HR.out]; simp [results, Try.results12, go_sem, p0, p1, p2, p3, lineV]) rfl ⟨rfl, HB2.out⟩
    · have HR := Lib.hid (show lineBack 8 v w n = (6, v, w, n) by rw [lineBack, HQ.out]; rfl)
      go_enter Try.func12, Try.ntmps12
      go_wp2_with fail
      refine (sLineValid_b true _ _ _ _ HQ.out _).mono ?_
      rintro e w1 ⟨rfl, hb1⟩
      have HB1 := hide (HB0.out.trans (hb1.mono HB0.out.size))
      have HX1 := hide (HX0.out.below hb1)
      have HY1 := hide (HY0.out.below hb1)
      have fx := free_below FX0.out (by simp; omega) hb1
      have fy := free_below FY0.out (by simp) hb1
      clear hb1
      obtain ⟨r0, r1, r2, r3⟩ := HY1.out
      obtain ⟨c0, c1, c2, c3⟩ := HX1.out
      go_wp2_with fail
      refine post_named fun w2 hw2 => ?_
      obtain ⟨p0, p1, p2, p3⟩ : Box4 w2 (W.heap.size + 1) 6 v w n := by rw [← hw2]; exact box4_put (HY1.out.set (i := 0) (g' := W.heap.size) (by omega)) _ _ _ _
      have HB2 := hide (show Below W.heap.size W w2 by rw [← hw2]; exact ((((HB1.out.setCell (by simp) _).setCell (by simp) _).setCell (by simp) _).setCell (by simp) _).setCell (by simp) _)
      clear hw2
      refine bodyPost_ret (v := lineV (lineBack 8 v w n)) (by rw [HR.out]; simp [results, Try.results12, go_sem, p0, p1, p2, p3, lineV]) rfl ⟨rfl, HB2.out⟩
end Go.Proofs.Ytkakhajellemcaa
