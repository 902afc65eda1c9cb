/-
  The draws of one statement: some statement, in a box of its own.
  No condition.
-/
import Derived.Test.YtacdagdhkmcbiaaLinesH
import Derived.Test.YtacdagdhkmcbiaaDrawKit
namespace Go.Proofs.Ytacdagdhkmcbiaa
open Go.RowKit Go.Sort base
theorem post_named {P : Program} {f : Func} {Q : Ending → World → Prop} {x : Exit} {a : Act} {W : World} (h : ∀ wr, W = wr → bodyPost P f Q x a wr) : bodyPost P f Q x a W := h _ rfl
theorem box4_put {w : World} {g : Nat} {k0 a0 b0 c0 : Int} (h : Box4 w g k0 a0 b0 c0) (k a b c : Int) :
    Box4 ((((w.setCell ⟨g, 0, none⟩ (.int .i64 k)).setCell ⟨g, 1, none⟩ (.int .i64 a)).setCell ⟨g, 2, none⟩ (.int .i64 b)).setCell ⟨g, 3, none⟩ (.int .i64 c)) g k a b c := by
  obtain ⟨h0, h1, h2, h3⟩ := h
  refine ⟨?_, ?_, ?_, ?_⟩
  · rw [World.cell?_setCell_other _ _ _ _ (by simp), World.cell?_setCell_other _ _ _ _ (by simp), World.cell?_setCell_other _ _ _ _ (by simp)]
    exact World.cell?_setCell_same _ _ _ h0
  · rw [World.cell?_setCell_other _ _ _ _ (by simp), World.cell?_setCell_other _ _ _ _ (by simp)]
    exact World.cell?_setCell_same _ _ _ (by rw [World.cell?_setCell_other _ _ _ _ (by simp)]; exact h1)
  · rw [World.cell?_setCell_other _ _ _ _ (by simp)]
    exact World.cell?_setCell_same _ _ _ (by rw [World.cell?_setCell_other _ _ _ _ (by simp), World.cell?_setCell_other _ _ _ _ (by simp)]; exact h2)
  · exact World.cell?_setCell_same _ _ _ (by rw [World.cell?_setCell_other _ _ _ _ (by simp), World.cell?_setCell_other _ _ _ _ (by simp), World.cell?_setCell_other _ _ _ _ (by simp)]; exact h3)
theorem free_made (w : World) (cs : Array Value) (t : TypeId) : ∀ i, (w.alloc (.cells cs t)).frozen? ⟨w.heap.size, i, none⟩ = false := fun i => frozen_of_row _ _ i cs t (heap_alloc_last _ _)
theorem free_below {w w' : World} {g : Nat} (h : ∀ i, w.frozen? ⟨g, i, none⟩ = false) (hg : g < w.heap.size) (hb : Below w.heap.size w w') : ∀ i, w'.frozen? ⟨g, i, none⟩ = false := fun i => (hb.frozen (p := ⟨g, i, none⟩) hg).trans (h i)
theorem Box4.grown {w w' : World} {g R : Nat} {k a b c : Int} (h : Box4 w g k a b c) (hg : w.grownBy w' (some R)) (hne : g ≠ R) : Box4 w' g k a b c :=
  h.keep fun i => hg.cell_far ⟨g, i, none⟩ h.lt (by simpa using hne)
def Free (w : World) (g : Nat) : Prop := ∀ i, w.frozen? ⟨g, i, none⟩ = false
theorem Free.grown {w w' : World} {g R : Nat} (h : Free w g) (hl : g < w.heap.size) (hg : w.grownBy w' (some R)) (hne : g ≠ R) : Free w' g :=
  fun i => (hg.frozen_far ⟨g, i, none⟩ hl (by simpa using hne)).trans (h i)
theorem Free.below {w w' : World} {g : Nat} (h : Free w g) (hl : g < w.heap.size) (hb : Below w.heap.size w w') : Free w' g := free_below h hl hb
theorem put4_grown (w : World) (g : Nat) (v0 v1 v2 v3 : Value) : w.grownBy ((((w.setCell ⟨g, 0, none⟩ v0).setCell ⟨g, 1, none⟩ v1).setCell ⟨g, 2, none⟩ v2).setCell ⟨g, 3, none⟩ v3) (some g) :=
  ⟨rfl, rfl, rfl, by simp [World.setCell], fun k _ hne => by
    rw [heap_setCell_other _ ⟨g, 3, none⟩ k _ (fun e => hne (by simp [e])), heap_setCell_other _ ⟨g, 2, none⟩ k _ (fun e => hne (by simp [e])), heap_setCell_other _ ⟨g, 1, none⟩ k _ (fun e => hne (by simp [e])), heap_setCell_other _ ⟨g, 0, none⟩ k _ (fun e => hne (by simp [e]))]⟩
/- some statement, and the reader at most at place P -/
def DrawnLine (w : World) (R P : Nat) (N : Int) (e : Ending) (w' : World) : Prop :=
  ∃ k v m n : Int, e = .returned (.agg #[.int .i64 k, .int .i64 v, .int .i64 m, .int .i64 n]) ∧ (0 ≤ n ∧ n ≤ N) ∧ RdB w' R P ∧ w.grownBy w' (some R)
set_option maxHeartbeats 4000000 in
theorem l20Plain_b (R p : Nat) (w : World) (h : RdB w R p) (hp : p ≤ 100000) :
    Calls Try.prog 36 #[.pointer (some ⟨R, 0, none⟩)] w (DrawnLine w R (p + 3) 63) := by
  have hlt := h.lt
  have H0 := hide (rd_alloc h (.cells #[.int .i64 0, .int .i64 0, .int .i64 0, .int .i64 0] 32))
  have G0 := hide (World.grownBy_alloc w (.cells #[.int .i64 0, .int .i64 0, .int .i64 0, .int .i64 0] 32) (some R))
  have X0 := hide (Box4.made w 0 0 0 0 32)
  have F0 : Hid (Free (w.alloc (.cells #[.int .i64 0, .int .i64 0, .int .i64 0, .int .i64 0] 32)) w.heap.size) := free_made w _ _
  clear h
  go_enter Try.func36, Try.ntmps36
  go_wp2_with fail
  refine (pick_b R (p) 3 _ H0.out (by omega) (by omega)).mono ?_
  rintro e w1 ⟨r1, rfl, a1, b1, _, hr, hg⟩
  have c1 := b1 (by omega)
  have H1 := hide hr
  have X1 := hide (X0.out.grown hg (by omega))
  have F1 : Hid (Free w1 w.heap.size) := F0.out.grown X0.out.lt hg (by omega)
  have G1 := hide (grown_seq G0.out hg)
  clear hr hg b1
  go_wp2_with fail
  refine (pick_b R (p + 1) 4 _ H1.out (by omega) (by omega)).mono ?_
  rintro e w2 ⟨r2, rfl, a2, b2, _, hr, hg⟩
  have c2 := b2 (by omega)
  have H2 := hide hr
  have X2 := hide (X1.out.grown hg (by omega))
  have F2 : Hid (Free w2 w.heap.size) := F1.out.grown X1.out.lt hg (by omega)
  have G2 := hide (grown_seq G1.out hg)
  clear hr hg b2
  rcases (show r2 = 0 ∨ r2 = 1 ∨ r2 = 2 ∨ r2 = 3 by omega) with rfl | rfl | rfl | rfl
  · clear a2 c2
    go_wp2_with fail
    refine (pick_b R (p + 1 + 1) 64 _ H2.out (by omega) (by omega)).mono ?_
    rintro e w3 ⟨r3, rfl, a3, b3, _, hr, hg⟩
    have c3 := b3 (by omega)
    have H3 := hide hr
    have X3 := hide (X2.out.grown hg (by omega))
    have F3 : Hid (Free w3 w.heap.size) := F2.out.grown X2.out.lt hg (by omega)
    have G3 := hide (grown_seq G2.out hg)
    clear hr hg b3
    obtain ⟨x0, x1, x2, x3⟩ := X3.out
    have fx := F3.out
    unfold Free at fx
    go_wp2_with fail
    refine post_named fun w4 hw4 => ?_
    obtain ⟨k', v', m', n', hb, hn⟩ : ∃ k' v' m' n' : Int, Box4 w4 w.heap.size k' v' m' n' ∧ (0 ≤ n' ∧ n' ≤ 63) := by
      rw [← hw4]
      exact ⟨_, _, _, _, box4_put X3.out _ _ _ _, by omega, by omega⟩
    have G4 := hide (show w.grownBy w4 (some R) by rw [← hw4]; exact grown_own G3.out (put4_grown _ _ _ _ _ _) (by simp))
    have H4 := hide (show RdB w4 R (p + 3) by rw [← hw4]; exact H3.out.grown (put4_grown _ _ _ _ _ _) (by simpa using hlt))
    obtain ⟨p0, p1, p2, p3⟩ := hb
    clear hw4
    exact bodyPost_ret (v := .agg #[.int .i64 k', .int .i64 v', .int .i64 m', .int .i64 n']) (by simp [results, Try.results36, go_sem, p0, p1, p2, p3]) rfl ⟨k', v', m', n', rfl, hn, H4.out, G4.out⟩
  · clear a2 c2
    go_wp2_with fail
    refine (pick_b R (p + 1 + 1) 2 _ H2.out (by omega) (by omega)).mono ?_
    rintro e w3 ⟨r3, rfl, a3, b3, _, hr, hg⟩
    have c3 := b3 (by omega)
    have H3 := hide hr
    have X3 := hide (X2.out.grown hg (by omega))
    have F3 : Hid (Free w3 w.heap.size) := F2.out.grown X2.out.lt hg (by omega)
    have G3 := hide (grown_seq G2.out hg)
    clear hr hg b3
    obtain ⟨x0, x1, x2, x3⟩ := X3.out
    have fx := F3.out
    unfold Free at fx
    go_wp2_with fail
    refine post_named fun w4 hw4 => ?_
    obtain ⟨k', v', m', n', hb, hn⟩ : ∃ k' v' m' n' : Int, Box4 w4 w.heap.size k' v' m' n' ∧ (0 ≤ n' ∧ n' ≤ 63) := by
      rw [← hw4]
      exact ⟨_, _, _, _, box4_put X3.out _ _ _ _, by omega, by omega⟩
    have G4 := hide (show w.grownBy w4 (some R) by rw [← hw4]; exact grown_own G3.out (put4_grown _ _ _ _ _ _) (by simp))
    have H4 := hide (show RdB w4 R (p + 3) by rw [← hw4]; exact H3.out.grown (put4_grown _ _ _ _ _ _) (by simpa using hlt))
    obtain ⟨p0, p1, p2, p3⟩ := hb
    clear hw4
    exact bodyPost_ret (v := .agg #[.int .i64 k', .int .i64 v', .int .i64 m', .int .i64 n']) (by simp [results, Try.results36, go_sem, p0, p1, p2, p3]) rfl ⟨k', v', m', n', rfl, hn, H4.out, G4.out⟩
  · clear a2 c2
    go_wp2_with fail
    refine (pick_b R (p + 1 + 1) 2 _ H2.out (by omega) (by omega)).mono ?_
    rintro e w3 ⟨r3, rfl, a3, b3, _, hr, hg⟩
    have c3 := b3 (by omega)
    have H3 := hide hr
    have X3 := hide (X2.out.grown hg (by omega))
    have F3 : Hid (Free w3 w.heap.size) := F2.out.grown X2.out.lt hg (by omega)
    have G3 := hide (grown_seq G2.out hg)
    clear hr hg b3
    obtain ⟨x0, x1, x2, x3⟩ := X3.out
    have fx := F3.out
    unfold Free at fx
    go_wp2_with fail
    refine post_named fun w4 hw4 => ?_
    obtain ⟨k', v', m', n', hb, hn⟩ : ∃ k' v' m' n' : Int, Box4 w4 w.heap.size k' v' m' n' ∧ (0 ≤ n' ∧ n' ≤ 63) := by
      rw [← hw4]
      exact ⟨_, _, _, _, box4_put X3.out _ _ _ _, by omega, by omega⟩
    have G4 := hide (show w.grownBy w4 (some R) by rw [← hw4]; exact grown_own G3.out (put4_grown _ _ _ _ _ _) (by simp))
    have H4 := hide (show RdB w4 R (p + 3) by rw [← hw4]; exact H3.out.grown (put4_grown _ _ _ _ _ _) (by simpa using hlt))
    obtain ⟨p0, p1, p2, p3⟩ := hb
    clear hw4
    exact bodyPost_ret (v := .agg #[.int .i64 k', .int .i64 v', .int .i64 m', .int .i64 n']) (by simp [results, Try.results36, go_sem, p0, p1, p2, p3]) rfl ⟨k', v', m', n', rfl, hn, H4.out, G4.out⟩
  · clear a2 c2
    go_wp2_with fail
    refine (pick_b R (p + 1 + 1) 3 _ H2.out (by omega) (by omega)).mono ?_
    rintro e w3 ⟨r3, rfl, a3, b3, _, hr, hg⟩
    have c3 := b3 (by omega)
    have H3 := hide hr
    have X3 := hide (X2.out.grown hg (by omega))
    have F3 : Hid (Free w3 w.heap.size) := F2.out.grown X2.out.lt hg (by omega)
    have G3 := hide (grown_seq G2.out hg)
    clear hr hg b3
    obtain ⟨x0, x1, x2, x3⟩ := X3.out
    have fx := F3.out
    unfold Free at fx
    go_wp2_with fail
    refine post_named fun w4 hw4 => ?_
    obtain ⟨k', v', m', n', hb, hn⟩ : ∃ k' v' m' n' : Int, Box4 w4 w.heap.size k' v' m' n' ∧ (0 ≤ n' ∧ n' ≤ 63) := by
      rw [← hw4]
      exact ⟨_, _, _, _, box4_put X3.out _ _ _ _, by omega, by omega⟩
    have G4 := hide (show w.grownBy w4 (some R) by rw [← hw4]; exact grown_own G3.out (put4_grown _ _ _ _ _ _) (by simp))
    have H4 := hide (show RdB w4 R (p + 3) by rw [← hw4]; exact H3.out.grown (put4_grown _ _ _ _ _ _) (by simpa using hlt))
    obtain ⟨p0, p1, p2, p3⟩ := hb
    clear hw4
    exact bodyPost_ret (v := .agg #[.int .i64 k', .int .i64 v', .int .i64 m', .int .i64 n']) (by simp [results, Try.results36, go_sem, p0, p1, p2, p3]) rfl ⟨k', v', m', n', rfl, hn, H4.out, G4.out⟩
end Go.Proofs.Ytacdagdhkmcbiaa
