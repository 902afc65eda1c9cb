/-
  The walk of the law FnLineBack: it returns true at every input, and turns nothing that was there.
  No condition.
-/
import Derived.Test.YtkakhajellemcaaFnLines
namespace Go.Proofs.Ytkakhajellemcaa
open Go.RowKit Go.Sort base
theorem lineBack_no {k v w n : Int} (h : lineQ k v w n = false) : lineBack k v w n = (0, 0, 0, 0) := by rw [lineBack, if_pos h]
/-- undone twice it is as before, but for the number of a PRepeat -/
theorem back_back {k v w n k1 v1 w1 n1 : Int} (h : lineQ k v w n = true) (hb : lineBack k v w n = (k1, v1, w1, n1)) (hk : k ≠ 4) : lineBack k1 v1 w1 n1 = (k, v, w, n) := by
  have h9 := kind9 (show inR 0 8 k = true by simp only [lineQ, Bool.and_eq_true] at h; exact h.1)
  have hn := lineQ_n h
  have h1 := back_ok h hb
  rcases h9 with rfl | rfl | rfl | rfl | rfl | rfl | rfl | rfl | rfl <;>
    first
    | exact absurd rfl hk
    | (rw [lineBack, h] at hb; simp at hb; obtain ⟨rfl, rfl, rfl, rfl⟩ := hb; rw [lineBack, h1]; simp; try (first | omega | (simp [lineQ, inR, hasV, hasW, mostN] at h; omega)))
theorem back_rep {v w n k1 v1 w1 n1 : Int} (h : lineQ 4 v w n = true) (hb : lineBack 4 v w n = (k1, v1, w1, n1)) : lineBack k1 v1 w1 n1 = (4, 0, 0, 0) ∧ v = 0 ∧ w = 0 := by
  have h1 := back_ok h hb
  rw [lineBack, h] at hb
  simp at hb
  obtain ⟨rfl, rfl, rfl, rfl⟩ := hb
  refine ⟨by rw [lineBack, h1]; rfl, ?_⟩
  simp [lineQ, inR, hasV, hasW, mostN] at h
  omega
theorem call_back (f : FuncId) (k v w n k1 v1 w1 n1 : Int) (h : ∀ W, Calls Try.prog f #[.agg #[.int .i64 k, .int .i64 v, .int .i64 w, .int .i64 n]] W fun e w' => e = .returned (lineV (lineBack k v w n)) ∧ Below W.heap.size W w') (hb : lineBack k v w n = (k1, v1, w1, n1)) :
    ∀ W, Calls Try.prog f #[.agg #[.int .i64 k, .int .i64 v, .int .i64 w, .int .i64 n]] W fun e w' => e = .returned (.agg #[.int .i64 k1, .int .i64 v1, .int .i64 w1, .int .i64 n1]) ∧ Below W.heap.size W w' := by
  rw [hb] at h; exact h
set_option maxHeartbeats 8000000 in
theorem walk_FnLineBack (A : Option Addr) (n c : Nat) (zs : List Int) (w : World) (h : IRk .u8 w A n zs) (hz : ∀ z ∈ zs, (Lit.int .u8 z).wf = true) (hc : n ≤ c) :
    Calls Try.prog 6 #[.slice A n c] w fun e w' => e = .returned (.bool true) ∧ Below w.heap.size w w' := by
  have hmax := h.max
  by_cases hbig : 1048576 < n
  · clear h hz
    go_enter Try.func6, Try.ntmps6
    go_wp2_with fail
    go_ret
    exact ⟨rfl, Below.refl _ _⟩
  have H := hide (drawLineBack_b A n c zs w h hz hc)
  clear h hz
  go_enter Try.func6, Try.ntmps6
  go_wp2_with fail
  refine H.out.mono ?_
  rintro e w1 ⟨k, v, m, n2, rfl, hn, hb1⟩
  have B1 := hide hb1
  have hs1 := hb1.size
  have X1 := hide (Box4.made w1 k v m n2 25)
  have B1' := hide (hb1.alloc hs1 (.cells #[.int .i64 k, .int .i64 v, .int .i64 m, .int .i64 n2] 25))
  clear hb1 hn
  obtain ⟨k1, v1, m1, n1, hbk⟩ : ∃ k1 v1 m1 n1, lineBack k v m n2 = (k1, v1, m1, n1) := ⟨_, _, _, _, rfl⟩
  have HC := hide (call_back _ k v m n2 k1 v1 m1 n1 (lineBack_any k v m n2) hbk)
  have HS := hide (call_back _ k v m n2 k1 v1 m1 n1 (sLineBack_any k v m n2) hbk)
  have HK := Lib.hid hbk
  clear hbk
  go_wp2_with fail
  refine (HC.out _).mono ?_
  rintro e w2 ⟨rfl, hb⟩
  have B2 := hide (B1'.out.trans (hb.mono B1'.out.size))
  have X2 := hide (X1.out.below hb)
  clear hb
  have hs2 := X2.out.lt
  obtain ⟨c0, c1, c2, c3⟩ := X2.out
  go_wp2_with fail
  refine wp_named fun wr hwr => ?_
  have B3 := hide (show Below w.heap.size w wr by rw [← hwr]; exact B2.out.alloc B2.out.size _)
  have X3 := hide (show Box4 wr w1.heap.size k v m n2 by rw [← hwr]; exact X2.out.below ((Below.refl _ _).alloc (Nat.le_refl _) _))
  have Y3 := hide (show Box4 wr w2.heap.size k1 v1 m1 n1 by rw [← hwr]; exact Box4.made w2 _ _ _ _ _)
  clear hwr c0 c1 c2 c3
  obtain ⟨c0, c1, c2, c3⟩ := X3.out
  obtain ⟨d0, d1, d2, d3⟩ := Y3.out
  have q0 := cell_regrown c0
  have q1 := cell_regrown c1
  have q2 := cell_regrown c2
  have q3 := cell_regrown c3
  have r0 := cell_regrown d0
  have r1 := cell_regrown d1
  have r2 := cell_regrown d2
  have r3 := cell_regrown d3
  clear c0 c1 c2 c3 d0 d1 d2 d3
  have z0 : (k1 != k1) = false := by simp
  have z1 : (v1 != v1) = false := by simp
  have z2 : (m1 != m1) = false := by simp
  have z3 : (n1 != n1) = false := by simp
  refine wp_region_below (by kernel_rfl) (by kernel_rfl) ?_
  repeat (go_big_quiet_step ((go_at_call 12; exact below_of rfl HS.out)))
  refine wpQuiet_nil ?_
  intro p
  obtain ⟨w4, hw4⟩ : ∃ w4, grow (redrawn wr p.d) p.os = w4 := ⟨_, rfl⟩
  have hb4 : Below wr.heap.size wr w4 := by rw [← hw4]; exact below_regrown wr p.d p.os
  rw [hw4]
  have B4 := hide (bseq B3.out hb4)
  have X4 := hide (X3.out.below hb4)
  have Y4 := hide (Y3.out.below hb4)
  clear hw4 hb4 q0 q1 q2 q3 r0 r1 r2 r3
  obtain ⟨c0, c1, c2, c3⟩ := X4.out
  cases hq : lineQ k v m n2
  · have HQ := Lib.hid hq
    have hno := lineBack_no hq
    rw [HK.out] at hno
    simp only [Prod.mk.injEq] at hno
    obtain ⟨rfl, rfl, rfl, rfl⟩ := hno
    clear hq z0 z1 z2 z3
    go_wp2_with fail
    clear c0 c1 c2 c3
    refine (lineValid_b false k v m n2 HQ.out _).mono ?_
    rintro e w5 ⟨rfl, hb⟩
    have B5 := hide (B4.out.trans (hb.mono B4.out.size))
    have Y5 := hide (Y4.out.below hb)
    clear hb
    obtain ⟨d0, d1, d2, d3⟩ := Y5.out
    go_wp2_with fail
    refine (alive_any _).mono ?_
    rintro e w' ⟨rfl, rfl⟩
    go_wp2_with fail
    go_ret
    exact ⟨rfl, B5.out⟩
  · have HQ := Lib.hid hq
    have H1 := Lib.hid (back_ok hq HK.out)
    by_cases hk4 : k = 4
    · subst hk4
      obtain ⟨hbb, rfl, rfl⟩ := back_rep hq HK.out
      have HB := hide (call_back _ k1 v1 m1 n1 4 0 0 0 (lineBack_any k1 v1 m1 n1) hbb)
      clear hq hbb z0 z1 z2 z3
      go_wp2_with fail
      clear c0 c1 c2 c3
      refine (lineValid_b true _ _ _ _ HQ.out _).mono ?_
      rintro e w5 ⟨rfl, hb⟩
      have B5 := hide (B4.out.trans (hb.mono B4.out.size))
      have X5 := hide (X4.out.below hb)
      have Y5 := hide (Y4.out.below hb)
      clear hb
      go_wp2_with fail
      obtain ⟨c0, c1, c2, c3⟩ := X5.out
      obtain ⟨d0, d1, d2, d3⟩ := Y5.out
      have q0 := cell_regrown c0
      have q1 := cell_regrown c1
      have q2 := cell_regrown c2
      have q3 := cell_regrown c3
      have r0 := cell_regrown d0
      have r1 := cell_regrown d1
      have r2 := cell_regrown d2
      have r3 := cell_regrown d3
      clear c0 c1 c2 c3 d0 d1 d2 d3
      by_cases h0 : n2 = 0
      all_goals
        first | subst h0 | (have e0 : (n2 == 0) = false := by simpa using h0)
        refine wp_region_below (by kernel_rfl) (by kernel_rfl) ?_
        repeat (go_big_quiet_step ((first | (go_at_call 11; exact below_of rfl (fun W => lineValid_b true _ _ _ _ H1.out W)) | (go_at_call 13; exact below_of rfl HB.out))))
        refine wpQuiet_nil ?_
        intro p
        obtain ⟨w6, hw6⟩ : ∃ w6, grow (redrawn w5 p.d) p.os = w6 := ⟨_, rfl⟩
        have hb6 : Below w5.heap.size w5 w6 := by rw [← hw6]; exact below_regrown w5 p.d p.os
        rw [hw6]
        have B6 := hide (bseq B5.out hb6)
        clear hw6 hb6 q0 q1 q2 q3 r0 r1 r2 r3
        go_wp2_with fail
        go_ret
        exact ⟨rfl, B6.out⟩
    · have hbb := back_back hq HK.out hk4
      have HB := hide (call_back _ k1 v1 m1 n1 k v m n2 (lineBack_any k1 v1 m1 n1) hbb)
      clear hq hbb z0 z1 z2 z3
      go_wp2_with fail
      clear c0 c1 c2 c3
      refine (lineValid_b true _ _ _ _ HQ.out _).mono ?_
      rintro e w5 ⟨rfl, hb⟩
      have B5 := hide (B4.out.trans (hb.mono B4.out.size))
      have X5 := hide (X4.out.below hb)
      have Y5 := hide (Y4.out.below hb)
      clear hb
      go_wp2_with fail
      obtain ⟨c0, c1, c2, c3⟩ := X5.out
      obtain ⟨d0, d1, d2, d3⟩ := Y5.out
      have q0 := cell_regrown c0
      have q1 := cell_regrown c1
      have q2 := cell_regrown c2
      have q3 := cell_regrown c3
      have r0 := cell_regrown d0
      have r1 := cell_regrown d1
      have r2 := cell_regrown d2
      have r3 := cell_regrown d3
      clear c0 c1 c2 c3 d0 d1 d2 d3
      · skip
        refine wp_region_below (by kernel_rfl) (by kernel_rfl) ?_
        repeat (go_big_quiet_step ((first | (go_at_call 11; exact below_of rfl (fun W => lineValid_b true _ _ _ _ H1.out W)) | (go_at_call 13; exact below_of rfl HB.out))))
        refine wpQuiet_nil ?_
        intro p
        obtain ⟨w6, hw6⟩ : ∃ w6, grow (redrawn w5 p.d) p.os = w6 := ⟨_, rfl⟩
        have hb6 : Below w5.heap.size w5 w6 := by rw [← hw6]; exact below_regrown w5 p.d p.os
        rw [hw6]
        have B6 := hide (bseq B5.out hb6)
        clear hw6 hb6 q0 q1 q2 q3 r0 r1 r2 r3
        go_wp2_with fail
        go_ret
        exact ⟨rfl, B6.out⟩
end Go.Proofs.Ytkakhajellemcaa
