/-
  The walk of the law FnExactCommute: it returns true at every input, and turns nothing that was there.
  No condition.
-/
import Derived.Test.YtefndlmbidiodaaSComm
namespace Go.Proofs.Ytefndlmbidiodaa
open Go.RowKit Go.Sort base
set_option maxHeartbeats 4000000 in
theorem walk_FnExactCommute (l k a b c k' a' b' c' : Int) (w : World) (_ : (Lit.int .i64 l).wf = true) (_ : (Lit.int .i64 k).wf = true) (_ : (Lit.int .i64 a).wf = true) (_ : (Lit.int .i64 b).wf = true) (_ : (Lit.int .i64 c).wf = true) (_ : (Lit.int .i64 k').wf = true) (_ : (Lit.int .i64 a').wf = true) (_ : (Lit.int .i64 b').wf = true) (_ : (Lit.int .i64 c').wf = true) :
    Calls Try.prog 4 #[.int .i64 l, .agg #[.int .i64 k, .int .i64 a, .int .i64 b, .int .i64 c], .agg #[.int .i64 k', .int .i64 a', .int .i64 b', .int .i64 c']] w fun e w' => e = .returned (.bool true) ∧ Below w.heap.size w w' := by
  obtain ⟨v, hv⟩ : ∃ v, commQ l k a b c k' a' b' c' = v := ⟨_, rfl⟩
  have e1 : (v != v) = false := by simp
  have e2 : (v == v) = true := by simp
  have HA := hide (sCommute_any l k a b c k' a' b' c')
  have HC := hide (commute_any l k a b c k' a' b' c')
  rw [hv] at HA HC
  clear hv
  go_enter Try.func4, Try.ntmps4
  go_wp2_with fail
  refine wp_named fun wr hwr => ?_
  have HB0 := hide (show Below w.heap.size w wr by rw [← hwr]; go_grown)
  have HX0 := hide (show Box4 wr w.heap.size k a b c by rw [← hwr]; exact (Box4.made w k a b c 23).below ((Below.refl _ _).alloc (Nat.le_refl _) _))
  have HY0 := hide (show Box4 wr (w.heap.size + 1) k' a' b' c' by
    rw [← hwr]
    have := Box4.made (w.alloc (.cells #[.int .i64 k, .int .i64 a, .int .i64 b, .int .i64 c] 23)) k' a' b' c' 23
    rwa [World.size_alloc] at this)
  clear hwr
  obtain ⟨c0, c1, c2, c3⟩ := HX0.out
  obtain ⟨d0, d1, d2, d3⟩ := HY0.out
  have k00 := cell_regrown c0
  have k01 := cell_regrown c1
  have k02 := cell_regrown c2
  have k03 := cell_regrown c3
  have l00 := cell_regrown d0
  have l01 := cell_regrown d1
  have l02 := cell_regrown d2
  have l03 := cell_regrown d3
  clear c0 c1 c2 c3 d0 d1 d2 d3
  refine wp_region_below (by kernel_rfl) (by kernel_rfl) ?_
  repeat (go_big_quiet_step ((first | (go_at_call 11; exact below_of rfl (fun W => toGate_any _ _ _ _ W)) | (go_at_call 13; exact below_of rfl HA.out))))
  refine wpQuiet_nil ?_
  intro p
  obtain ⟨w1, hw1⟩ : ∃ w1, grow (redrawn wr p.d) p.os = w1 := ⟨_, rfl⟩
  have hb : Below wr.heap.size wr w1 := by rw [← hw1]; exact below_regrown wr p.d p.os
  rw [hw1]
  have HB1 := hide (bseq HB0.out hb)
  have HX1 := hide (HX0.out.below hb)
  have HY1 := hide (HY0.out.below hb)
  clear hw1 hb k00 l00 k01 l01 k02 l02 k03 l03
  go_wp2_with fail
  obtain ⟨c0, c1, c2, c3⟩ := HX1.out
  obtain ⟨d0, d1, d2, d3⟩ := HY1.out
  have k10 := cell_regrown c0
  have k11 := cell_regrown c1
  have k12 := cell_regrown c2
  have k13 := cell_regrown c3
  have l10 := cell_regrown d0
  have l11 := cell_regrown d1
  have l12 := cell_regrown d2
  have l13 := cell_regrown d3
  clear c0 c1 c2 c3 d0 d1 d2 d3
  refine wp_region_below (by kernel_rfl) (by kernel_rfl) ?_
  repeat (go_big_quiet_step ((first | (go_at_call 11; exact below_of rfl (fun W => toGate_any _ _ _ _ W)) | (go_at_call 14; exact below_of rfl HC.out))))
  refine wpQuiet_nil ?_
  intro p
  obtain ⟨w2, hw2⟩ : ∃ w2, grow (redrawn w1 p.d) p.os = w2 := ⟨_, rfl⟩
  have hb : Below w1.heap.size w1 w2 := by rw [← hw2]; exact below_regrown w1 p.d p.os
  rw [hw2]
  have HB2 := hide (bseq HB1.out hb)
  have HX2 := hide (HX1.out.below hb)
  have HY2 := hide (HY1.out.below hb)
  clear hw2 hb k10 l10 k11 l11 k12 l12 k13 l13
  go_wp2_with fail
  go_ret
  exact ⟨rfl, HB2.out⟩
end Go.Proofs.Ytefndlmbidiodaa
