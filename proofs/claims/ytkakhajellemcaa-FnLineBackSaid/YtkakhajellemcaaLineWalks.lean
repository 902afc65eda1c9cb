/-
  Statements handed over and compared; the walks of the exact laws over one statement.
  No condition.
-/
import Derived.Test.YtkakhajellemcaaLineBack
namespace Go.Proofs.Ytkakhajellemcaa
open Go.RowKit Go.Sort base
set_option maxHeartbeats 400000 in
theorem toLine_any (k v w n : Int) (W : World) :
    Calls Try.prog 10 #[.agg #[.int .i64 k, .int .i64 v, .int .i64 w, .int .i64 n]] W fun e w' => e = .returned (.agg #[.int .i64 k, .int .i64 v, .int .i64 w, .int .i64 n]) ∧ Below W.heap.size W w' := by
  go_enter Try.func10, Try.ntmps10
  go_wp2_with fail
  have d0 : (((W.alloc (.cells #[.int .i64 k, .int .i64 v, .int .i64 w, .int .i64 n] 23)).alloc (.cells #[.int .i64 k, .int .i64 v, .int .i64 w, .int .i64 n] 25)).alloc (.cells #[.int .i64 k, .int .i64 v, .int .i64 w, .int .i64 n] 25)).cell? ⟨W.heap.size + 1, 0, none⟩ = some (.int .i64 k) := cell_old (cell_at rfl (by simp))
  have d1 : (((W.alloc (.cells #[.int .i64 k, .int .i64 v, .int .i64 w, .int .i64 n] 23)).alloc (.cells #[.int .i64 k, .int .i64 v, .int .i64 w, .int .i64 n] 25)).alloc (.cells #[.int .i64 k, .int .i64 v, .int .i64 w, .int .i64 n] 25)).cell? ⟨W.heap.size + 1, 1, none⟩ = some (.int .i64 v) := cell_old (cell_at rfl (by simp))
  have d2 : (((W.alloc (.cells #[.int .i64 k, .int .i64 v, .int .i64 w, .int .i64 n] 23)).alloc (.cells #[.int .i64 k, .int .i64 v, .int .i64 w, .int .i64 n] 25)).alloc (.cells #[.int .i64 k, .int .i64 v, .int .i64 w, .int .i64 n] 25)).cell? ⟨W.heap.size + 1, 2, none⟩ = some (.int .i64 w) := cell_old (cell_at rfl (by simp))
  have d3 : (((W.alloc (.cells #[.int .i64 k, .int .i64 v, .int .i64 w, .int .i64 n] 23)).alloc (.cells #[.int .i64 k, .int .i64 v, .int .i64 w, .int .i64 n] 25)).alloc (.cells #[.int .i64 k, .int .i64 v, .int .i64 w, .int .i64 n] 25)).cell? ⟨W.heap.size + 1, 3, none⟩ = some (.int .i64 n) := cell_old (cell_at rfl (by simp))
  refine bodyPost_ret (v := .agg #[.int .i64 k, .int .i64 v, .int .i64 w, .int .i64 n]) (by simp [results, Try.results10, go_sem, d0, d1, d2, d3]) rfl ⟨rfl, by go_grown⟩
set_option maxHeartbeats 400000 in
theorem eqLine_same (k v w n : Int) (W : World) :
    Calls Try.prog 14 #[.agg #[.int .i64 k, .int .i64 v, .int .i64 w, .int .i64 n], .agg #[.int .i64 k, .int .i64 v, .int .i64 w, .int .i64 n]] W fun e w' => e = .returned (.bool true) ∧ Below W.heap.size W w' := by
  have e0 : (k != k) = false := by simp
  have e1 : (v != v) = false := by simp
  have e2 : (w != w) = false := by simp
  have e3 : (n != n) = false := by simp
  go_enter Try.func14, Try.ntmps14
  go_wp2_with fail
  go_ret
  exact ⟨rfl, by go_grown⟩
set_option maxHeartbeats 1000000 in
theorem walk_FnExactLineValid (k v w n : Int) (W : World) (_ : (Lit.int .i64 k).wf = true) (_ : (Lit.int .i64 v).wf = true) (_ : (Lit.int .i64 w).wf = true) (_ : (Lit.int .i64 n).wf = true) :
    Calls Try.prog 3 #[.agg #[.int .i64 k, .int .i64 v, .int .i64 w, .int .i64 n]] W fun e w' => e = .returned (.bool true) ∧ Below W.heap.size W w' := by
  obtain ⟨b, hb⟩ : ∃ b, lineQ k v w n = b := ⟨_, rfl⟩
  have HV := Lib.hid hb
  clear hb
  have e1 : (b != b) = false := by simp
  have e2 : (b == b) = true := by simp
  go_enter Try.func3, Try.ntmps3
  have B0 := hide (show Below W.heap.size W (W.alloc (.cells #[.int .i64 k, .int .i64 v, .int .i64 w, .int .i64 n] 23)) by go_grown)
  have X0 := hide (Box4.made W k v w n 23)
  go_wp2_with fail
  refine (toLine_any k v w n _).mono ?_
  rintro e w1 ⟨rfl, hb⟩
  have B1 := hide (B0.out.trans (hb.mono B0.out.size))
  have X1 := hide (X0.out.below hb)
  clear hb
  obtain ⟨c0, c1, c2, c3⟩ := X1.out
  go_wp2_with fail
  clear c0 c1 c2 c3
  refine (sLineValid_b b k v w n HV.out _).mono ?_
  rintro e w2 ⟨rfl, hb⟩
  have B2 := hide (B1.out.trans (hb.mono B1.out.size))
  have X2 := hide (X1.out.below hb)
  clear hb
  obtain ⟨c0, c1, c2, c3⟩ := X2.out
  go_wp2_with fail
  clear c0 c1 c2 c3
  refine (toLine_any k v w n _).mono ?_
  rintro e w3 ⟨rfl, hb⟩
  have B3 := hide (B2.out.trans (hb.mono B2.out.size))
  have X3 := hide (X2.out.below hb)
  clear hb
  obtain ⟨c0, c1, c2, c3⟩ := X3.out
  go_wp2_with fail
  clear c0 c1 c2 c3
  refine (lineValid_b b k v w n HV.out _).mono ?_
  rintro e w4 ⟨rfl, hb⟩
  have B4 := hide (B3.out.trans (hb.mono B3.out.size))
  have X4 := hide (X3.out.below hb)
  clear hb
  go_wp2_with fail
  go_ret
  exact ⟨rfl, B4.out⟩
set_option maxHeartbeats 2000000 in
theorem walk_FnExactLineBack (k v w n : Int) (W : World) (_ : (Lit.int .i64 k).wf = true) (_ : (Lit.int .i64 v).wf = true) (_ : (Lit.int .i64 w).wf = true) (_ : (Lit.int .i64 n).wf = true) :
    Calls Try.prog 4 #[.agg #[.int .i64 k, .int .i64 v, .int .i64 w, .int .i64 n]] W fun e w' => e = .returned (.bool true) ∧ Below W.heap.size W w' := by
  obtain ⟨k1, v1, m1, n1, hb⟩ : ∃ k1 v1 m1 n1, lineBack k v w n = (k1, v1, m1, n1) := ⟨_, _, _, _, rfl⟩
  have HC := hide (lineBack_any k v w n)
  have HS := hide (sLineBack_any k v w n)
  rw [hb] at HC HS
  have HC' : Hid (∀ W, Calls Try.prog 13 #[.agg #[.int .i64 k, .int .i64 v, .int .i64 w, .int .i64 n]] W fun e w' => e = .returned (.agg #[.int .i64 k1, .int .i64 v1, .int .i64 m1, .int .i64 n1]) ∧ Below W.heap.size W w') := HC.out
  have HS' : Hid (∀ W, Calls Try.prog 12 #[.agg #[.int .i64 k, .int .i64 v, .int .i64 w, .int .i64 n]] W fun e w' => e = .returned (.agg #[.int .i64 k1, .int .i64 v1, .int .i64 m1, .int .i64 n1]) ∧ Below W.heap.size W w') := HS.out
  clear HC HS hb
  go_enter Try.func4, Try.ntmps4
  have B0 := hide (show Below W.heap.size W (W.alloc (.cells #[.int .i64 k, .int .i64 v, .int .i64 w, .int .i64 n] 23)) by go_grown)
  have X0 := hide (Box4.made W k v w n 23)
  go_wp2_with fail
  refine (toLine_any k v w n _).mono ?_
  rintro e w1 ⟨rfl, hb⟩
  have B1 := hide (B0.out.trans (hb.mono B0.out.size))
  have X1 := hide (X0.out.below hb)
  clear hb
  obtain ⟨c0, c1, c2, c3⟩ := X1.out
  go_wp2_with fail
  clear c0 c1 c2 c3
  refine (HS'.out _).mono ?_
  rintro e w2 ⟨rfl, hb⟩
  have B2 := hide (B1.out.trans (hb.mono B1.out.size))
  have X2 := hide (X1.out.below hb)
  clear hb
  have hs2 := X2.out.lt
  obtain ⟨c0, c1, c2, c3⟩ := X2.out
  go_wp2_with fail
  refine calls_named fun u1 hu1 => ?_
  have B2' := hide (show Below W.heap.size W u1 by rw [← hu1]; exact B2.out.alloc B2.out.size _)
  have Y2 := hide (show Box4 u1 w2.heap.size k1 v1 m1 n1 by rw [← hu1]; exact Box4.made w2 _ _ _ _ _)
  clear c0 c1 c2 c3 hu1
  refine (toLine_any k v w n _).mono ?_
  rintro e w3 ⟨rfl, hb⟩
  have B3 := hide (B2'.out.trans (hb.mono B2'.out.size))
  have Y3 := hide (Y2.out.below hb)
  clear hb
  go_wp2_with fail
  refine (HC'.out _).mono ?_
  rintro e w4 ⟨rfl, hb⟩
  have B4 := hide (B3.out.trans (hb.mono B3.out.size))
  have Y4 := hide (Y3.out.below hb)
  clear hb
  have hs4 := Y4.out.lt
  obtain ⟨c0, c1, c2, c3⟩ := Y4.out
  go_wp2_with fail
  refine calls_named fun u2 hu2 => ?_
  have B4' := hide (show Below W.heap.size W u2 by rw [← hu2]; exact B4.out.alloc B4.out.size _)
  clear c0 c1 c2 c3 hu2
  refine (eqLine_same k1 v1 m1 n1 _).mono ?_
  rintro e w5 ⟨rfl, hb⟩
  have B5 := hide (B4'.out.trans (hb.mono B4'.out.size))
  clear hb
  go_wp2_with fail
  go_ret
  exact ⟨rfl, B5.out⟩
end Go.Proofs.Ytkakhajellemcaa
