/-
  Which statements are valid, by the reference.
  No condition.
-/
import Derived.Test.YtacdagdhkmcbiaaLinesH
namespace Go.Proofs.Ytacdagdhkmcbiaa
open Go.RowKit Go.Sort base
set_option maxHeartbeats 4000000 in
theorem sLineValid_0 (v w n : Int) (W : World) :
    Calls Try.prog 12 #[.agg #[.int .i64 0, .int .i64 v, .int .i64 w, .int .i64 n]] W fun e w' => e = .returned (.bool (lineQ 0 v w n)) ∧ Below W.heap.size W w' := by
  have HQ := Lib.hid (show lineQ 0 v w n = (inR 0 3 v && inR 0 3 w && inR 0 0 n && !(true && v == w)) from rfl)
  have HB0 := hide (show Below W.heap.size W (W.alloc (.cells #[.int .i64 0, .int .i64 v, .int .i64 w, .int .i64 n] 32)) by go_grown)
  cases hv : inR 0 3 v
  · have HV := Lib.hid hv
    clear hv
    go_enter Try.func12, Try.ntmps12
    go_wp2_with fail
    refine (l1In_b false v 0 3 HV.out _).mono ?_
    rintro e w' ⟨rfl, rfl⟩
    go_wp2_with fail
    go_ret
    exact ⟨by rw [HQ.out, HV.out]; rfl, HB0.out⟩
  · have HV := Lib.hid hv
    clear hv
    cases hw : inR 0 3 w
    · have HW := Lib.hid hw
      clear hw
      go_enter Try.func12, Try.ntmps12
      go_wp2_with fail
      refine (l1In_b true v 0 3 HV.out _).mono ?_
      rintro e w' ⟨rfl, rfl⟩
      go_wp2_with fail
      refine (l1In_b false w 0 3 HW.out _).mono ?_
      rintro e w' ⟨rfl, rfl⟩
      go_wp2_with fail
      go_ret
      exact ⟨by rw [HQ.out, HV.out, HW.out]; rfl, HB0.out⟩
    · have HW := Lib.hid hw
      clear hw
      cases he : v == w
      · have HE := Lib.hid he
        have e2 : (v != w) = true := by rw [bne, he]; rfl
        cases hn : n == 0
        · have HN := Lib.hid hn
          go_enter Try.func12, Try.ntmps12
          go_wp2_with fail
          refine (l1In_b true v 0 3 HV.out _).mono ?_
          rintro e w' ⟨rfl, rfl⟩
          go_wp2_with fail
          refine (l1In_b true w 0 3 HW.out _).mono ?_
          rintro e w' ⟨rfl, rfl⟩
          go_wp2_with fail
          go_ret
          exact ⟨by rw [HQ.out, HV.out, HW.out, inR_zero, HN.out, HE.out]; rfl, HB0.out⟩
        · have HN := Lib.hid hn
          go_enter Try.func12, Try.ntmps12
          go_wp2_with fail
          refine (l1In_b true v 0 3 HV.out _).mono ?_
          rintro e w' ⟨rfl, rfl⟩
          go_wp2_with fail
          refine (l1In_b true w 0 3 HW.out _).mono ?_
          rintro e w' ⟨rfl, rfl⟩
          go_wp2_with fail
          go_ret
          exact ⟨by rw [HQ.out, HV.out, HW.out, inR_zero, HN.out, HE.out]; rfl, HB0.out⟩
      · have HE := Lib.hid he
        have e2 : (v != w) = false := by rw [bne, he]; rfl
        go_enter Try.func12, Try.ntmps12
        go_wp2_with fail
        refine (l1In_b true v 0 3 HV.out _).mono ?_
        rintro e w' ⟨rfl, rfl⟩
        go_wp2_with fail
        refine (l1In_b true w 0 3 HW.out _).mono ?_
        rintro e w' ⟨rfl, rfl⟩
        go_wp2_with fail
        go_ret
        exact ⟨by rw [HQ.out, HE.out]; simp, HB0.out⟩
set_option maxHeartbeats 4000000 in
theorem sLineValid_1 (v w n : Int) (W : World) :
    Calls Try.prog 12 #[.agg #[.int .i64 1, .int .i64 v, .int .i64 w, .int .i64 n]] W fun e w' => e = .returned (.bool (lineQ 1 v w n)) ∧ Below W.heap.size W w' := by
  have HQ := Lib.hid (show lineQ 1 v w n = (inR 0 3 v && inR 0 3 w && inR 0 0 n && !(true && v == w)) from rfl)
  have HB0 := hide (show Below W.heap.size W (W.alloc (.cells #[.int .i64 1, .int .i64 v, .int .i64 w, .int .i64 n] 32)) by go_grown)
  cases hv : inR 0 3 v
  · have HV := Lib.hid hv
    clear hv
    go_enter Try.func12, Try.ntmps12
    go_wp2_with fail
    refine (l1In_b false v 0 3 HV.out _).mono ?_
    rintro e w' ⟨rfl, rfl⟩
    go_wp2_with fail
    go_ret
    exact ⟨by rw [HQ.out, HV.out]; rfl, HB0.out⟩
  · have HV := Lib.hid hv
    clear hv
    cases hw : inR 0 3 w
    · have HW := Lib.hid hw
      clear hw
      go_enter Try.func12, Try.ntmps12
      go_wp2_with fail
      refine (l1In_b true v 0 3 HV.out _).mono ?_
      rintro e w' ⟨rfl, rfl⟩
      go_wp2_with fail
      refine (l1In_b false w 0 3 HW.out _).mono ?_
      rintro e w' ⟨rfl, rfl⟩
      go_wp2_with fail
      go_ret
      exact ⟨by rw [HQ.out, HV.out, HW.out]; rfl, HB0.out⟩
    · have HW := Lib.hid hw
      clear hw
      cases he : v == w
      · have HE := Lib.hid he
        have e2 : (v != w) = true := by rw [bne, he]; rfl
        cases hn : n == 0
        · have HN := Lib.hid hn
          go_enter Try.func12, Try.ntmps12
          go_wp2_with fail
          refine (l1In_b true v 0 3 HV.out _).mono ?_
          rintro e w' ⟨rfl, rfl⟩
          go_wp2_with fail
          refine (l1In_b true w 0 3 HW.out _).mono ?_
          rintro e w' ⟨rfl, rfl⟩
          go_wp2_with fail
          go_ret
          exact ⟨by rw [HQ.out, HV.out, HW.out, inR_zero, HN.out, HE.out]; rfl, HB0.out⟩
        · have HN := Lib.hid hn
          go_enter Try.func12, Try.ntmps12
          go_wp2_with fail
          refine (l1In_b true v 0 3 HV.out _).mono ?_
          rintro e w' ⟨rfl, rfl⟩
          go_wp2_with fail
          refine (l1In_b true w 0 3 HW.out _).mono ?_
          rintro e w' ⟨rfl, rfl⟩
          go_wp2_with fail
          go_ret
          exact ⟨by rw [HQ.out, HV.out, HW.out, inR_zero, HN.out, HE.out]; rfl, HB0.out⟩
      · have HE := Lib.hid he
        have e2 : (v != w) = false := by rw [bne, he]; rfl
        go_enter Try.func12, Try.ntmps12
        go_wp2_with fail
        refine (l1In_b true v 0 3 HV.out _).mono ?_
        rintro e w' ⟨rfl, rfl⟩
        go_wp2_with fail
        refine (l1In_b true w 0 3 HW.out _).mono ?_
        rintro e w' ⟨rfl, rfl⟩
        go_wp2_with fail
        go_ret
        exact ⟨by rw [HQ.out, HE.out]; simp, HB0.out⟩
set_option maxHeartbeats 4000000 in
theorem sLineValid_2 (v w n : Int) (W : World) :
    Calls Try.prog 12 #[.agg #[.int .i64 2, .int .i64 v, .int .i64 w, .int .i64 n]] W fun e w' => e = .returned (.bool (lineQ 2 v w n)) ∧ Below W.heap.size W w' := by
  have HQ := Lib.hid (show lineQ 2 v w n = (inR 0 3 v && inR 0 0 w && inR 0 63 n && !(false && v == w)) from rfl)
  have HB0 := hide (show Below W.heap.size W (W.alloc (.cells #[.int .i64 2, .int .i64 v, .int .i64 w, .int .i64 n] 32)) by go_grown)
  cases hv : inR 0 3 v
  · have HV := Lib.hid hv
    clear hv
    go_enter Try.func12, Try.ntmps12
    go_wp2_with fail
    refine (l1In_b false v 0 3 HV.out _).mono ?_
    rintro e w' ⟨rfl, rfl⟩
    go_wp2_with fail
    go_ret
    exact ⟨by rw [HQ.out, HV.out]; rfl, HB0.out⟩
  · have HV := Lib.hid hv
    clear hv
    cases hw : w == 0
    · have HW := Lib.hid hw
      go_enter Try.func12, Try.ntmps12
      go_wp2_with fail
      refine (l1In_b true v 0 3 HV.out _).mono ?_
      rintro e w' ⟨rfl, rfl⟩
      go_wp2_with fail
      go_ret
      exact ⟨by rw [HQ.out, HV.out, inR_zero, HW.out]; rfl, HB0.out⟩
    · have HW := Lib.hid hw
      cases hn : inR 0 63 n
      · have HN := Lib.hid hn
        clear hn
        go_enter Try.func12, Try.ntmps12
        go_wp2_with fail
        refine (l1In_b true v 0 3 HV.out _).mono ?_
        rintro e w' ⟨rfl, rfl⟩
        go_wp2_with fail
        refine (l1In_b false n 0 63 HN.out _).mono ?_
        rintro e w' ⟨rfl, rfl⟩
        go_wp2_with fail
        go_ret
        exact ⟨by rw [HQ.out, HV.out, inR_zero, HW.out, HN.out]; rfl, HB0.out⟩
      · have HN := Lib.hid hn
        clear hn
        go_enter Try.func12, Try.ntmps12
        go_wp2_with fail
        refine (l1In_b true v 0 3 HV.out _).mono ?_
        rintro e w' ⟨rfl, rfl⟩
        go_wp2_with fail
        refine (l1In_b true n 0 63 HN.out _).mono ?_
        rintro e w' ⟨rfl, rfl⟩
        go_wp2_with fail
        go_ret
        exact ⟨by rw [HQ.out, HV.out, inR_zero, HW.out, HN.out]; rfl, HB0.out⟩
set_option maxHeartbeats 4000000 in
theorem sLineValid_3 (v w n : Int) (W : World) :
    Calls Try.prog 12 #[.agg #[.int .i64 3, .int .i64 v, .int .i64 w, .int .i64 n]] W fun e w' => e = .returned (.bool (lineQ 3 v w n)) ∧ Below W.heap.size W w' := by
  have HQ := Lib.hid (show lineQ 3 v w n = (inR 0 3 v && inR 0 3 w && inR 0 0 n && !(true && v == w)) from rfl)
  have HB0 := hide (show Below W.heap.size W (W.alloc (.cells #[.int .i64 3, .int .i64 v, .int .i64 w, .int .i64 n] 32)) by go_grown)
  cases hv : inR 0 3 v
  · have HV := Lib.hid hv
    clear hv
    go_enter Try.func12, Try.ntmps12
    go_wp2_with fail
    refine (l1In_b false v 0 3 HV.out _).mono ?_
    rintro e w' ⟨rfl, rfl⟩
    go_wp2_with fail
    go_ret
    exact ⟨by rw [HQ.out, HV.out]; rfl, HB0.out⟩
  · have HV := Lib.hid hv
    clear hv
    cases hw : inR 0 3 w
    · have HW := Lib.hid hw
      clear hw
      go_enter Try.func12, Try.ntmps12
      go_wp2_with fail
      refine (l1In_b true v 0 3 HV.out _).mono ?_
      rintro e w' ⟨rfl, rfl⟩
      go_wp2_with fail
      refine (l1In_b false w 0 3 HW.out _).mono ?_
      rintro e w' ⟨rfl, rfl⟩
      go_wp2_with fail
      go_ret
      exact ⟨by rw [HQ.out, HV.out, HW.out]; rfl, HB0.out⟩
    · have HW := Lib.hid hw
      clear hw
      cases he : v == w
      · have HE := Lib.hid he
        have e2 : (v != w) = true := by rw [bne, he]; rfl
        cases hn : n == 0
        · have HN := Lib.hid hn
          go_enter Try.func12, Try.ntmps12
          go_wp2_with fail
          refine (l1In_b true v 0 3 HV.out _).mono ?_
          rintro e w' ⟨rfl, rfl⟩
          go_wp2_with fail
          refine (l1In_b true w 0 3 HW.out _).mono ?_
          rintro e w' ⟨rfl, rfl⟩
          go_wp2_with fail
          go_ret
          exact ⟨by rw [HQ.out, HV.out, HW.out, inR_zero, HN.out, HE.out]; rfl, HB0.out⟩
        · have HN := Lib.hid hn
          go_enter Try.func12, Try.ntmps12
          go_wp2_with fail
          refine (l1In_b true v 0 3 HV.out _).mono ?_
          rintro e w' ⟨rfl, rfl⟩
          go_wp2_with fail
          refine (l1In_b true w 0 3 HW.out _).mono ?_
          rintro e w' ⟨rfl, rfl⟩
          go_wp2_with fail
          go_ret
          exact ⟨by rw [HQ.out, HV.out, HW.out, inR_zero, HN.out, HE.out]; rfl, HB0.out⟩
      · have HE := Lib.hid he
        have e2 : (v != w) = false := by rw [bne, he]; rfl
        go_enter Try.func12, Try.ntmps12
        go_wp2_with fail
        refine (l1In_b true v 0 3 HV.out _).mono ?_
        rintro e w' ⟨rfl, rfl⟩
        go_wp2_with fail
        refine (l1In_b true w 0 3 HW.out _).mono ?_
        rintro e w' ⟨rfl, rfl⟩
        go_wp2_with fail
        go_ret
        exact ⟨by rw [HQ.out, HE.out]; simp, HB0.out⟩
set_option maxHeartbeats 4000000 in
theorem sLineValid_4 (v w n : Int) (W : World) :
    Calls Try.prog 12 #[.agg #[.int .i64 4, .int .i64 v, .int .i64 w, .int .i64 n]] W fun e w' => e = .returned (.bool (lineQ 4 v w n)) ∧ Below W.heap.size W w' := by
  have HQ := Lib.hid (show lineQ 4 v w n = (inR 0 0 v && inR 0 0 w && inR 0 3 n && !(false && v == w)) from rfl)
  have HB0 := hide (show Below W.heap.size W (W.alloc (.cells #[.int .i64 4, .int .i64 v, .int .i64 w, .int .i64 n] 32)) by go_grown)
  obtain ⟨bv, hbv⟩ : ∃ bv, inR 0 3 v = bv := ⟨_, rfl⟩
  have HBV := Lib.hid hbv
  clear hbv
  cases hv : v == 0
  · have HV := Lib.hid hv
    go_enter Try.func12, Try.ntmps12
    go_wp2_with fail
    refine (l1In_b bv v 0 3 HBV.out _).mono ?_
    rintro e w' ⟨rfl, rfl⟩
    go_wp2_with fail
    go_ret
    exact ⟨by rw [HQ.out, inR_zero, HV.out]; rfl, HB0.out⟩
  · have HV := Lib.hid hv
    cases hw : w == 0
    · have HW := Lib.hid hw
      go_enter Try.func12, Try.ntmps12
      go_wp2_with fail
      refine (l1In_b bv v 0 3 HBV.out _).mono ?_
      rintro e w' ⟨rfl, rfl⟩
      go_wp2_with fail
      go_ret
      exact ⟨by rw [HQ.out, inR_zero, HV.out, inR_zero, HW.out]; rfl, HB0.out⟩
    · have HW := Lib.hid hw
      cases hn : inR 0 3 n
      · have HN := Lib.hid hn
        clear hn
        go_enter Try.func12, Try.ntmps12
        go_wp2_with fail
        refine (l1In_b bv v 0 3 HBV.out _).mono ?_
        rintro e w' ⟨rfl, rfl⟩
        go_wp2_with fail
        refine (l1In_b false n 0 3 HN.out _).mono ?_
        rintro e w' ⟨rfl, rfl⟩
        go_wp2_with fail
        go_ret
        exact ⟨by rw [HQ.out, inR_zero, HV.out, inR_zero, HW.out, HN.out]; rfl, HB0.out⟩
      · have HN := Lib.hid hn
        clear hn
        go_enter Try.func12, Try.ntmps12
        go_wp2_with fail
        refine (l1In_b bv v 0 3 HBV.out _).mono ?_
        rintro e w' ⟨rfl, rfl⟩
        go_wp2_with fail
        refine (l1In_b true n 0 3 HN.out _).mono ?_
        rintro e w' ⟨rfl, rfl⟩
        go_wp2_with fail
        go_ret
        exact ⟨by rw [HQ.out, inR_zero, HV.out, inR_zero, HW.out, HN.out]; rfl, HB0.out⟩
set_option maxHeartbeats 4000000 in
theorem sLineValid_5 (v w n : Int) (W : World) :
    Calls Try.prog 12 #[.agg #[.int .i64 5, .int .i64 v, .int .i64 w, .int .i64 n]] W fun e w' => e = .returned (.bool (lineQ 5 v w n)) ∧ Below W.heap.size W w' := by
  have HQ := Lib.hid (show lineQ 5 v w n = (inR 0 0 v && inR 0 0 w && inR 0 0 n && !(false && v == w)) from rfl)
  have HB0 := hide (show Below W.heap.size W (W.alloc (.cells #[.int .i64 5, .int .i64 v, .int .i64 w, .int .i64 n] 32)) by go_grown)
  obtain ⟨bv, hbv⟩ : ∃ bv, inR 0 3 v = bv := ⟨_, rfl⟩
  have HBV := Lib.hid hbv
  clear hbv
  by_cases h : v = 0 ∧ w = 0 ∧ n = 0
  · obtain ⟨rfl, rfl, rfl⟩ := h
    go_enter Try.func12, Try.ntmps12
    go_wp2_with fail
    refine (l1In_b bv 0 0 3 HBV.out _).mono ?_
    rintro e w' ⟨rfl, rfl⟩
    go_wp2_with fail
    go_ret
    exact ⟨by rw [HQ.out]; rfl, HB0.out⟩
  · have HN := Lib.hid (show lineQ 5 v w n = false by rw [HQ.out, inR_zero, inR_zero, inR_zero]; simp; intro a b c; exact h ⟨a, b, c⟩)
    have HH := Lib.hid h
    clear h
    go_enter Try.func12, Try.ntmps12
    go_wp2_with fail
    refine (l1In_b bv v 0 3 HBV.out _).mono ?_
    rintro e w' ⟨rfl, rfl⟩
    go_wp2_with fail
    all_goals go_ret
    all_goals first
      | exact absurd ⟨by assumption, by assumption, by assumption⟩ HH.out
      | exact ⟨by rw [HN.out]; rfl, by go_grown⟩
set_option maxHeartbeats 4000000 in
theorem sLineValid_6 (v w n : Int) (W : World) :
    Calls Try.prog 12 #[.agg #[.int .i64 6, .int .i64 v, .int .i64 w, .int .i64 n]] W fun e w' => e = .returned (.bool (lineQ 6 v w n)) ∧ Below W.heap.size W w' := by
  have HQ := Lib.hid (show lineQ 6 v w n = (inR 0 3 v && inR 0 0 w && inR 0 63 n && !(false && v == w)) from rfl)
  have HB0 := hide (show Below W.heap.size W (W.alloc (.cells #[.int .i64 6, .int .i64 v, .int .i64 w, .int .i64 n] 32)) by go_grown)
  cases hv : inR 0 3 v
  · have HV := Lib.hid hv
    clear hv
    go_enter Try.func12, Try.ntmps12
    go_wp2_with fail
    refine (l1In_b false v 0 3 HV.out _).mono ?_
    rintro e w' ⟨rfl, rfl⟩
    go_wp2_with fail
    go_ret
    exact ⟨by rw [HQ.out, HV.out]; rfl, HB0.out⟩
  · have HV := Lib.hid hv
    clear hv
    cases hw : w == 0
    · have HW := Lib.hid hw
      go_enter Try.func12, Try.ntmps12
      go_wp2_with fail
      refine (l1In_b true v 0 3 HV.out _).mono ?_
      rintro e w' ⟨rfl, rfl⟩
      go_wp2_with fail
      go_ret
      exact ⟨by rw [HQ.out, HV.out, inR_zero, HW.out]; rfl, HB0.out⟩
    · have HW := Lib.hid hw
      cases hn : inR 0 63 n
      · have HN := Lib.hid hn
        clear hn
        go_enter Try.func12, Try.ntmps12
        go_wp2_with fail
        refine (l1In_b true v 0 3 HV.out _).mono ?_
        rintro e w' ⟨rfl, rfl⟩
        go_wp2_with fail
        refine (l1In_b false n 0 63 HN.out _).mono ?_
        rintro e w' ⟨rfl, rfl⟩
        go_wp2_with fail
        go_ret
        exact ⟨by rw [HQ.out, HV.out, inR_zero, HW.out, HN.out]; rfl, HB0.out⟩
      · have HN := Lib.hid hn
        clear hn
        go_enter Try.func12, Try.ntmps12
        go_wp2_with fail
        refine (l1In_b true v 0 3 HV.out _).mono ?_
        rintro e w' ⟨rfl, rfl⟩
        go_wp2_with fail
        refine (l1In_b true n 0 63 HN.out _).mono ?_
        rintro e w' ⟨rfl, rfl⟩
        go_wp2_with fail
        go_ret
        exact ⟨by rw [HQ.out, HV.out, inR_zero, HW.out, HN.out]; rfl, HB0.out⟩
set_option maxHeartbeats 4000000 in
theorem sLineValid_7 (v w n : Int) (W : World) :
    Calls Try.prog 12 #[.agg #[.int .i64 7, .int .i64 v, .int .i64 w, .int .i64 n]] W fun e w' => e = .returned (.bool (lineQ 7 v w n)) ∧ Below W.heap.size W w' := by
  have HQ := Lib.hid (show lineQ 7 v w n = (inR 0 0 v && inR 0 0 w && inR 0 0 n && !(false && v == w)) from rfl)
  have HB0 := hide (show Below W.heap.size W (W.alloc (.cells #[.int .i64 7, .int .i64 v, .int .i64 w, .int .i64 n] 32)) by go_grown)
  obtain ⟨bv, hbv⟩ : ∃ bv, inR 0 3 v = bv := ⟨_, rfl⟩
  have HBV := Lib.hid hbv
  clear hbv
  by_cases h : v = 0 ∧ w = 0 ∧ n = 0
  · obtain ⟨rfl, rfl, rfl⟩ := h
    go_enter Try.func12, Try.ntmps12
    go_wp2_with fail
    refine (l1In_b bv 0 0 3 HBV.out _).mono ?_
    rintro e w' ⟨rfl, rfl⟩
    go_wp2_with fail
    go_ret
    exact ⟨by rw [HQ.out]; rfl, HB0.out⟩
  · have HN := Lib.hid (show lineQ 7 v w n = false by rw [HQ.out, inR_zero, inR_zero, inR_zero]; simp; intro a b c; exact h ⟨a, b, c⟩)
    have HH := Lib.hid h
    clear h
    go_enter Try.func12, Try.ntmps12
    go_wp2_with fail
    refine (l1In_b bv v 0 3 HBV.out _).mono ?_
    rintro e w' ⟨rfl, rfl⟩
    go_wp2_with fail
    all_goals go_ret
    all_goals first
      | exact absurd ⟨by assumption, by assumption, by assumption⟩ HH.out
      | exact ⟨by rw [HN.out]; rfl, by go_grown⟩
set_option maxHeartbeats 4000000 in
theorem sLineValid_8 (v w n : Int) (W : World) :
    Calls Try.prog 12 #[.agg #[.int .i64 8, .int .i64 v, .int .i64 w, .int .i64 n]] W fun e w' => e = .returned (.bool (lineQ 8 v w n)) ∧ Below W.heap.size W w' := by
  have HQ := Lib.hid (show lineQ 8 v w n = (inR 0 3 v && inR 0 0 w && inR 0 63 n && !(false && v == w)) from rfl)
  have HB0 := hide (show Below W.heap.size W (W.alloc (.cells #[.int .i64 8, .int .i64 v, .int .i64 w, .int .i64 n] 32)) by go_grown)
  cases hv : inR 0 3 v
  · have HV := Lib.hid hv
    clear hv
    go_enter Try.func12, Try.ntmps12
    go_wp2_with fail
    refine (l1In_b false v 0 3 HV.out _).mono ?_
    rintro e w' ⟨rfl, rfl⟩
    go_wp2_with fail
    go_ret
    exact ⟨by rw [HQ.out, HV.out]; rfl, HB0.out⟩
  · have HV := Lib.hid hv
    clear hv
    cases hw : w == 0
    · have HW := Lib.hid hw
      go_enter Try.func12, Try.ntmps12
      go_wp2_with fail
      refine (l1In_b true v 0 3 HV.out _).mono ?_
      rintro e w' ⟨rfl, rfl⟩
      go_wp2_with fail
      go_ret
      exact ⟨by rw [HQ.out, HV.out, inR_zero, HW.out]; rfl, HB0.out⟩
    · have HW := Lib.hid hw
      cases hn : inR 0 63 n
      · have HN := Lib.hid hn
        clear hn
        go_enter Try.func12, Try.ntmps12
        go_wp2_with fail
        refine (l1In_b true v 0 3 HV.out _).mono ?_
        rintro e w' ⟨rfl, rfl⟩
        go_wp2_with fail
        refine (l1In_b false n 0 63 HN.out _).mono ?_
        rintro e w' ⟨rfl, rfl⟩
        go_wp2_with fail
        go_ret
        exact ⟨by rw [HQ.out, HV.out, inR_zero, HW.out, HN.out]; rfl, HB0.out⟩
      · have HN := Lib.hid hn
        clear hn
        go_enter Try.func12, Try.ntmps12
        go_wp2_with fail
        refine (l1In_b true v 0 3 HV.out _).mono ?_
        rintro e w' ⟨rfl, rfl⟩
        go_wp2_with fail
        refine (l1In_b true n 0 63 HN.out _).mono ?_
        rintro e w' ⟨rfl, rfl⟩
        go_wp2_with fail
        go_ret
        exact ⟨by rw [HQ.out, HV.out, inR_zero, HW.out, HN.out]; rfl, HB0.out⟩
set_option maxHeartbeats 4000000 in
theorem sLineValid_any (k v w n : Int) (W : World) :
    Calls Try.prog 12 #[.agg #[.int .i64 k, .int .i64 v, .int .i64 w, .int .i64 n]] W fun e w' => e = .returned (.bool (lineQ k v w n)) ∧ Below W.heap.size W w' := by
  cases hk : inR 0 8 k
  · have HQ := Lib.hid (show lineQ k v w n = false by simp [lineQ, hk])
    simp [inR] at hk
    have k0 : (k == 0) = false := by simp; omega
    have k1 : (k == 1) = false := by simp; omega
    have k2 : (k == 2) = false := by simp; omega
    have k3 : (k == 3) = false := by simp; omega
    have k4 : (k == 4) = false := by simp; omega
    have k5 : (k == 5) = false := by simp; omega
    have k6 : (k == 6) = false := by simp; omega
    have k7 : (k == 7) = false := by simp; omega
    have k8 : (k == 8) = false := by simp; omega
    clear hk
    go_enter Try.func12, Try.ntmps12
    go_wp2_with fail
    refine (l1In_any _ _ _ _).mono ?_
    rintro e w' ⟨rfl, rfl⟩
    go_wp2_with fail
    go_ret
    exact ⟨by rw [HQ.out]; rfl, by go_grown⟩
  · rcases kind9 hk with rfl | rfl | rfl | rfl | rfl | rfl | rfl | rfl | rfl
    · exact sLineValid_0 v w n W
    · exact sLineValid_1 v w n W
    · exact sLineValid_2 v w n W
    · exact sLineValid_3 v w n W
    · exact sLineValid_4 v w n W
    · exact sLineValid_5 v w n W
    · exact sLineValid_6 v w n W
    · exact sLineValid_7 v w n W
    · exact sLineValid_8 v w n W
theorem sLineValid_b (b : Bool) (k v w n : Int) (h : lineQ k v w n = b) (W : World) :
    Calls Try.prog 12 #[.agg #[.int .i64 k, .int .i64 v, .int .i64 w, .int .i64 n]] W fun e w' => e = .returned (.bool b) ∧ Below W.heap.size W w' := by subst h; exact sLineValid_any k v w n W
end Go.Proofs.Ytacdagdhkmcbiaa
