/-
  Which statements are valid, by the program: three kinds of nine.
  No condition.
-/
import Derived.Test.YtacdagdhkmcbiaaLinesH
namespace Go.Proofs.Ytacdagdhkmcbiaa
open Go.RowKit Go.Sort base
set_option maxHeartbeats 4000000 in
theorem lineValid_0 (v w n : Int) (W : World) :
    Calls Try.prog 23 #[.agg #[.int .i64 0, .int .i64 v, .int .i64 w, .int .i64 n]] W fun e w' => e = .returned (.bool (lineQ 0 v w n)) ∧ Below W.heap.size W w' := by
  have i0 := shape_at 0 (by decide)
  have HQ := Lib.hid (show lineQ 0 v w n = (inR 0 3 v && inR 0 3 w && inR 0 0 n && !(true && v == w)) from rfl)
  go_enter Try.func23, Try.ntmps23
  go_wp2_with fail
  refine (within_b true _ _ _ (by decide) _).mono ?_
  rintro e w' ⟨rfl, rfl⟩
  go_upto_region 3 with fail
  go_cut [3] from 8 to 11 (fun p wx => ∃ g : Nat, p = .pointer (some ⟨g, 0, none⟩) ∧ Hid (Box4 wx W.heap.size 0 v w n) ∧ Hid (ShapeBox wx g 0) ∧ Hid (Below W.heap.size W wx))
  case first =>
    go_region_with (go_at_call 33; refine (shapes_any _).mono ?_; rintro e w' ⟨rfl, rfl⟩)
    all_goals (go_wp2_with fail; go_meet)
    all_goals first
      | exact laidA W 0 v w n
      | exact laidB W 0 v w n
  case rest =>
  obtain ⟨g, rfl, HX, HS, HB3⟩ := hcut
  clear i0
  obtain ⟨c0, c1, c2, c3⟩ := HX.out
  obtain ⟨s0, s1, s2, s3, s4⟩ : _ = some (Value.string ⟨sName 0⟩) ∧ _ = some (Value.bool true) ∧ _ = some (Value.bool true) ∧ _ = some (Value.bool false) ∧ _ = some (Value.int .i64 0) := HS.out
  go_wp2_with fail
  cases hv : inR 0 3 v
  · have HV := Lib.hid hv
    clear hv
    go_quiet ((first | (go_at_call 31; with_reducible exact quiet_eq (within_r false v 0 3 HV.out _)) | (go_at_call 34; with_reducible exact quiet_eq (top_t _ _)) | (go_at_call 34; with_reducible exact quiet_eq (top_f _ _))))
    go_wp2_with fail
    go_ret
    exact ⟨by rw [HQ.out, HV.out]; rfl, below_drewN HB3.out _⟩
  · have HV := Lib.hid hv
    clear hv
    cases hw : inR 0 3 w
    · have HW := Lib.hid hw
      clear hw
      go_quiet ((first | (go_at_call 31; with_reducible exact quiet_eq (within_r true v 0 3 HV.out _)) | (go_at_call 31; with_reducible exact quiet_eq (within_r false w 0 3 HW.out _)) | (go_at_call 34; with_reducible exact quiet_eq (top_t _ _)) | (go_at_call 34; with_reducible exact quiet_eq (top_f _ _))))
      go_wp2_with fail
      go_ret
      exact ⟨by rw [HQ.out, HV.out, HW.out]; rfl, below_drewN HB3.out _⟩
    · have HW := Lib.hid hw
      clear hw
      cases hn : inR 0 0 n
      · have HN := Lib.hid hn
        clear hn
        go_quiet ((first | (go_at_call 31; with_reducible exact quiet_eq (within_r true v 0 3 HV.out _)) | (go_at_call 31; with_reducible exact quiet_eq (within_r true w 0 3 HW.out _)) | (go_at_call 31; with_reducible exact quiet_eq (within_r false n 0 0 HN.out _)) | (go_at_call 34; with_reducible exact quiet_eq (top_t _ _)) | (go_at_call 34; with_reducible exact quiet_eq (top_f _ _))))
        go_wp2_with fail
        go_ret
        exact ⟨by rw [HQ.out, HV.out, HW.out, HN.out]; rfl, below_drewN HB3.out _⟩
      · have HN := Lib.hid hn
        clear hn
        cases he : v == w
        · have HE := Lib.hid he
          go_quiet ((first | (go_at_call 31; with_reducible exact quiet_eq (within_r true v 0 3 HV.out _)) | (go_at_call 31; with_reducible exact quiet_eq (within_r true w 0 3 HW.out _)) | (go_at_call 31; with_reducible exact quiet_eq (within_r true n 0 0 HN.out _)) | (go_at_call 34; with_reducible exact quiet_eq (top_t _ _)) | (go_at_call 34; with_reducible exact quiet_eq (top_f _ _))))
          go_wp2_with fail
          go_ret
          exact ⟨by rw [HQ.out, HV.out, HW.out, HN.out, HE.out]; rfl, below_drewN HB3.out _⟩
        · have HE := Lib.hid he
          go_quiet ((first | (go_at_call 31; with_reducible exact quiet_eq (within_r true v 0 3 HV.out _)) | (go_at_call 31; with_reducible exact quiet_eq (within_r true w 0 3 HW.out _)) | (go_at_call 31; with_reducible exact quiet_eq (within_r true n 0 0 HN.out _)) | (go_at_call 34; with_reducible exact quiet_eq (top_t _ _)) | (go_at_call 34; with_reducible exact quiet_eq (top_f _ _))))
          go_wp2_with fail
          go_ret
          exact ⟨by rw [HQ.out, HV.out, HW.out, HN.out, HE.out]; rfl, below_drewN HB3.out _⟩
set_option maxHeartbeats 4000000 in
theorem lineValid_1 (v w n : Int) (W : World) :
    Calls Try.prog 23 #[.agg #[.int .i64 1, .int .i64 v, .int .i64 w, .int .i64 n]] W fun e w' => e = .returned (.bool (lineQ 1 v w n)) ∧ Below W.heap.size W w' := by
  have i0 := shape_at 1 (by decide)
  have HQ := Lib.hid (show lineQ 1 v w n = (inR 0 3 v && inR 0 3 w && inR 0 0 n && !(true && v == w)) from rfl)
  go_enter Try.func23, Try.ntmps23
  go_wp2_with fail
  refine (within_b true _ _ _ (by decide) _).mono ?_
  rintro e w' ⟨rfl, rfl⟩
  go_upto_region 3 with fail
  go_cut [3] from 8 to 11 (fun p wx => ∃ g : Nat, p = .pointer (some ⟨g, 0, none⟩) ∧ Hid (Box4 wx W.heap.size 1 v w n) ∧ Hid (ShapeBox wx g 1) ∧ Hid (Below W.heap.size W wx))
  case first =>
    go_region_with (go_at_call 33; refine (shapes_any _).mono ?_; rintro e w' ⟨rfl, rfl⟩)
    all_goals (go_wp2_with fail; go_meet)
    all_goals first
      | exact laidA W 1 v w n
      | exact laidB W 1 v w n
  case rest =>
  obtain ⟨g, rfl, HX, HS, HB3⟩ := hcut
  clear i0
  obtain ⟨c0, c1, c2, c3⟩ := HX.out
  obtain ⟨s0, s1, s2, s3, s4⟩ : _ = some (Value.string ⟨sName 1⟩) ∧ _ = some (Value.bool true) ∧ _ = some (Value.bool true) ∧ _ = some (Value.bool false) ∧ _ = some (Value.int .i64 0) := HS.out
  go_wp2_with fail
  cases hv : inR 0 3 v
  · have HV := Lib.hid hv
    clear hv
    go_quiet ((first | (go_at_call 31; with_reducible exact quiet_eq (within_r false v 0 3 HV.out _)) | (go_at_call 34; with_reducible exact quiet_eq (top_t _ _)) | (go_at_call 34; with_reducible exact quiet_eq (top_f _ _))))
    go_wp2_with fail
    go_ret
    exact ⟨by rw [HQ.out, HV.out]; rfl, below_drewN HB3.out _⟩
  · have HV := Lib.hid hv
    clear hv
    cases hw : inR 0 3 w
    · have HW := Lib.hid hw
      clear hw
      go_quiet ((first | (go_at_call 31; with_reducible exact quiet_eq (within_r true v 0 3 HV.out _)) | (go_at_call 31; with_reducible exact quiet_eq (within_r false w 0 3 HW.out _)) | (go_at_call 34; with_reducible exact quiet_eq (top_t _ _)) | (go_at_call 34; with_reducible exact quiet_eq (top_f _ _))))
      go_wp2_with fail
      go_ret
      exact ⟨by rw [HQ.out, HV.out, HW.out]; rfl, below_drewN HB3.out _⟩
    · have HW := Lib.hid hw
      clear hw
      cases hn : inR 0 0 n
      · have HN := Lib.hid hn
        clear hn
        go_quiet ((first | (go_at_call 31; with_reducible exact quiet_eq (within_r true v 0 3 HV.out _)) | (go_at_call 31; with_reducible exact quiet_eq (within_r true w 0 3 HW.out _)) | (go_at_call 31; with_reducible exact quiet_eq (within_r false n 0 0 HN.out _)) | (go_at_call 34; with_reducible exact quiet_eq (top_t _ _)) | (go_at_call 34; with_reducible exact quiet_eq (top_f _ _))))
        go_wp2_with fail
        go_ret
        exact ⟨by rw [HQ.out, HV.out, HW.out, HN.out]; rfl, below_drewN HB3.out _⟩
      · have HN := Lib.hid hn
        clear hn
        cases he : v == w
        · have HE := Lib.hid he
          go_quiet ((first | (go_at_call 31; with_reducible exact quiet_eq (within_r true v 0 3 HV.out _)) | (go_at_call 31; with_reducible exact quiet_eq (within_r true w 0 3 HW.out _)) | (go_at_call 31; with_reducible exact quiet_eq (within_r true n 0 0 HN.out _)) | (go_at_call 34; with_reducible exact quiet_eq (top_t _ _)) | (go_at_call 34; with_reducible exact quiet_eq (top_f _ _))))
          go_wp2_with fail
          go_ret
          exact ⟨by rw [HQ.out, HV.out, HW.out, HN.out, HE.out]; rfl, below_drewN HB3.out _⟩
        · have HE := Lib.hid he
          go_quiet ((first | (go_at_call 31; with_reducible exact quiet_eq (within_r true v 0 3 HV.out _)) | (go_at_call 31; with_reducible exact quiet_eq (within_r true w 0 3 HW.out _)) | (go_at_call 31; with_reducible exact quiet_eq (within_r true n 0 0 HN.out _)) | (go_at_call 34; with_reducible exact quiet_eq (top_t _ _)) | (go_at_call 34; with_reducible exact quiet_eq (top_f _ _))))
          go_wp2_with fail
          go_ret
          exact ⟨by rw [HQ.out, HV.out, HW.out, HN.out, HE.out]; rfl, below_drewN HB3.out _⟩
set_option maxHeartbeats 4000000 in
theorem lineValid_2 (v w n : Int) (W : World) :
    Calls Try.prog 23 #[.agg #[.int .i64 2, .int .i64 v, .int .i64 w, .int .i64 n]] W fun e w' => e = .returned (.bool (lineQ 2 v w n)) ∧ Below W.heap.size W w' := by
  have i0 := shape_at 2 (by decide)
  have HQ := Lib.hid (show lineQ 2 v w n = (inR 0 3 v && inR 0 0 w && inR 0 63 n && !(false && v == w)) from rfl)
  go_enter Try.func23, Try.ntmps23
  go_wp2_with fail
  refine (within_b true _ _ _ (by decide) _).mono ?_
  rintro e w' ⟨rfl, rfl⟩
  go_upto_region 3 with fail
  go_cut [3] from 8 to 11 (fun p wx => ∃ g : Nat, p = .pointer (some ⟨g, 0, none⟩) ∧ Hid (Box4 wx W.heap.size 2 v w n) ∧ Hid (ShapeBox wx g 2) ∧ Hid (Below W.heap.size W wx))
  case first =>
    go_region_with (go_at_call 33; refine (shapes_any _).mono ?_; rintro e w' ⟨rfl, rfl⟩)
    all_goals (go_wp2_with fail; go_meet)
    all_goals first
      | exact laidA W 2 v w n
      | exact laidB W 2 v w n
  case rest =>
  obtain ⟨g, rfl, HX, HS, HB3⟩ := hcut
  clear i0
  obtain ⟨c0, c1, c2, c3⟩ := HX.out
  obtain ⟨s0, s1, s2, s3, s4⟩ : _ = some (Value.string ⟨sName 2⟩) ∧ _ = some (Value.bool true) ∧ _ = some (Value.bool false) ∧ _ = some (Value.bool true) ∧ _ = some (Value.int .i64 63) := HS.out
  go_wp2_with fail
  cases hv : inR 0 3 v
  · have HV := Lib.hid hv
    clear hv
    go_quiet ((first | (go_at_call 31; with_reducible exact quiet_eq (within_r false v 0 3 HV.out _)) | (go_at_call 34; with_reducible exact quiet_eq (top_t _ _)) | (go_at_call 34; with_reducible exact quiet_eq (top_f _ _))))
    go_wp2_with fail
    go_ret
    exact ⟨by rw [HQ.out, HV.out]; rfl, below_drewN HB3.out _⟩
  · have HV := Lib.hid hv
    clear hv
    cases hw : inR 0 0 w
    · have HW := Lib.hid hw
      clear hw
      go_quiet ((first | (go_at_call 31; with_reducible exact quiet_eq (within_r true v 0 3 HV.out _)) | (go_at_call 31; with_reducible exact quiet_eq (within_r false w 0 0 HW.out _)) | (go_at_call 34; with_reducible exact quiet_eq (top_t _ _)) | (go_at_call 34; with_reducible exact quiet_eq (top_f _ _))))
      go_wp2_with fail
      go_ret
      exact ⟨by rw [HQ.out, HV.out, HW.out]; rfl, below_drewN HB3.out _⟩
    · have HW := Lib.hid hw
      clear hw
      cases hn : inR 0 63 n
      · have HN := Lib.hid hn
        clear hn
        go_quiet ((first | (go_at_call 31; with_reducible exact quiet_eq (within_r true v 0 3 HV.out _)) | (go_at_call 31; with_reducible exact quiet_eq (within_r true w 0 0 HW.out _)) | (go_at_call 31; with_reducible exact quiet_eq (within_r false n 0 63 HN.out _)) | (go_at_call 34; with_reducible exact quiet_eq (top_t _ _)) | (go_at_call 34; with_reducible exact quiet_eq (top_f _ _))))
        go_wp2_with fail
        go_ret
        exact ⟨by rw [HQ.out, HV.out, HW.out, HN.out]; rfl, below_drewN HB3.out _⟩
      · have HN := Lib.hid hn
        clear hn
        go_quiet ((first | (go_at_call 31; with_reducible exact quiet_eq (within_r true v 0 3 HV.out _)) | (go_at_call 31; with_reducible exact quiet_eq (within_r true w 0 0 HW.out _)) | (go_at_call 31; with_reducible exact quiet_eq (within_r true n 0 63 HN.out _)) | (go_at_call 34; with_reducible exact quiet_eq (top_t _ _)) | (go_at_call 34; with_reducible exact quiet_eq (top_f _ _))))
        go_wp2_with fail
        go_ret
        exact ⟨by rw [HQ.out, HV.out, HW.out, HN.out]; rfl, below_drewN HB3.out _⟩
end Go.Proofs.Ytacdagdhkmcbiaa
