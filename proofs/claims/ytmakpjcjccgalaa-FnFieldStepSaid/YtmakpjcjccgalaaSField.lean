/-
  FieldStep and FieldBack of the reference; BallsMany of the reference.
  No condition.
-/
import Derived.Test.YtmakpjcjccgalaaSStep
namespace Go.Proofs.Ytmakpjcjccgalaa
open Go.RowKit Go.Sort base
theorem resSS : Try.f26.results = #[.cell 2 25] := by kernel_rfl
set_option maxHeartbeats 4000000 in
theorem sSteps_no (s : Int) (A : Option Addr) (n c : Nat) (sh : Bool) (bs : List Bool) (w : World) (hb : BR w A n bs) (hn : n ≤ 1048576) (hs : (Lit.int .i64 s).wf = true) (hv : fldOk s bs = false) :
    Calls Try.prog 26 #[.agg #[.int .i64 s, .slice A n c, .bool sh]] w (NoField w) := by
  have HV := Lib.hid hv
  have T0 := hide (TB.start (s := s) (c := c) (sh := sh) hb)
  have HS := Lib.hid hs
  clear hb hv hs
  go_enter Try.func26, Try.ntmps26
  go_wp2_with fail
  refine calls_named fun W hW => ?_
  rw [hW] at T0
  clear hW
  refine (sFieldValid_any s A n c sh bs W T0.out.br hn HS.out).mono ?_
  rintro e w2 ⟨rfl, hb2⟩
  rw [HV.out]
  have T2 := hide (T0.out.below hb2)
  obtain ⟨⟨r0, r1, r2⟩, q0, q1, q2⟩ := T2.out.cells
  clear hb2 T0
  go_wp2_with fail
  exact bodyPost_ret (results_cell_row resSS _ _ (w.heap.size + 1) 25 #[.int .i64 0, .slice none 0 0, .bool false] (0, 0) _ rfl (box3_set T2.out.rb _ _ _) Try.underlying25 rfl infoF) rfl ⟨rfl, T2.out.low3 _ _ _⟩
set_option maxHeartbeats 4000000 in
theorem sSteps_ok (s h : Nat) (A : Option Addr) (n c : Nat) (sh : Bool) (bs : List Bool) (w : World) (hs : sOk s h) (hh : h = if sh then 1 else 0) (hn : n = s * s) (hb : BR w A n bs) (hv : fldOk s bs = true) :
    Calls Try.prog 26 #[.agg #[.int .i64 s, .slice A n c, .bool sh]] w (RField w s (!sh) (stepB s h bs)) := by
  have HV := Lib.hid hv
  have hn64 : n ≤ 64 := by obtain ⟨h | h | h | h, _⟩ := hs <;> (subst h; omega)
  have hwf : (Lit.int .i64 (s : Int)).wf = true := by obtain ⟨h | h | h | h, _⟩ := hs <;> (subst h; rfl)
  have T0 := hide (TB.start (s := s) (c := c) (sh := sh) hb)
  have HS := Lib.hid hs
  have HN := Lib.hid hn
  have HW := Lib.hid hwf
  clear hb hv hs hn hwf
  cases sh
  · obtain rfl : h = 0 := hh
    go_enter Try.func26, Try.ntmps26
    go_wp2_with fail
    refine calls_named fun W hW => ?_
    rw [hW] at T0
    clear hW
    refine (sFieldValid_any s A n c false bs W T0.out.br (by omega) HW.out).mono ?_
    rintro e w2 ⟨rfl, hb2⟩
    rw [HV.out]
    have T2 := hide (T0.out.below hb2)
    obtain ⟨f0, f1, f2, _, _, _, hsz⟩ := T2.out
    clear hb2 T0
    go_wp2_with fail
    refine (l6Step_any s 0 A n c false bs w2 HS.out HN.out T2.out.br).mono ?_
    rintro e w3 ⟨g, m, k, rfl, ho, hb3⟩
    have T3 := hide (T2.out.below hb3)
    have HO := hide ho
    obtain ⟨⟨r0, r1, r2⟩, q0, q1, q2⟩ := T3.out.cells
    obtain ⟨g0, g1, g2, _, _, _, hsz3⟩ := T3.out
    have hs3 : w.heap.size < w3.heap.size := by omega
    have hs4 : w.heap.size + 1 < w3.heap.size := by omega
    clear ho hb3 f0 f1 f2
    go_wp2_with fail
    have hg := box3_grown w3 (w.heap.size + 1) (.int .i64 s) (.slice (some ⟨g, 0, none⟩) m k) (.bool true)
    have hb := (box3_set T3.out.rb (.int .i64 s) (.slice (some ⟨g, 0, none⟩) m k) (.bool true))
    have hlow := T3.out.low3 (.int .i64 s) (.slice (some ⟨g, 0, none⟩) m k) (.bool true)
    have hbz := hg.size
    generalize (((w3.setCell ⟨w.heap.size + 1, 0, none⟩ (.int .i64 s)).setCell ⟨w.heap.size + 1, 1, none⟩ (.slice (some ⟨g, 0, none⟩) m k)).setCell ⟨w.heap.size + 1, 2, none⟩ (.bool true)) = w4 at *
    have h4 := (Below.refl w4.heap.size w4).alloc (Nat.le_refl _) (.cells #[.int .i64 s, .slice (some ⟨g, 0, none⟩) m k, .bool true] 25)
    refine bodyPost_ret (results_cell_row resSS _ _ (w.heap.size + 1) 25 #[.int .i64 s, .slice (some ⟨g, 0, none⟩) m k, .bool true] (0, 0) _ rfl ((h4.block _ (by omega)).trans hb) Try.underlying25 rfl infoF) rfl ⟨g, m, k, rfl, ?_, ?_⟩
    · refine (((HO.out.kept hg (.inr fun e => ?_)).below h4).base_le (by omega))
      have := (HO.out.lt g rfl).1
      simp [Value.ownBlock] at e
      omega
    · exact hlow.trans (h4.mono (by omega))
  · obtain rfl : h = 1 := hh
    go_enter Try.func26, Try.ntmps26
    go_wp2_with fail
    refine calls_named fun W hW => ?_
    rw [hW] at T0
    clear hW
    refine (sFieldValid_any s A n c true bs W T0.out.br (by omega) HW.out).mono ?_
    rintro e w2 ⟨rfl, hb2⟩
    rw [HV.out]
    have T2 := hide (T0.out.below hb2)
    obtain ⟨f0, f1, f2, _, _, _, hsz⟩ := T2.out
    clear hb2 T0
    go_wp2_with fail
    refine (l6Step_any s 1 A n c true bs w2 HS.out HN.out T2.out.br).mono ?_
    rintro e w3 ⟨g, m, k, rfl, ho, hb3⟩
    have T3 := hide (T2.out.below hb3)
    have HO := hide ho
    obtain ⟨⟨r0, r1, r2⟩, q0, q1, q2⟩ := T3.out.cells
    obtain ⟨g0, g1, g2, _, _, _, hsz3⟩ := T3.out
    have hs3 : w.heap.size < w3.heap.size := by omega
    have hs4 : w.heap.size + 1 < w3.heap.size := by omega
    clear ho hb3 f0 f1 f2
    go_wp2_with fail
    have hg := box3_grown w3 (w.heap.size + 1) (.int .i64 s) (.slice (some ⟨g, 0, none⟩) m k) (.bool false)
    have hb := (box3_set T3.out.rb (.int .i64 s) (.slice (some ⟨g, 0, none⟩) m k) (.bool false))
    have hlow := T3.out.low3 (.int .i64 s) (.slice (some ⟨g, 0, none⟩) m k) (.bool false)
    have hbz := hg.size
    generalize (((w3.setCell ⟨w.heap.size + 1, 0, none⟩ (.int .i64 s)).setCell ⟨w.heap.size + 1, 1, none⟩ (.slice (some ⟨g, 0, none⟩) m k)).setCell ⟨w.heap.size + 1, 2, none⟩ (.bool false)) = w4 at *
    have h4 := (Below.refl w4.heap.size w4).alloc (Nat.le_refl _) (.cells #[.int .i64 s, .slice (some ⟨g, 0, none⟩) m k, .bool false] 25)
    refine bodyPost_ret (results_cell_row resSS _ _ (w.heap.size + 1) 25 #[.int .i64 s, .slice (some ⟨g, 0, none⟩) m k, .bool false] (0, 0) _ rfl ((h4.block _ (by omega)).trans hb) Try.underlying25 rfl infoF) rfl ⟨g, m, k, rfl, ?_, ?_⟩
    · refine (((HO.out.kept hg (.inr fun e => ?_)).below h4).base_le (by omega))
      have := (HO.out.lt g rfl).1
      simp [Value.ownBlock] at e
      omega
    · exact hlow.trans (h4.mono (by omega))
theorem resSB : Try.f16.results = #[.cell 2 25] := by kernel_rfl
set_option maxHeartbeats 4000000 in
theorem sBacks_no (s : Int) (A : Option Addr) (n c : Nat) (sh : Bool) (bs : List Bool) (w : World) (hb : BR w A n bs) (hn : n ≤ 1048576) (hs : (Lit.int .i64 s).wf = true) (hv : fldOk s bs = false) :
    Calls Try.prog 16 #[.agg #[.int .i64 s, .slice A n c, .bool sh]] w (NoField w) := by
  have HV := Lib.hid hv
  have T0 := hide (TB.start (s := s) (c := c) (sh := sh) hb)
  have HS := Lib.hid hs
  clear hb hv hs
  go_enter Try.func16, Try.ntmps16
  go_wp2_with fail
  refine calls_named fun W hW => ?_
  rw [hW] at T0
  clear hW
  refine (sFieldValid_any s A n c sh bs W T0.out.br hn HS.out).mono ?_
  rintro e w2 ⟨rfl, hb2⟩
  rw [HV.out]
  have T2 := hide (T0.out.below hb2)
  obtain ⟨⟨r0, r1, r2⟩, q0, q1, q2⟩ := T2.out.cells
  clear hb2 T0
  go_wp2_with fail
  exact bodyPost_ret (results_cell_row resSB _ _ (w.heap.size + 1) 25 #[.int .i64 0, .slice none 0 0, .bool false] (0, 0) _ rfl (box3_set T2.out.rb _ _ _) Try.underlying25 rfl infoF) rfl ⟨rfl, T2.out.low3 _ _ _⟩
set_option maxHeartbeats 4000000 in
theorem sBacks_ok (s h : Nat) (A : Option Addr) (n c : Nat) (sh : Bool) (bs : List Bool) (w : World) (hs : sOk s h) (hh : h = if sh then 0 else 1) (hn : n = s * s) (hb : BR w A n bs) (hv : fldOk s bs = true) :
    Calls Try.prog 16 #[.agg #[.int .i64 s, .slice A n c, .bool sh]] w (RField w s (!sh) (stepB s h bs)) := by
  have HV := Lib.hid hv
  have hn64 : n ≤ 64 := by obtain ⟨h | h | h | h, _⟩ := hs <;> (subst h; omega)
  have hwf : (Lit.int .i64 (s : Int)).wf = true := by obtain ⟨h | h | h | h, _⟩ := hs <;> (subst h; rfl)
  have T0 := hide (TB.start (s := s) (c := c) (sh := sh) hb)
  have HS := Lib.hid hs
  have HN := Lib.hid hn
  have HW := Lib.hid hwf
  clear hb hv hs hn hwf
  cases sh
  · obtain rfl : h = 1 := hh
    go_enter Try.func16, Try.ntmps16
    go_wp2_with fail
    refine calls_named fun W hW => ?_
    rw [hW] at T0
    clear hW
    refine (sFieldValid_any s A n c false bs W T0.out.br (by omega) HW.out).mono ?_
    rintro e w2 ⟨rfl, hb2⟩
    rw [HV.out]
    have T2 := hide (T0.out.below hb2)
    obtain ⟨f0, f1, f2, _, _, _, hsz⟩ := T2.out
    clear hb2 T0
    go_wp2_with fail
    refine (l6Step_any s 1 A n c false bs w2 HS.out HN.out T2.out.br).mono ?_
    rintro e w3 ⟨g, m, k, rfl, ho, hb3⟩
    have T3 := hide (T2.out.below hb3)
    have HO := hide ho
    obtain ⟨⟨r0, r1, r2⟩, q0, q1, q2⟩ := T3.out.cells
    obtain ⟨g0, g1, g2, _, _, _, hsz3⟩ := T3.out
    have hs3 : w.heap.size < w3.heap.size := by omega
    have hs4 : w.heap.size + 1 < w3.heap.size := by omega
    clear ho hb3 f0 f1 f2
    go_wp2_with fail
    have hg := box3_grown w3 (w.heap.size + 1) (.int .i64 s) (.slice (some ⟨g, 0, none⟩) m k) (.bool true)
    have hb := (box3_set T3.out.rb (.int .i64 s) (.slice (some ⟨g, 0, none⟩) m k) (.bool true))
    have hlow := T3.out.low3 (.int .i64 s) (.slice (some ⟨g, 0, none⟩) m k) (.bool true)
    have hbz := hg.size
    generalize (((w3.setCell ⟨w.heap.size + 1, 0, none⟩ (.int .i64 s)).setCell ⟨w.heap.size + 1, 1, none⟩ (.slice (some ⟨g, 0, none⟩) m k)).setCell ⟨w.heap.size + 1, 2, none⟩ (.bool true)) = w4 at *
    have h4 := (Below.refl w4.heap.size w4).alloc (Nat.le_refl _) (.cells #[.int .i64 s, .slice (some ⟨g, 0, none⟩) m k, .bool true] 25)
    refine bodyPost_ret (results_cell_row resSB _ _ (w.heap.size + 1) 25 #[.int .i64 s, .slice (some ⟨g, 0, none⟩) m k, .bool true] (0, 0) _ rfl ((h4.block _ (by omega)).trans hb) Try.underlying25 rfl infoF) rfl ⟨g, m, k, rfl, ?_, ?_⟩
    · refine (((HO.out.kept hg (.inr fun e => ?_)).below h4).base_le (by omega))
      have := (HO.out.lt g rfl).1
      simp [Value.ownBlock] at e
      omega
    · exact hlow.trans (h4.mono (by omega))
  · obtain rfl : h = 0 := hh
    go_enter Try.func16, Try.ntmps16
    go_wp2_with fail
    refine calls_named fun W hW => ?_
    rw [hW] at T0
    clear hW
    refine (sFieldValid_any s A n c true bs W T0.out.br (by omega) HW.out).mono ?_
    rintro e w2 ⟨rfl, hb2⟩
    rw [HV.out]
    have T2 := hide (T0.out.below hb2)
    obtain ⟨f0, f1, f2, _, _, _, hsz⟩ := T2.out
    clear hb2 T0
    go_wp2_with fail
    refine (l6Step_any s 0 A n c true bs w2 HS.out HN.out T2.out.br).mono ?_
    rintro e w3 ⟨g, m, k, rfl, ho, hb3⟩
    have T3 := hide (T2.out.below hb3)
    have HO := hide ho
    obtain ⟨⟨r0, r1, r2⟩, q0, q1, q2⟩ := T3.out.cells
    obtain ⟨g0, g1, g2, _, _, _, hsz3⟩ := T3.out
    have hs3 : w.heap.size < w3.heap.size := by omega
    have hs4 : w.heap.size + 1 < w3.heap.size := by omega
    clear ho hb3 f0 f1 f2
    go_wp2_with fail
    have hg := box3_grown w3 (w.heap.size + 1) (.int .i64 s) (.slice (some ⟨g, 0, none⟩) m k) (.bool false)
    have hb := (box3_set T3.out.rb (.int .i64 s) (.slice (some ⟨g, 0, none⟩) m k) (.bool false))
    have hlow := T3.out.low3 (.int .i64 s) (.slice (some ⟨g, 0, none⟩) m k) (.bool false)
    have hbz := hg.size
    generalize (((w3.setCell ⟨w.heap.size + 1, 0, none⟩ (.int .i64 s)).setCell ⟨w.heap.size + 1, 1, none⟩ (.slice (some ⟨g, 0, none⟩) m k)).setCell ⟨w.heap.size + 1, 2, none⟩ (.bool false)) = w4 at *
    have h4 := (Below.refl w4.heap.size w4).alloc (Nat.le_refl _) (.cells #[.int .i64 s, .slice (some ⟨g, 0, none⟩) m k, .bool false] 25)
    refine bodyPost_ret (results_cell_row resSB _ _ (w.heap.size + 1) 25 #[.int .i64 s, .slice (some ⟨g, 0, none⟩) m k, .bool false] (0, 0) _ rfl ((h4.block _ (by omega)).trans hb) Try.underlying25 rfl infoF) rfl ⟨g, m, k, rfl, ?_, ?_⟩
    · refine (((HO.out.kept hg (.inr fun e => ?_)).below h4).base_le (by omega))
      have := (HO.out.lt g rfl).1
      simp [Value.ownBlock] at e
      omega
    · exact hlow.trans (h4.mono (by omega))
set_option maxHeartbeats 4000000 in
theorem sBallsMany_any (s : Int) (A : Option Addr) (n c : Nat) (sh : Bool) (bs : List Bool) (w : World) (h : BR w A n bs) (hn : n ≤ 1048576) (hs : (Lit.int .i64 s).wf = true) :
    Calls Try.prog 9 #[.agg #[.int .i64 s, .slice A n c, .bool sh]] w fun e w' => e = .returned (.int .i64 (if fldOk s bs then (cnt bs : Nat) else -1)) ∧ Below w.heap.size w w' := by
  have H := hide (h.below ((Below.refl _ w).alloc (Nat.le_refl _) (.cells #[.int .i64 s, .slice A n c, .bool sh] 25)))
  have HL := Lib.hid h.len
  have BA := hide ((Below.refl _ w).alloc (Nat.le_refl _) (.cells #[.int .i64 s, .slice A n c, .bool sh] 25))
  clear h
  cases hf : fldOk s bs with
  | false =>
    have HF := Lib.hid hf
    clear hf
    go_enter Try.func9, Try.ntmps9
    go_wp2_with fail
    refine (sFieldValid_any s A n c sh bs _ H.out hn hs).mono ?_
    rintro e w' ⟨rfl, hb⟩
    rw [HF.out]
    have B2 := hide (BA.out.trans (hb.mono BA.out.size))
    clear hb
    go_wp2_with fail
    go_ret
    exact ⟨rfl, B2.out⟩
  | true =>
    have HF := Lib.hid hf
    clear hf
    go_enter Try.func9, Try.ntmps9
    go_wp2_with fail
    refine (sFieldValid_any s A n c sh bs _ H.out hn hs).mono ?_
    rintro e w2 ⟨rfl, hb⟩
    rw [HF.out]
    have B2 := hide (BA.out.trans (hb.mono BA.out.size))
    have H2 := hide (H.out.below hb)
    have by_ := hb.cell (p := ⟨w.heap.size, 1, none⟩) (by simp)
    rw [cell_at (v := .slice A n c) rfl rfl] at by_
    clear hb
    go_wp2_with fail
    go_loop [3, 4] (fun mv iv => ∃ (j m : Nat), j ≤ n ∧ iv = .int .i64 j ∧ mv = .int .i64 m ∧ m ≤ j ∧ Hid (m = cnt (bs.take j))) (fun _ iv => n - (intOf iv).toNat)
    case atStart => exact ⟨0, 0, by omega, rfl, rfl, by omega, Lib.hid (by simp [cnt])⟩
    case round =>
      obtain ⟨j, m, hj, rfl, rfl, hmj, HM⟩ := hrel
      by_cases hlt : j < n
      · obtain ⟨b, o, rfl, hbl, hcc⟩ := H2.out.at_ (by omega)
        have hc := hcc j hlt
        have HS := Lib.hid (cnt_succ bs j (by rw [HL.out]; exact hlt))
        clear hcc
        cases hv : bth bs j
        all_goals
          rw [hv] at hc HS
          clear hv
          go_wp2_with fail
          go_round
          case rel => first | exact ⟨j + 1, m, by omega, by go_num, rfl, by omega, Lib.hid (by rw [HS.out, HM.out]; rfl)⟩ | exact ⟨j + 1, m + 1, by omega, by go_num, by go_num, by omega, Lib.hid (by rw [HS.out, HM.out]; rfl)⟩
          case measure => simp [intOf]; omega
      · obtain rfl : n = j := by omega
        go_wp2_with fail
        go_ret
        refine ⟨?_, B2.out⟩
        rw [HM.out, List.take_of_length_le (by rw [HL.out]; exact Nat.le_refl _)]
        rfl
end Go.Proofs.Ytmakpjcjccgalaa
