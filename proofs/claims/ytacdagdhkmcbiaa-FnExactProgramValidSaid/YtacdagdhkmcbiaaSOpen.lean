/-
  The stack of open parts by the reference: l9Open; ProgramValid of the reference.
  No condition.
-/
import Derived.Test.YtacdagdhkmcbiaaLineS
import Derived.Test.YtacdagdhkmcbiaaStackLaw
namespace Go.Proofs.Ytacdagdhkmcbiaa
open Go.RowKit Go.Sort base
def kindsOf (gs : List G4) : List Int := gs.map (·.1)
theorem kindsOf_drop {gs : List G4} {j : Nat} (h : j < gs.length) : (kindsOf gs).drop j = (gth gs j).1 :: (kindsOf gs).drop (j + 1) := by
  unfold kindsOf
  rw [List.drop_eq_getElem_cons (by simpa using h)]
  simp [gth_lt h]
def lineOk (g : G4) : Bool := lineQ g.1 g.2.1 g.2.2.1 g.2.2.2
def progQ (gs : List G4) : Bool := decide (gs.length ≤ 16) && gs.all lineOk && stacked (kindsOf gs)
theorem lineOk_kind {g : G4} (h : lineOk g = true) : kindOk g.1 := by
  unfold lineOk lineQ at h
  simp only [Bool.and_eq_true] at h
  exact inR_iff.1 h.1
theorem nth_last {zs : List Int} {t : Int} : nth (zs ++ [t]) zs.length = t := by simp [nth]
def OpenPost (w : World) (ks : List Int) (e : Ending) (w' : World) : Prop :=
  ∃ A m c b, e = .returned (.tuple #[.slice A m c, .bool b]) ∧ m ≤ 10 ∧ (b && decide (m = 0)) = stacked ks ∧ Below w.heap.size w w'
theorem stacked_none {ks : List Int} (h : runP [] ks = none) : stacked ks = false := by unfold stacked; rw [h]; rfl
theorem step_ok {ks st st' r : List Int} {q : Int} (h : runP [] ks = runP st (q :: r)) (hp : push1 st q = some st') : runP [] ks = runP st' r := by rw [h, runP, hp]; rfl
theorem step_no {ks st r : List Int} {q : Int} (h : runP [] ks = runP st (q :: r)) (hp : push1 st q = none) : runP [] ks = none := by rw [h, runP, hp]; rfl
theorem run_takeI (b o n c k : Nat) (hk : k ≤ c) (wx : World) : (Instr.slice 36 (.slice (some ⟨b, o, none⟩) n c) none (some (.int .i64 (k : Int))) none).run Try.prog wx = .ok (.slice (some ⟨b, o, none⟩) k c) wx := by
  have h1 : (0 : Int) ≤ (k : Int) := by omega
  have h2 : (k : Int) ≤ (c : Int) := by omega
  simp [Instr.slice, run_underlying Try.underlying36, Instr.sliceBounds, run_sliceBound _ _ _ _ h1 h2, go_sem]
  exact fun h => absurd h (by omega)
set_option maxRecDepth 100000 in
set_option maxHeartbeats 8000000 in
theorem l9Open_any (A : Option Addr) (n c : Nat) (gs : List G4) (w : World) (h : GR w A n gs) (hn : n ≤ 1048600) :
    Calls Try.prog 13 #[.slice A n c] w (OpenPost w (kindsOf gs)) := by
  have H := hide h
  have HL := Lib.hid h.len
  clear h
  go_enter Try.func13, Try.ntmps13
  go_wp2_with fail
  go_loopw [4, 5] (fun ov kv wr => ∃ (A4 : Option Addr) (m c4 j : Nat) (zs : List Int), ov = .slice A4 m c4 ∧ kv = .int .i64 j ∧ j ≤ n ∧ m ≤ 3 ∧ Hid (zs.length = m) ∧ Hid (Own wr w.heap.size (.slice A4 m c4) zs) ∧ Hid (Below w.heap.size w wr) ∧ Hid (runP [] (kindsOf gs) = runP zs.reverse ((kindsOf gs).drop j))) (fun _ kv _ => n - (intOf kv).toNat)
  case atStart => exact ⟨_, 0, _, 0, [], rfl, rfl, by omega, by omega, Lib.hid rfl, hide (Own.nil0 w _ (Nat.le_refl _)), hide ((Below.refl _ w).alloc (Nat.le_refl _) _), Lib.hid rfl⟩
  case round =>
    obtain ⟨A4, m, c4, j, zs, rfl, rfl, hj, hm, HM, HO, HB, HR⟩ := hrel
    by_cases hlt : j < n
    · obtain ⟨b, o, rfl, hbl, hcc⟩ := H.out.at_ (by omega)
      obtain ⟨g0, _, _, _⟩ := hcc j hlt
      have hk : wr.cell? ⟨b, o + j * 4, none⟩ = some (.int .i64 (gth gs j).1) := (HB.out.cell (p := ⟨b, o + j * 4, none⟩) hbl).trans g0
      have HD := Lib.hid (kindsOf_drop (gs := gs) (j := j) (by rw [HL.out]; exact hlt))
      clear hcc g0
      generalize (gth gs j).1 = q at *
      by_cases h4 : q = 4 ∨ q = 6
      · by_cases hm3 : m < 3
        · have HL3 := Lib.hid (show ¬ 3 ≤ zs.length by rw [HM.out]; omega)
          rcases (show m = 0 ∨ 0 < m by omega) with rfl | hm0
          · rcases h4 with rfl | rfl
            · have hl8 : zs.length + 1 ≤ 8388608 := by have := HM.out; omega
              have hsz := HB.out.size
              go_wp2_with (at_builtin; refine wpList_append1 (x := 4) HO.out (.tmp 31) (.tmp 37) rfl rfl rfl rfl hl8 hsz ?_; intro v6 w6 ho6 hb6 _ _; obtain ⟨A6, c6, rfl, _⟩ := ho6.sliceN (n := 0 + 1) (by rw [List.length_append, HM.out]; rfl); have HO6 := hide ho6; have HB6 := hide (HB.out.trans hb6); clear ho6 hb6 hl8 hsz)
              have HR2 := Lib.hid (step_ok (st' := (zs ++ [(4 : Int)]).reverse) (HR.out.trans (by rw [HD.out])) (by unfold push1; rw [if_pos (by simp), if_neg (by rw [List.length_reverse]; exact HL3.out)]; simp))
              go_roundw
              case rel => exact ⟨_, 0 + 1, _, j + 1, _, rfl, by go_num, by omega, by omega, Lib.hid (by rw [List.length_append, HM.out]; rfl), HO6, HB6, HR2⟩
              case measure => simp [intOf]; omega
            · have hl8 : zs.length + 1 ≤ 8388608 := by have := HM.out; omega
              have hsz := HB.out.size
              go_wp2_with (at_builtin; refine wpList_append1 (x := 6) HO.out (.tmp 31) (.tmp 37) rfl rfl rfl rfl hl8 hsz ?_; intro v6 w6 ho6 hb6 _ _; obtain ⟨A6, c6, rfl, _⟩ := ho6.sliceN (n := 0 + 1) (by rw [List.length_append, HM.out]; rfl); have HO6 := hide ho6; have HB6 := hide (HB.out.trans hb6); clear ho6 hb6 hl8 hsz)
              have HR2 := Lib.hid (step_ok (st' := (zs ++ [(6 : Int)]).reverse) (HR.out.trans (by rw [HD.out])) (by unfold push1; rw [if_pos (by simp), if_neg (by rw [List.length_reverse]; exact HL3.out)]; simp))
              go_roundw
              case rel => exact ⟨_, 0 + 1, _, j + 1, _, rfl, by go_num, by omega, by omega, Lib.hid (by rw [List.length_append, HM.out]; rfl), HO6, HB6, HR2⟩
              case measure => simp [intOf]; omega
          · obtain ⟨g, rfl⟩ : ∃ g, A4 = some ⟨g, 0, none⟩ := by
              rcases HO.out.form with ⟨e, _⟩ | ⟨g, c', e, _⟩
              · simp only [Value.slice.injEq] at e; omega
              · simp only [Value.slice.injEq] at e; exact ⟨g, e.1⟩
            obtain ⟨ys, t, rfl⟩ : ∃ ys t, zs = ys ++ [t] := by
              rcases List.eq_nil_or_concat zs with e | ⟨ys, t, e⟩
              · have := HM.out; rw [e] at this; simp at this; omega
              · exact ⟨ys, t, by simpa using e⟩
            have HY := Lib.hid (show ys.length = m - 1 by have := HM.out; rw [List.length_append, List.length_singleton] at this; omega)
            have hl0 := HO.out.cellAt HM.out (m - 1) (by omega)
            rw [show nth (ys ++ [t]) (m - 1) = t by rw [← HY.out]; exact nth_last] at hl0
            have hi0 : (m : Int) - 1 = ((m - 1 : Nat) : Int) := by omega
            rcases h4 with rfl | rfl
            · have hl8 : (ys ++ [t]).length + 1 ≤ 8388608 := by have := HM.out; omega
              have hsz := HB.out.size
              go_wp2_with (at_builtin; refine wpList_append1 (x := 4) HO.out (.tmp 31) (.tmp 37) rfl rfl rfl rfl hl8 hsz ?_; intro v6 w6 ho6 hb6 _ _; obtain ⟨A6, c6, rfl, _⟩ := ho6.sliceN (n := m + 1) (by rw [List.length_append, HM.out]; rfl); have HO6 := hide ho6; have HB6 := hide (HB.out.trans hb6); clear ho6 hb6 hl8 hsz)
              have HR2 := Lib.hid (step_ok (st' := ((ys ++ [t]) ++ [(4 : Int)]).reverse) (HR.out.trans (by rw [HD.out])) (by unfold push1; rw [if_pos (by simp), if_neg (by rw [List.length_reverse]; exact HL3.out)]; simp))
              go_roundw
              case rel => exact ⟨_, m + 1, _, j + 1, _, rfl, by go_num, by omega, by omega, Lib.hid (by rw [List.length_append, HM.out]; rfl), HO6, HB6, HR2⟩
              case measure => simp [intOf]; omega
            · have hl8 : (ys ++ [t]).length + 1 ≤ 8388608 := by have := HM.out; omega
              have hsz := HB.out.size
              go_wp2_with (at_builtin; refine wpList_append1 (x := 6) HO.out (.tmp 31) (.tmp 37) rfl rfl rfl rfl hl8 hsz ?_; intro v6 w6 ho6 hb6 _ _; obtain ⟨A6, c6, rfl, _⟩ := ho6.sliceN (n := m + 1) (by rw [List.length_append, HM.out]; rfl); have HO6 := hide ho6; have HB6 := hide (HB.out.trans hb6); clear ho6 hb6 hl8 hsz)
              have HR2 := Lib.hid (step_ok (st' := ((ys ++ [t]) ++ [(6 : Int)]).reverse) (HR.out.trans (by rw [HD.out])) (by unfold push1; rw [if_pos (by simp), if_neg (by rw [List.length_reverse]; exact HL3.out)]; simp))
              go_roundw
              case rel => exact ⟨_, m + 1, _, j + 1, _, rfl, by go_num, by omega, by omega, Lib.hid (by rw [List.length_append, HM.out]; rfl), HO6, HB6, HR2⟩
              case measure => simp [intOf]; omega
        · have HL3 := Lib.hid (show 3 ≤ zs.length by rw [HM.out]; omega)
          have hm0 : 0 < m := by omega
          obtain ⟨g, rfl⟩ : ∃ g, A4 = some ⟨g, 0, none⟩ := by
            rcases HO.out.form with ⟨e, _⟩ | ⟨g, c', e, _⟩
            · simp only [Value.slice.injEq] at e; omega
            · simp only [Value.slice.injEq] at e; exact ⟨g, e.1⟩
          obtain ⟨ys, t, rfl⟩ : ∃ ys t, zs = ys ++ [t] := by
            rcases List.eq_nil_or_concat zs with e | ⟨ys, t, e⟩
            · have := HM.out; rw [e] at this; simp at this; omega
            · exact ⟨ys, t, by simpa using e⟩
          have HY := Lib.hid (show ys.length = m - 1 by have := HM.out; rw [List.length_append, List.length_singleton] at this; omega)
          have hl0 := HO.out.cellAt HM.out (m - 1) (by omega)
          rw [show nth (ys ++ [t]) (m - 1) = t by rw [← HY.out]; exact nth_last] at hl0
          have hi0 : (m : Int) - 1 = ((m - 1 : Nat) : Int) := by omega
          rcases h4 with rfl | rfl
          · have hl8 : (ys ++ [t]).length + 1 ≤ 8388608 := by have := HM.out; omega
            have hsz := HB.out.size
            go_wp2_with (at_builtin; refine wpList_append1 (x := 4) HO.out (.tmp 31) (.tmp 37) rfl rfl rfl rfl hl8 hsz ?_; intro v6 w6 ho6 hb6 _ _; obtain ⟨A6, c6, rfl, _⟩ := ho6.sliceN (n := m + 1) (by rw [List.length_append, HM.out]; rfl); have HO6 := hide ho6; have HB6 := hide (HB.out.trans hb6); clear ho6 hb6 hl8 hsz)
            have HN := Lib.hid (stacked_none (step_no (HR.out.trans (by rw [HD.out])) (by unfold push1; rw [if_pos (by simp), if_pos (by rw [List.length_reverse]; exact HL3.out)])))
            exact bodyPost_ret (v := .tuple #[.slice A6 (m + 1) c6, .bool false]) (by simp [results, Try.results13, go_sem]) rfl ⟨_, m + 1, _, false, rfl, by omega, by rw [HN.out]; rfl, HB6.out⟩
          · have hl8 : (ys ++ [t]).length + 1 ≤ 8388608 := by have := HM.out; omega
            have hsz := HB.out.size
            go_wp2_with (at_builtin; refine wpList_append1 (x := 6) HO.out (.tmp 31) (.tmp 37) rfl rfl rfl rfl hl8 hsz ?_; intro v6 w6 ho6 hb6 _ _; obtain ⟨A6, c6, rfl, _⟩ := ho6.sliceN (n := m + 1) (by rw [List.length_append, HM.out]; rfl); have HO6 := hide ho6; have HB6 := hide (HB.out.trans hb6); clear ho6 hb6 hl8 hsz)
            have HN := Lib.hid (stacked_none (step_no (HR.out.trans (by rw [HD.out])) (by unfold push1; rw [if_pos (by simp), if_pos (by rw [List.length_reverse]; exact HL3.out)])))
            exact bodyPost_ret (v := .tuple #[.slice A6 (m + 1) c6, .bool false]) (by simp [results, Try.results13, go_sem]) rfl ⟨_, m + 1, _, false, rfl, by omega, by rw [HN.out]; rfl, HB6.out⟩
      · obtain ⟨h4, h6⟩ : ¬ q = 4 ∧ ¬ q = 6 := ⟨fun e => h4 (.inl e), fun e => h4 (.inr e)⟩
        rcases (show m = 0 ∨ 0 < m by omega) with rfl | hm0
        · obtain rfl : zs = [] := List.eq_nil_of_length_eq_zero HM.out
          by_cases h578 : q = 5 ∨ q = 7 ∨ q = 8
          · rcases h578 with rfl | rfl | rfl
            · have HN := Lib.hid (stacked_none (step_no (HR.out.trans (by rw [HD.out])) (by simp [push1])))
              go_wp2_with fail
              exact bodyPost_ret (v := .tuple #[.slice A4 0 c4, .bool false]) (by simp [results, Try.results13, go_sem]) rfl ⟨_, 0, _, false, rfl, by omega, by rw [HN.out]; rfl, HB.out⟩
            · have HN := Lib.hid (stacked_none (step_no (HR.out.trans (by rw [HD.out])) (by simp [push1])))
              go_wp2_with fail
              exact bodyPost_ret (v := .tuple #[.slice A4 0 c4, .bool false]) (by simp [results, Try.results13, go_sem]) rfl ⟨_, 0, _, false, rfl, by omega, by rw [HN.out]; rfl, HB.out⟩
            · have HN := Lib.hid (stacked_none (step_no (HR.out.trans (by rw [HD.out])) (by simp [push1])))
              go_wp2_with fail
              exact bodyPost_ret (v := .tuple #[.slice A4 0 c4, .bool false]) (by simp [results, Try.results13, go_sem]) rfl ⟨_, 0, _, false, rfl, by omega, by rw [HN.out]; rfl, HB.out⟩
          · have h5 : ¬ q = 5 := fun e => h578 (.inl e)
            have h7 : ¬ q = 7 := fun e => h578 (.inr (.inl e))
            have h8 : ¬ q = 8 := fun e => h578 (.inr (.inr e))
            clear h578
            have e4 : (q == 4) = false := by simpa using h4
            have e6 : (q == 6) = false := by simpa using h6
            have e5 : (q == 5) = false := by simpa using h5
            have e7 : (q == 7) = false := by simpa using h7
            have e8 : (q == 8) = false := by simpa using h8
            have HP := Lib.hid (show push1 ([] : List Int).reverse q = some ([] : List Int).reverse by unfold push1; rw [if_neg (by omega), if_neg h5, if_neg h7, if_neg h8])
            clear h4 h5 h6 h7 h8
            have HR2 := Lib.hid (step_ok (HR.out.trans (by rw [HD.out])) (HP.out))
            go_wp2_with fail
            go_roundw
            case rel => exact ⟨_, _, _, j + 1, _, rfl, by go_num, by omega, by omega, HM, HO, HB, HR2⟩
            case measure => simp [intOf]; omega
        · obtain ⟨g, rfl⟩ : ∃ g, A4 = some ⟨g, 0, none⟩ := by
            rcases HO.out.form with ⟨e, _⟩ | ⟨g, c', e, _⟩
            · simp only [Value.slice.injEq] at e; omega
            · simp only [Value.slice.injEq] at e; exact ⟨g, e.1⟩
          obtain ⟨ys, t, rfl⟩ : ∃ ys t, zs = ys ++ [t] := by
            rcases List.eq_nil_or_concat zs with e | ⟨ys, t, e⟩
            · have := HM.out; rw [e] at this; simp at this; omega
            · exact ⟨ys, t, by simpa using e⟩
          have HY := Lib.hid (show ys.length = m - 1 by have := HM.out; rw [List.length_append, List.length_singleton] at this; omega)
          have hl0 := HO.out.cellAt HM.out (m - 1) (by omega)
          rw [show nth (ys ++ [t]) (m - 1) = t by rw [← HY.out]; exact nth_last] at hl0
          have hi0 : (m : Int) - 1 = ((m - 1 : Nat) : Int) := by omega
          by_cases h5 : q = 5
          · subst h5
            by_cases ht : t = 4
            · subst ht
              have HT := hide (HO.out.take HM.out (m - 1) (by omega))
              rw [show (ys ++ [(4 : Int)]).take (m - 1) = ys by rw [← HY.out, List.take_left]] at HT
              have hc4 : m ≤ c4 := by
                rcases HO.out.form with ⟨e, _⟩ | ⟨_, c', e, _, _, h1, _⟩
                · simp at e
                · simp only [Value.slice.injEq] at e
                  have := HM.out
                  omega
              have hsl := fun wx => run_takeI g 0 m c4 (m - 1) (by omega) wx
              have HR2 := Lib.hid (step_ok (st' := ys.reverse) (HR.out.trans (by rw [HD.out])) (by simp [push1]))
              go_wp2_with fail
              go_roundw
              case rel => exact ⟨_, m - 1, _, j + 1, _, rfl, by go_num, by omega, by omega, HY, HT, HB, HR2⟩
              case measure => simp [intOf]; omega
            · have et : (t != 4) = true := by simpa using ht
              have HN := Lib.hid (stacked_none (step_no (HR.out.trans (by rw [HD.out])) (by simp [push1, ht])))
              go_wp2_with fail
              exact bodyPost_ret (v := .tuple #[.slice (some ⟨g, 0, none⟩) m c4, .bool false]) (by simp [results, Try.results13, go_sem]) rfl ⟨_, m, _, false, rfl, by omega, by rw [HN.out]; rfl, HB.out⟩
          · by_cases h7 : q = 7
            · subst h7
              by_cases ht : t = 6
              · subst ht
                have hst := HO.out.stored HM.out (m - 1) 7
                have hfz := HO.out.frozenAt HM.out (m - 1)
                rw [show (ys ++ [(6 : Int)]).set (m - 1) 7 = ys ++ [7] by rw [← HY.out, List.set_append_right _ _ (Nat.le_refl _), Nat.sub_self]; rfl] at hst
                have HS := hide hst
                have HBs := hide (HB.out.setCell (p := ⟨g, m - 1, none⟩) (HO.out.lt g rfl).1 (.int .i64 7))
                have HR2 := Lib.hid (step_ok (st' := (ys ++ [(7 : Int)]).reverse) (HR.out.trans (by rw [HD.out])) (by simp [push1]))
                clear hst
                go_wp2_with fail
                go_roundw
                case rel => exact ⟨_, m, _, j + 1, _, rfl, by go_num, by omega, by omega, Lib.hid (by rw [List.length_append, HY.out]; simp; omega), HS.out.1, HBs, HR2⟩
                case measure => simp [intOf]; omega
              · have et : (t != 6) = true := by simpa using ht
                have HN := Lib.hid (stacked_none (step_no (HR.out.trans (by rw [HD.out])) (by simp [push1, ht])))
                go_wp2_with fail
                exact bodyPost_ret (v := .tuple #[.slice (some ⟨g, 0, none⟩) m c4, .bool false]) (by simp [results, Try.results13, go_sem]) rfl ⟨_, m, _, false, rfl, by omega, by rw [HN.out]; rfl, HB.out⟩
            · by_cases h8 : q = 8
              · subst h8
                by_cases ht : t = 7
                · subst ht
                  have HT := hide (HO.out.take HM.out (m - 1) (by omega))
                  rw [show (ys ++ [(7 : Int)]).take (m - 1) = ys by rw [← HY.out, List.take_left]] at HT
                  have hc4 : m ≤ c4 := by
                    rcases HO.out.form with ⟨e, _⟩ | ⟨_, c', e, _, _, h1, _⟩
                    · simp at e
                    · simp only [Value.slice.injEq] at e
                      have := HM.out
                      omega
                  have hsl := fun wx => run_takeI g 0 m c4 (m - 1) (by omega) wx
                  have HR2 := Lib.hid (step_ok (st' := ys.reverse) (HR.out.trans (by rw [HD.out])) (by simp [push1]))
                  go_wp2_with fail
                  go_roundw
                  case rel => exact ⟨_, m - 1, _, j + 1, _, rfl, by go_num, by omega, by omega, HY, HT, HB, HR2⟩
                  case measure => simp [intOf]; omega
                · have et : (t != 7) = true := by simpa using ht
                  have HN := Lib.hid (stacked_none (step_no (HR.out.trans (by rw [HD.out])) (by simp [push1, ht])))
                  go_wp2_with fail
                  exact bodyPost_ret (v := .tuple #[.slice (some ⟨g, 0, none⟩) m c4, .bool false]) (by simp [results, Try.results13, go_sem]) rfl ⟨_, m, _, false, rfl, by omega, by rw [HN.out]; rfl, HB.out⟩
              · have e4 : (q == 4) = false := by simpa using h4
                have e6 : (q == 6) = false := by simpa using h6
                have e5 : (q == 5) = false := by simpa using h5
                have e7 : (q == 7) = false := by simpa using h7
                have e8 : (q == 8) = false := by simpa using h8
                have HP := Lib.hid (show push1 (ys ++ [t]).reverse q = some (ys ++ [t]).reverse by unfold push1; rw [if_neg (by omega), if_neg h5, if_neg h7, if_neg h8])
                clear h4 h5 h6 h7 h8
                have HR2 := Lib.hid (step_ok (HR.out.trans (by rw [HD.out])) (HP.out))
                go_wp2_with fail
                go_roundw
                case rel => exact ⟨_, _, _, j + 1, _, rfl, by go_num, by omega, by omega, HM, HO, HB, HR2⟩
                case measure => simp [intOf]; omega
    · obtain rfl : j = n := by omega
      have HE := Lib.hid (show stacked (kindsOf gs) = decide (m = 0) by
        have h1 := HR.out
        rw [List.drop_of_length_le (by unfold kindsOf; rw [List.length_map, HL.out]; exact Nat.le_refl _)] at h1
        unfold stacked
        rw [h1, runP, Bool.eq_iff_iff, beq_iff_eq, decide_eq_true_iff]
        have h2 := HM.out
        constructor
        · intro h; have h3 : zs = [] := by simpa using h
          rw [h3] at h2; simpa using h2.symm
        · intro h; rw [h] at h2; rw [List.eq_nil_of_length_eq_zero h2]; rfl)
      go_wp2_with fail
      exact bodyPost_ret (v := .tuple #[.slice A4 m c4, .bool true]) (by simp [results, Try.results13, go_sem]) rfl ⟨_, m, _, true, rfl, by omega, by rw [HE.out]; rfl, HB.out⟩
end Go.Proofs.Ytacdagdhkmcbiaa
