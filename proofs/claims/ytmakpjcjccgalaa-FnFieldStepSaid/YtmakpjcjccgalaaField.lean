/-
  Fields of balls: reading slices of bools, counting, valid fields.
  No condition.
-/
import Derived.Test.YtmakpjcjccgalaaInts
import Derived.Test.YtmakpjcjccgalaaFieldLaw
namespace Go.Proofs.Ytmakpjcjccgalaa
open Go.RowKit Go.Sort base
/-- a slice that reads as these bools -/
structure BR (w : World) (A : Option Addr) (n : Nat) (bs : List Bool) : Prop where
  len : bs.length = n
  max : n ≤ 9223372036854775807
  at_ : 0 < n → ∃ b o, A = some ⟨b, o, none⟩ ∧ b < w.heap.size ∧ ∀ i, i < n → w.cell? ⟨b, o + i, none⟩ = some (.bool (bth bs i))
theorem BR.keep {w w' : World} {A : Option Addr} {n : Nat} {bs : List Bool} (h : BR w A n bs) (hs : w.heap.size ≤ w'.heap.size) (hk : ∀ p : Addr, p.block < w.heap.size → w'.cell? p = w.cell? p) : BR w' A n bs :=
  ⟨h.len, h.max, fun hn => by
    obtain ⟨b, o, e, hl, hc⟩ := h.at_ hn
    exact ⟨b, o, e, by omega, fun i hi => (hk _ hl).trans (hc i hi)⟩⟩
theorem BR.below {w w' : World} {A : Option Addr} {n : Nat} {bs : List Bool} (h : BR w A n bs) (hb : Below w.heap.size w w') : BR w' A n bs := h.keep hb.size fun _ hp => hb.cell hp
theorem cnt_succ (bs : List Bool) (k : Nat) (h : k < bs.length) : cnt (bs.take (k + 1)) = cnt (bs.take k) + (if bth bs k then 1 else 0) := by
  rw [List.take_succ_eq_append_getElem h]
  unfold cnt bth
  rw [List.count_append, show bs.getD k false = bs[k] by simp [List.getD, h]]
  cases bs[k] <;> simp
def fldV (s : Int) (A : Option Addr) (n c : Nat) (sh : Bool) : Value := .agg #[.int .i64 s, .slice A n c, .bool sh]
set_option maxHeartbeats 1000000 in
theorem many_any (s : Int) (A : Option Addr) (n c : Nat) (sh : Bool) (bs : List Bool) (w : World) (h : BR w A n bs) (hn : n ≤ 1048576) :
    Calls Try.prog 29 #[.agg #[.int .i64 s, .slice A n c, .bool sh]] w fun e w' => e = .returned (.int .i64 (cnt bs : Nat)) ∧ Below w.heap.size w w' := by
  have H := hide h
  have HL := Lib.hid h.len
  clear h
  go_enter Try.func29, Try.ntmps29
  go_wp2_with fail
  go_loopw [3, 9] (fun mv iv wr => ∃ (j m : Nat), j ≤ n ∧ iv = .int .i64 j ∧ mv = .int .i64 m ∧ m ≤ j ∧ Hid (m = cnt (bs.take j)) ∧ Hid (wr = w.alloc (.cells #[.int .i64 s, .slice A n c, .bool sh] 25))) (fun _ iv _ => n - (intOf iv).toNat)
  case atStart => exact ⟨0, 0, by omega, rfl, rfl, by omega, Lib.hid (by simp [cnt]), Lib.hid rfl⟩
  case round =>
    obtain ⟨j, m, hj, rfl, rfl, hmj, HM, HW⟩ := hrel
    by_cases hlt : j < n
    · obtain ⟨b, o, rfl, hbl, hcc⟩ := H.out.at_ (by omega)
      have hc : wr.cell? ⟨b, o + j, none⟩ = some (.bool (bth bs j)) := by
        rw [HW.out]
        exact (((Below.refl _ w).alloc (Nat.le_refl _) _).cell (p := ⟨b, o + j, none⟩) hbl).trans (hcc j hlt)
      have HS := Lib.hid (cnt_succ bs j (by rw [HL.out]; exact hlt))
      clear hcc
      cases hv : bth bs j with
      | true =>
        rw [hv] at hc HS
        clear hv
        go_wp2_with fail
        go_roundw
        case rel => exact ⟨j + 1, m + 1, by omega, by go_num, by go_num, by omega, Lib.hid (by rw [HS.out, HM.out]; rfl), HW⟩
        case measure => simp [intOf]; omega
      | false =>
        rw [hv] at hc HS
        clear hv
        go_wp2_with fail
        go_roundw
        case rel => exact ⟨j + 1, m, by omega, by go_num, rfl, by omega, Lib.hid (by rw [HS.out, HM.out]; rfl), HW⟩
        case measure => simp [intOf]; omega
    · obtain rfl : n = j := by omega
      go_wp2_with fail
      go_ret
      refine ⟨?_, by rw [HW.out]; exact (Below.refl _ w).alloc (Nat.le_refl _) _⟩
      rw [HM.out, List.take_of_length_le (by rw [HL.out]; exact Nat.le_refl _)]
      rfl
/-- a field that is valid -/
def sideOk (s : Int) : Bool := decide (2 ≤ s) && decide (s ≤ 8) && decide (s % 2 = 0)
def fldOk (s : Int) (bs : List Bool) : Bool := sideOk s && decide ((bs.length : Int) = s * s) && decide (cnt bs ≤ 12)
theorem side_cases {s : Int} (h : sideOk s = true) : s = 2 ∨ s = 4 ∨ s = 6 ∨ s = 8 := by
  unfold sideOk at h
  simp only [Bool.and_eq_true, decide_eq_true_eq] at h
  omega
set_option maxHeartbeats 2000000 in
theorem fieldValid_any (s : Int) (A : Option Addr) (n c : Nat) (sh : Bool) (bs : List Bool) (w : World) (h : BR w A n bs) (hn : n ≤ 1048576) (hs : (Lit.int .i64 s).wf = true) :
    Calls Try.prog 10 #[.agg #[.int .i64 s, .slice A n c, .bool sh]] w fun e w' => e = .returned (.bool (fldOk s bs)) ∧ Below w.heap.size w w' := by
  have H := hide (h.below ((Below.refl _ w).alloc (Nat.le_refl _) (.cells #[.int .i64 s, .slice A n c, .bool sh] 25)))
  have HL := Lib.hid h.len
  have BA := hide ((Below.refl _ w).alloc (Nat.le_refl _) (.cells #[.int .i64 s, .slice A n c, .bool sh] 25))
  clear h
  by_cases h1 : sideOk s = true ∧ (n : Int) = s * s
  · obtain ⟨h1, h2⟩ := h1
    have HF := Lib.hid (show fldOk s bs = decide (cnt bs ≤ 12) by unfold fldOk; rw [h1, HL.out, h2]; simp)
    rcases side_cases h1 with rfl | rfl | rfl | rfl <;>
    · clear h1
      rw [HF.out]
      go_enter Try.func10, Try.ntmps10
      go_wp2_with (go_at_call 30; refine (within_b true _ _ _ (by decide) _).mono ?_; rintro e w' ⟨rfl, rfl⟩)
      refine (many_any _ A n c sh bs _ H.out hn).mono ?_
      rintro e w' ⟨rfl, hb⟩
      go_wp2_with fail
      go_ret
      refine ⟨?_, BA.out.trans (hb.mono BA.out.size)⟩
      show Ending.returned (Value.bool (decide ((cnt bs : Int) ≤ 12))) = _
      rw [decide_eq_decide.2 (show (cnt bs : Int) ≤ 12 ↔ cnt bs ≤ 12 by omega)]
  · have HF := Lib.hid (show fldOk s bs = false by
      rw [Bool.eq_false_iff]
      intro h
      unfold fldOk at h
      rw [Bool.and_eq_true, Bool.and_eq_true, decide_eq_true_eq, HL.out] at h
      exact h1 h.1)
    rw [HF.out]
    by_cases h2 : 2 ≤ s ∧ s ≤ 8
    · rcases (show s = 2 ∨ s = 3 ∨ s = 4 ∨ s = 5 ∨ s = 6 ∨ s = 7 ∨ s = 8 by omega) with rfl | rfl | rfl | rfl | rfl | rfl | rfl
      all_goals first
        | have hne : ¬ (n : Int) = 4 := fun e => h1 ⟨by decide, by omega⟩
        | have hne : ¬ (n : Int) = 16 := fun e => h1 ⟨by decide, by omega⟩
        | have hne : ¬ (n : Int) = 36 := fun e => h1 ⟨by decide, by omega⟩
        | have hne : ¬ (n : Int) = 64 := fun e => h1 ⟨by decide, by omega⟩
        | skip
      all_goals
        clear h1 h2
        go_enter Try.func10, Try.ntmps10
        go_wp2_with (go_at_call 30; refine (within_b true _ _ _ (by decide) _).mono ?_; rintro e w' ⟨rfl, rfl⟩)
        go_ret
        exact ⟨rfl, BA.out⟩
    · have hw : (decide (2 ≤ s) && decide (s ≤ 8)) = false := by
        rw [Bool.eq_false_iff]
        simpa using h2
      have HW := Lib.hid hw
      clear h1 h2 hw
      go_enter Try.func10, Try.ntmps10
      go_wp2_with (go_at_call 30; refine (within_b false _ _ _ HW.out _).mono ?_; rintro e w' ⟨rfl, rfl⟩)
      go_ret
      exact ⟨rfl, BA.out⟩
set_option maxHeartbeats 1000000 in
theorem ballsMany_any (s : Int) (A : Option Addr) (n c : Nat) (sh : Bool) (bs : List Bool) (w : World) (h : BR w A n bs) (hn : n ≤ 1048576) (hs : (Lit.int .i64 s).wf = true) :
    Calls Try.prog 8 #[.agg #[.int .i64 s, .slice A n c, .bool sh]] w fun e w' => e = .returned (.int .i64 (if fldOk s bs then (cnt bs : Nat) else -1)) ∧ Below w.heap.size w w' := by
  have H := hide (h.below ((Below.refl _ w).alloc (Nat.le_refl _) (.cells #[.int .i64 s, .slice A n c, .bool sh] 25)))
  have BA := hide ((Below.refl _ w).alloc (Nat.le_refl _) (.cells #[.int .i64 s, .slice A n c, .bool sh] 25))
  clear h
  cases hf : fldOk s bs with
  | false =>
    have HF := Lib.hid hf
    clear hf
    go_enter Try.func8, Try.ntmps8
    go_wp2_with fail
    refine (fieldValid_any s A n c sh bs _ H.out hn hs).mono ?_
    rintro e w' ⟨rfl, hb⟩
    rw [HF.out]
    have B2 := hide (BA.out.trans (hb.mono BA.out.size))
    clear hb
    go_wp2_with fail
    go_ret
    exact ⟨rfl, B2.out⟩
  | true =>
    have HF := Lib.hid hf
    clear hf
    go_enter Try.func8, Try.ntmps8
    go_wp2_with fail
    refine (fieldValid_any s A n c sh bs _ H.out hn hs).mono ?_
    rintro e w2 ⟨rfl, hb⟩
    rw [HF.out]
    have B2 := hide (BA.out.trans (hb.mono BA.out.size))
    have H2 := hide (H.out.below hb)
    have bx := hb.cell (p := ⟨w.heap.size, 0, none⟩) (by simp)
    have by_ := hb.cell (p := ⟨w.heap.size, 1, none⟩) (by simp)
    have bz := hb.cell (p := ⟨w.heap.size, 2, none⟩) (by simp)
    rw [cell_at (v := .int .i64 s) rfl rfl] at bx
    rw [cell_at (v := .slice A n c) rfl rfl] at by_
    rw [cell_at (v := .bool sh) rfl rfl] at bz
    clear hb
    go_wp2_with fail
    refine (many_any s A n c sh bs _ H2.out hn).mono ?_
    rintro e w3 ⟨rfl, hb⟩
    have B3 := hide (B2.out.trans (hb.mono B2.out.size))
    clear hb
    go_wp2_with fail
    go_ret
    exact ⟨rfl, B3.out⟩
set_option maxHeartbeats 4000000 in
theorem sFieldValid_any (s : Int) (A : Option Addr) (n c : Nat) (sh : Bool) (bs : List Bool) (w : World) (h : BR w A n bs) (hn : n ≤ 1048576) (hs : (Lit.int .i64 s).wf = true) :
    Calls Try.prog 23 #[.agg #[.int .i64 s, .slice A n c, .bool sh]] w fun e w' => e = .returned (.bool (fldOk s bs)) ∧ Below w.heap.size w w' := by
  have H := hide h
  have HL := Lib.hid h.len
  clear h
  go_enter Try.func23, Try.ntmps23
  go_wp2_with fail
  go_loopw [3, 4] (fun mv iv wr => ∃ (j m : Nat), j ≤ n ∧ iv = .int .i64 j ∧ mv = .int .i64 m ∧ m ≤ j ∧ Hid (m = cnt (bs.take j)) ∧ wr = w.alloc (.cells #[.int .i64 s, .slice A n c, .bool sh] 25)) (fun _ iv _ => n - (intOf iv).toNat)
  case atStart => exact ⟨0, 0, by omega, rfl, rfl, by omega, Lib.hid (by simp [cnt]), rfl⟩
  case round =>
    obtain ⟨j, m, hj, rfl, rfl, hmj, HM, rfl⟩ := hrel
    by_cases hlt : j < n
    · obtain ⟨b, o, rfl, hbl, hcc⟩ := H.out.at_ (by omega)
      have hc : (w.alloc (.cells #[.int .i64 s, .slice (some ⟨b, o, none⟩) n c, .bool sh] 25)).cell? ⟨b, o + j, none⟩ = some (.bool (bth bs j)) :=
        (((Below.refl _ w).alloc (Nat.le_refl _) _).cell (p := ⟨b, o + j, none⟩) hbl).trans (hcc j hlt)
      have HS := Lib.hid (cnt_succ bs j (by rw [HL.out]; exact hlt))
      clear hcc
      cases hv : bth bs j with
      | true =>
        rw [hv] at hc HS
        clear hv
        go_wp2_with fail
        go_roundw
        case rel => exact ⟨j + 1, m + 1, by omega, by go_num, by go_num, by omega, Lib.hid (by rw [HS.out, HM.out]; rfl), trivial⟩
        case measure => simp [intOf]; omega
      | false =>
        rw [hv] at hc HS
        clear hv
        go_wp2_with fail
        go_roundw
        case rel => exact ⟨j + 1, m, by omega, by go_num, rfl, by omega, Lib.hid (by rw [HS.out, HM.out]; rfl), trivial⟩
        case measure => simp [intOf]; omega
    · obtain rfl : n = j := by omega
      have HMC : Hid (m = cnt bs) := Lib.hid (by rw [HM.out, List.take_of_length_le (by rw [HL.out]; exact Nat.le_refl _)])
      have BA := hide ((Below.refl _ w).alloc (Nat.le_refl _) (.cells #[.int .i64 s, .slice A n c, .bool sh] 25))
      by_cases h2 : 2 ≤ s ∧ s ≤ 8
      · have hw : (decide (2 ≤ s) && decide (s ≤ 8)) = true := by simpa using h2
        have HW := Lib.hid hw
        have HF := Lib.hid (show fldOk s bs = (decide (s % 2 = 0) && decide ((n : Int) = s * s) && decide ((m : Int) ≤ 12)) by
          unfold fldOk sideOk
          rw [hw, HL.out, ← HMC.out, Bool.true_and, decide_eq_decide.2 (show (m : Int) ≤ 12 ↔ m ≤ 12 by omega)])
        clear hw HW
        rcases (show s = 2 ∨ s = 3 ∨ s = 4 ∨ s = 5 ∨ s = 6 ∨ s = 7 ∨ s = 8 by omega) with rfl | rfl | rfl | rfl | rfl | rfl | rfl
        all_goals
          by_cases hq : n = 4 ∨ n = 16 ∨ n = 36 ∨ n = 64
          · rcases hq with rfl | rfl | rfl | rfl
            all_goals
              go_wp2_with (go_at_call 43; refine (l1In_b true _ _ _ (by decide) _).mono ?_; rintro e w' ⟨rfl, rfl⟩)
              go_ret
              refine ⟨?_, BA.out⟩
              rw [HF.out]
              first
                | rfl
                | (show Ending.returned (Value.bool (decide ((m : Int) ≤ 12))) = _; congr 2; simp; done)
                | (congr 2; simp; done)
          · have e1 : ¬ (n : Int) = 4 := by omega
            have e2 : ¬ (n : Int) = 16 := by omega
            have e3 : ¬ (n : Int) = 36 := by omega
            have e4 : ¬ (n : Int) = 64 := by omega
            have HQ := hide hq
            clear hq
            go_wp2_with (go_at_call 43; refine (l1In_b true _ _ _ (by decide) _).mono ?_; rintro e w' ⟨rfl, rfl⟩)
            go_ret
            refine ⟨?_, BA.out⟩
            rw [HF.out]
            first
              | rfl
              | (congr 2; simp [e1, e2, e3, e4]; done)
      · have hw : (decide (2 ≤ s) && decide (s ≤ 8)) = false := by
          rw [Bool.eq_false_iff]
          simpa using h2
        have HW := Lib.hid hw
        have HF := Lib.hid (show fldOk s bs = false by unfold fldOk sideOk; rw [hw]; rfl)
        clear hw
        go_wp2_with (go_at_call 43; refine (l1In_b false _ _ _ HW.out _).mono ?_; rintro e w' ⟨rfl, rfl⟩)
        go_ret
        exact ⟨by rw [HF.out]; rfl, BA.out⟩
end Go.Proofs.Ytmakpjcjccgalaa
