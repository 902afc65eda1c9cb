/-
  Formulas: which are valid, by the program and by the reference.
  No condition.
-/
import Derived.Test.YtpklpebngholcaaSteps
namespace Go.Proofs.Ytpklpebngholcaa
open Go.RowKit Go.Sort base
/-- a step over the places up to a last one -/
def stepOk (last : Int) (s : S3) : Bool :=
  (decide (0 ≤ s.1) && decide (s.1 ≤ 3)) && (decide (0 ≤ s.2.1) && decide (s.2.1 ≤ last)) && (if s.1 = 3 then decide (s.2.2 = 0) else (decide (0 ≤ s.2.2) && decide (s.2.2 ≤ last)) && !decide (s.2.2 = s.2.1))
def formQ (i : Int) (fs : List S3) : Bool :=
  (decide (1 ≤ i) && decide (i ≤ 3)) && (decide (1 ≤ fs.length) && decide (fs.length ≤ 3)) && (List.range fs.length).all fun k => stepOk (i + k - 1) (sth fs k)
theorem formQ_iff {i : Int} {fs : List S3} : formQ i fs = true ↔ (1 ≤ i ∧ i ≤ 3) ∧ (1 ≤ fs.length ∧ fs.length ≤ 3) ∧ ∀ k, k < fs.length → stepOk (i + k - 1) (sth fs k) = true := by
  unfold formQ
  simp only [Bool.and_eq_true, decide_eq_true_eq, List.all_eq_true, List.mem_range, and_assoc]
theorem formQ_no {i : Int} {fs : List S3} {k : Nat} (hk : k < fs.length) (h : stepOk (i + k - 1) (sth fs k) = false) : formQ i fs = false := by
  cases e : formQ i fs
  · rfl
  · rw [(formQ_iff.1 e).2.2 k hk] at h; cases h
theorem formQ_no_i {i : Int} {fs : List S3} (h : ¬ (1 ≤ i ∧ i ≤ 3)) : formQ i fs = false := by
  cases e : formQ i fs
  · rfl
  · exact absurd (formQ_iff.1 e).1 h
theorem formQ_no_l {i : Int} {fs : List S3} (h : ¬ (1 ≤ fs.length ∧ fs.length ≤ 3)) : formQ i fs = false := by
  cases e : formQ i fs
  · rfl
  · exact absurd (formQ_iff.1 e).2.1 h
theorem dec2 {x l h : Int} (c : l ≤ x ∧ x ≤ h) : (decide (l ≤ x) && decide (x ≤ h)) = true := by simp; exact c
theorem dec2n {x l h : Int} (c : ¬ (l ≤ x ∧ x ≤ h)) : (decide (l ≤ x) && decide (x ≤ h)) = false := by
  cases e : (decide (l ≤ x) && decide (x ≤ h))
  · rfl
  · simp at e; exact absurd e c
set_option maxRecDepth 100000 in
set_option maxHeartbeats 4000000 in
theorem formValid_any (i : Int) (A : Option Addr) (n c : Nat) (fs : List S3) (w : World) (h : SR w A n fs) :
    Calls Try.prog 25 #[.int .i64 i, .slice A n c] w fun e w' => e = .returned (.bool (formQ i fs)) ∧ Below w.heap.size w w' := by
  have HR0 := hide h
  have hmax := h.max
  have HLen := Lib.hid h.len
  clear h
  by_cases hi : 1 ≤ i ∧ i ≤ 3
  · by_cases hn : 1 ≤ n ∧ n ≤ 3
    · have D1 := hide (dec2 hi)
      have D2 := hide (dec2 (x := (n : Int)) (l := 1) (h := 3) (by omega))
      obtain ⟨hi1, hi2⟩ := hi
      obtain ⟨hn1, hn2⟩ := hn
      go_enter Try.func25, Try.ntmps25
      go_wp2_with fail
      refine (within_b true _ _ _ D1.out _).mono ?_
      rintro e w' ⟨rfl, rfl⟩
      go_wp2_with fail
      refine (within_b true _ _ _ D2.out _).mono ?_
      rintro e w' ⟨rfl, rfl⟩
      go_wp2_with fail
      go_loopw [19] (fun iv wr => ∃ j : Nat, j ≤ n ∧ iv = .int .i64 j ∧ Hid (∀ t, t < j → stepOk (i + t - 1) (sth fs t) = true) ∧ Hid (Below w.heap.size w wr)) (fun iv _ => n - (intOf iv).toNat)
      case atStart => exact ⟨0, by omega, rfl, fun t ht => absurd ht (by omega), Below.refl _ _⟩
      case round =>
        obtain ⟨j, hj, rfl, HA, HB⟩ := hrel
        have HR := hide (HR0.out.below HB.out)
        by_cases hlt : j < n
        · obtain ⟨b0, o0, rfl, hbl, hcc⟩ := HR.out.at_ (by omega)
          obtain ⟨⟨k, a, b⟩, hg⟩ : ∃ s, sth fs j = s := ⟨_, rfl⟩
          obtain ⟨g0, g1, g2⟩ := hcc j hlt
          rw [hg] at g0 g1 g2
          simp only at g0 g1 g2
          have HG := Lib.hid hg
          clear hcc hg
          have B1 : ∀ t, Hid (Below w.heap.size w (wr.alloc (.cells #[.int .i64 k, .int .i64 a, .int .i64 b] t))) := fun t => hide (HB.out.alloc HB.out.size _)
          have HNo : Hid (stepOk (i + j - 1) (k, a, b) = false → formQ i fs = false) := fun e => formQ_no (k := j) (by rw [HLen.out]; exact hlt) (by rw [HG.out]; exact e)
          have HYes : Hid (stepOk (i + j - 1) (k, a, b) = true → ∀ t, t < j + 1 → stepOk (i + t - 1) (sth fs t) = true) := fun e t ht => by
            rcases Nat.lt_or_ge t j with h | h
            · exact HA.out t h
            · obtain rfl : t = j := by omega
              rw [HG.out]; exact e
          by_cases c1 : 0 ≤ k ∧ k ≤ 3
          · have e1 := dec2 c1
            have E1 := Lib.hid e1
            by_cases c2 : 0 ≤ a ∧ a ≤ i + j - 1
            · have e2 := dec2 c2
              have E2 := Lib.hid e2
              by_cases c3 : k = 3
              · subst c3
                by_cases c4 : b = 0
                · subst c4
                  have HF := Lib.hid (show stepOk (i + j - 1) (3, a, 0) = true by simp only [stepOk, e1, e2]; simp)
                  clear e1 e2 c1
                  go_wp2_with fail
                  refine (within_b true _ _ _ E1.out _).mono ?_
                  rintro e w' ⟨rfl, rfl⟩
                  go_wp2_with fail
                  refine (within_b true _ _ _ E2.out _).mono ?_
                  rintro e w' ⟨rfl, rfl⟩
                  go_wp2_with fail
                  go_roundw
                  case rel => exact ⟨j + 1, by omega, by go_num, HYes.out HF.out, (B1 _).out⟩
                  case measure => simp [intOf]; omega
                · have e4 : (b == 0) = false := by simpa using c4
                  have e5 : (b != 0) = true := by simpa using c4
                  have HF := Lib.hid (HNo.out (show stepOk (i + j - 1) (3, a, b) = false by simp only [stepOk, e1, e2]; simp [c4]))
                  clear e1 e2 c1 c4
                  go_wp2_with fail
                  refine (within_b true _ _ _ E1.out _).mono ?_
                  rintro e w' ⟨rfl, rfl⟩
                  go_wp2_with fail
                  refine (within_b true _ _ _ E2.out _).mono ?_
                  rintro e w' ⟨rfl, rfl⟩
                  go_wp2_with fail
                  go_ret
                  exact ⟨by rw [HF.out]; rfl, (B1 _).out⟩
              · have e3 : (k == 3) = false := by simpa using c3
                have e3n : (k != 3) = true := by simpa using c3
                by_cases c4 : 0 ≤ b ∧ b ≤ i + j - 1
                · have e4 := dec2 c4
                  have E4 := Lib.hid e4
                  by_cases c5 : b = a
                  · subst c5
                    have HF := Lib.hid (HNo.out (show stepOk (i + j - 1) (k, b, b) = false by simp only [stepOk, e1, e4]; simp [c3]))
                    clear e1 e2 e4 c1 c2 c3 c4
                    go_wp2_with fail
                    refine (within_b true _ _ _ E1.out _).mono ?_
                    rintro e w' ⟨rfl, rfl⟩
                    go_wp2_with fail
                    refine (within_b true _ _ _ E2.out _).mono ?_
                    rintro e w' ⟨rfl, rfl⟩
                    go_wp2_with fail
                    refine (within_b true _ _ _ E4.out _).mono ?_
                    rintro e w' ⟨rfl, rfl⟩
                    go_wp2_with fail
                    go_ret
                    exact ⟨by rw [HF.out]; rfl, (B1 _).out⟩
                  · have e5 : (b == a) = false := by simp; omega
                    have HF := Lib.hid (show stepOk (i + j - 1) (k, a, b) = true by simp only [stepOk, e1, e2, e4]; simp [c3, c5])
                    clear e1 e2 e4 c1 c2 c3 c4 c5
                    go_wp2_with fail
                    refine (within_b true _ _ _ E1.out _).mono ?_
                    rintro e w' ⟨rfl, rfl⟩
                    go_wp2_with fail
                    refine (within_b true _ _ _ E2.out _).mono ?_
                    rintro e w' ⟨rfl, rfl⟩
                    go_wp2_with fail
                    refine (within_b true _ _ _ E4.out _).mono ?_
                    rintro e w' ⟨rfl, rfl⟩
                    go_wp2_with fail
                    go_roundw
                    case rel => exact ⟨j + 1, by omega, by go_num, HYes.out HF.out, (B1 _).out⟩
                    case measure => simp [intOf]; omega
                · have e4 := dec2n c4
                  have E4 := Lib.hid e4
                  have HF := Lib.hid (HNo.out (show stepOk (i + j - 1) (k, a, b) = false by simp only [stepOk, e1, e2, e4]; simp [c3]))
                  clear e1 e2 e4 c1 c2 c3 c4
                  go_wp2_with fail
                  refine (within_b true _ _ _ E1.out _).mono ?_
                  rintro e w' ⟨rfl, rfl⟩
                  go_wp2_with fail
                  refine (within_b true _ _ _ E2.out _).mono ?_
                  rintro e w' ⟨rfl, rfl⟩
                  go_wp2_with fail
                  refine (within_b false _ _ _ E4.out _).mono ?_
                  rintro e w' ⟨rfl, rfl⟩
                  go_wp2_with fail
                  go_ret
                  exact ⟨by rw [HF.out]; rfl, (B1 _).out⟩
            · have e2 := dec2n c2
              have E2 := Lib.hid e2
              have HF := Lib.hid (HNo.out (show stepOk (i + j - 1) (k, a, b) = false by simp only [stepOk, e1, e2]; simp))
              clear e1 e2 c1 c2
              go_wp2_with fail
              refine (within_b true _ _ _ E1.out _).mono ?_
              rintro e w' ⟨rfl, rfl⟩
              go_wp2_with fail
              refine (within_b false _ _ _ E2.out _).mono ?_
              rintro e w' ⟨rfl, rfl⟩
              go_wp2_with fail
              go_ret
              exact ⟨by rw [HF.out]; rfl, (B1 _).out⟩
          · have e1 := dec2n c1
            have E1 := Lib.hid e1
            have HF := Lib.hid (HNo.out (show stepOk (i + j - 1) (k, a, b) = false by simp only [stepOk, e1]; simp))
            clear e1 c1
            go_wp2_with fail
            refine (within_b false _ _ _ E1.out _).mono ?_
            rintro e w' ⟨rfl, rfl⟩
            go_wp2_with fail
            go_ret
            exact ⟨by rw [HF.out]; rfl, (B1 _).out⟩
        · obtain rfl : j = n := by omega
          have HQ := Lib.hid (show formQ i fs = true from formQ_iff.2 ⟨⟨hi1, hi2⟩, by rw [HLen.out]; exact ⟨hn1, hn2⟩, fun t ht => HA.out t (by rw [HLen.out] at ht; exact ht)⟩)
          go_wp2_with fail
          go_ret
          exact ⟨by rw [HQ.out]; rfl, HB.out⟩
    · have D1 := hide (dec2 hi)
      have D2 := hide (dec2n (x := (n : Int)) (l := 1) (h := 3) (by omega))
      have HQ := Lib.hid (formQ_no_l (i := i) (fs := fs) (by rw [HLen.out]; exact hn))
      clear hi hn
      go_enter Try.func25, Try.ntmps25
      go_wp2_with fail
      refine (within_b true _ _ _ D1.out _).mono ?_
      rintro e w' ⟨rfl, rfl⟩
      go_wp2_with fail
      refine (within_b false _ _ _ D2.out _).mono ?_
      rintro e w' ⟨rfl, rfl⟩
      go_wp2_with fail
      go_ret
      exact ⟨by rw [HQ.out]; rfl, Below.refl _ _⟩
  · have D1 := hide (dec2n hi)
    have HQ := Lib.hid (formQ_no_i (fs := fs) hi)
    clear hi
    go_enter Try.func25, Try.ntmps25
    go_wp2_with fail
    refine (within_b false _ _ _ D1.out _).mono ?_
    rintro e w' ⟨rfl, rfl⟩
    go_wp2_with fail
    go_ret
    exact ⟨by rw [HQ.out]; rfl, Below.refl _ _⟩
theorem formValid_b (q : Bool) (i : Int) (A : Option Addr) (n c : Nat) (fs : List S3) (hq : formQ i fs = q) (w : World) (h : SR w A n fs) :
    Calls Try.prog 25 #[.int .i64 i, .slice A n c] w fun e w' => e = .returned (.bool q) ∧ Below w.heap.size w w' := by subst hq; exact formValid_any i A n c fs w h
set_option maxRecDepth 100000 in
set_option maxHeartbeats 4000000 in
theorem sFormValid_any (i : Int) (A : Option Addr) (n c : Nat) (fs : List S3) (w : World) (h : SR w A n fs) :
    Calls Try.prog 23 #[.int .i64 i, .slice A n c] w fun e w' => e = .returned (.bool (formQ i fs)) ∧ Below w.heap.size w w' := by
  have HR0 := hide h
  have hmax := h.max
  have HLen := Lib.hid h.len
  clear h
  by_cases hi : 1 ≤ i ∧ i ≤ 3
  · by_cases hn : 1 ≤ n ∧ n ≤ 3
    · have D1 := hide (dec2 hi)
      have D2 := hide (dec2 (x := (n : Int)) (l := 1) (h := 3) (by omega))
      obtain ⟨hi1, hi2⟩ := hi
      obtain ⟨hn1, hn2⟩ := hn
      go_enter Try.func23, Try.ntmps23
      go_wp2_with fail
      refine (l1In_b true _ _ _ D1.out _).mono ?_
      rintro e w' ⟨rfl, rfl⟩
      go_wp2_with fail
      refine (l1In_b true _ _ _ D2.out _).mono ?_
      rintro e w' ⟨rfl, rfl⟩
      go_wp2_with fail
      go_loopw [5] (fun iv wr => ∃ j : Nat, j ≤ n ∧ iv = .int .i64 j ∧ Hid (∀ t, t < j → stepOk (i + t - 1) (sth fs t) = true) ∧ Hid (Below w.heap.size w wr)) (fun iv _ => n - (intOf iv).toNat)
      case atStart => exact ⟨0, by omega, rfl, fun t ht => absurd ht (by omega), Below.refl _ _⟩
      case round =>
        obtain ⟨j, hj, rfl, HA, HB⟩ := hrel
        have HR := hide (HR0.out.below HB.out)
        by_cases hlt : j < n
        · obtain ⟨b0, o0, rfl, hbl, hcc⟩ := HR.out.at_ (by omega)
          obtain ⟨⟨k, a, b⟩, hg⟩ : ∃ s, sth fs j = s := ⟨_, rfl⟩
          obtain ⟨g0, g1, g2⟩ := hcc j hlt
          rw [hg] at g0 g1 g2
          simp only at g0 g1 g2
          have HG := Lib.hid hg
          clear hcc hg
          have B1 : ∀ t, Hid (Below w.heap.size w (wr.alloc (.cells #[.int .i64 k, .int .i64 a, .int .i64 b] t))) := fun t => hide (HB.out.alloc HB.out.size _)
          have HNo : Hid (stepOk (i + j - 1) (k, a, b) = false → formQ i fs = false) := fun e => formQ_no (k := j) (by rw [HLen.out]; exact hlt) (by rw [HG.out]; exact e)
          have HYes : Hid (stepOk (i + j - 1) (k, a, b) = true → ∀ t, t < j + 1 → stepOk (i + t - 1) (sth fs t) = true) := fun e t ht => by
            rcases Nat.lt_or_ge t j with h | h
            · exact HA.out t h
            · obtain rfl : t = j := by omega
              rw [HG.out]; exact e
          by_cases c1 : 0 ≤ k ∧ k ≤ 3
          · have e1 := dec2 c1
            have E1 := Lib.hid e1
            by_cases c2 : 0 ≤ a ∧ a ≤ i + j - 1
            · have e2 := dec2 c2
              have E2 := Lib.hid e2
              by_cases c3 : k = 3
              · subst c3
                by_cases c4 : b = 0
                · subst c4
                  have HF := Lib.hid (show stepOk (i + j - 1) (3, a, 0) = true by simp only [stepOk, e1, e2]; simp)
                  clear e1 e2 c1
                  go_wp2_with fail
                  refine (l1In_b true _ _ _ E1.out _).mono ?_
                  rintro e w' ⟨rfl, rfl⟩
                  go_wp2_with fail
                  refine (l1In_b true _ _ _ E2.out _).mono ?_
                  rintro e w' ⟨rfl, rfl⟩
                  go_wp2_with fail
                  go_roundw
                  case rel => exact ⟨j + 1, by omega, by go_num, HYes.out HF.out, (B1 _).out⟩
                  case measure => simp [intOf]; omega
                · have e4 : (b == 0) = false := by simpa using c4
                  have e5 : (b != 0) = true := by simpa using c4
                  have HF := Lib.hid (HNo.out (show stepOk (i + j - 1) (3, a, b) = false by simp only [stepOk, e1, e2]; simp [c4]))
                  clear e1 e2 c1 c4
                  go_wp2_with fail
                  refine (l1In_b true _ _ _ E1.out _).mono ?_
                  rintro e w' ⟨rfl, rfl⟩
                  go_wp2_with fail
                  refine (l1In_b true _ _ _ E2.out _).mono ?_
                  rintro e w' ⟨rfl, rfl⟩
                  go_wp2_with fail
                  go_ret
                  exact ⟨by rw [HF.out]; rfl, (B1 _).out⟩
              · have e3 : (k == 3) = false := by simpa using c3
                have e3n : (k != 3) = true := by simpa using c3
                by_cases c4 : 0 ≤ b ∧ b ≤ i + j - 1
                · have e4 := dec2 c4
                  have E4 := Lib.hid e4
                  by_cases c5 : b = a
                  · subst c5
                    have HF := Lib.hid (HNo.out (show stepOk (i + j - 1) (k, b, b) = false by simp only [stepOk, e1, e4]; simp [c3]))
                    clear e1 e2 e4 c1 c2 c3 c4
                    go_wp2_with fail
                    refine (l1In_b true _ _ _ E1.out _).mono ?_
                    rintro e w' ⟨rfl, rfl⟩
                    go_wp2_with fail
                    refine (l1In_b true _ _ _ E2.out _).mono ?_
                    rintro e w' ⟨rfl, rfl⟩
                    go_wp2_with fail
                    refine (l1In_b true _ _ _ E4.out _).mono ?_
                    rintro e w' ⟨rfl, rfl⟩
                    go_wp2_with fail
                    go_ret
                    exact ⟨by rw [HF.out]; rfl, (B1 _).out⟩
                  · have e5 : (a == b) = false := by simp; omega
                    have HF := Lib.hid (show stepOk (i + j - 1) (k, a, b) = true by simp only [stepOk, e1, e2, e4]; simp [c3, c5])
                    clear e1 e2 e4 c1 c2 c3 c4 c5
                    go_wp2_with fail
                    refine (l1In_b true _ _ _ E1.out _).mono ?_
                    rintro e w' ⟨rfl, rfl⟩
                    go_wp2_with fail
                    refine (l1In_b true _ _ _ E2.out _).mono ?_
                    rintro e w' ⟨rfl, rfl⟩
                    go_wp2_with fail
                    refine (l1In_b true _ _ _ E4.out _).mono ?_
                    rintro e w' ⟨rfl, rfl⟩
                    go_wp2_with fail
                    go_roundw
                    case rel => exact ⟨j + 1, by omega, by go_num, HYes.out HF.out, (B1 _).out⟩
                    case measure => simp [intOf]; omega
                · have e4 := dec2n c4
                  have E4 := Lib.hid e4
                  have HF := Lib.hid (HNo.out (show stepOk (i + j - 1) (k, a, b) = false by simp only [stepOk, e1, e2, e4]; simp [c3]))
                  clear e1 e2 e4 c1 c2 c3 c4
                  go_wp2_with fail
                  refine (l1In_b true _ _ _ E1.out _).mono ?_
                  rintro e w' ⟨rfl, rfl⟩
                  go_wp2_with fail
                  refine (l1In_b true _ _ _ E2.out _).mono ?_
                  rintro e w' ⟨rfl, rfl⟩
                  go_wp2_with fail
                  refine (l1In_b false _ _ _ E4.out _).mono ?_
                  rintro e w' ⟨rfl, rfl⟩
                  go_wp2_with fail
                  go_ret
                  exact ⟨by rw [HF.out]; rfl, (B1 _).out⟩
            · have e2 := dec2n c2
              have E2 := Lib.hid e2
              have HF := Lib.hid (HNo.out (show stepOk (i + j - 1) (k, a, b) = false by simp only [stepOk, e1, e2]; simp))
              clear e1 e2 c1 c2
              go_wp2_with fail
              refine (l1In_b true _ _ _ E1.out _).mono ?_
              rintro e w' ⟨rfl, rfl⟩
              go_wp2_with fail
              refine (l1In_b false _ _ _ E2.out _).mono ?_
              rintro e w' ⟨rfl, rfl⟩
              go_wp2_with fail
              go_ret
              exact ⟨by rw [HF.out]; rfl, (B1 _).out⟩
          · have e1 := dec2n c1
            have E1 := Lib.hid e1
            have HF := Lib.hid (HNo.out (show stepOk (i + j - 1) (k, a, b) = false by simp only [stepOk, e1]; simp))
            clear e1 c1
            go_wp2_with fail
            refine (l1In_b false _ _ _ E1.out _).mono ?_
            rintro e w' ⟨rfl, rfl⟩
            go_wp2_with fail
            go_ret
            exact ⟨by rw [HF.out]; rfl, (B1 _).out⟩
        · obtain rfl : j = n := by omega
          have HQ := Lib.hid (show formQ i fs = true from formQ_iff.2 ⟨⟨hi1, hi2⟩, by rw [HLen.out]; exact ⟨hn1, hn2⟩, fun t ht => HA.out t (by rw [HLen.out] at ht; exact ht)⟩)
          go_wp2_with fail
          go_ret
          exact ⟨by rw [HQ.out]; rfl, HB.out⟩
    · have D1 := hide (dec2 hi)
      have D2 := hide (dec2n (x := (n : Int)) (l := 1) (h := 3) (by omega))
      have HQ := Lib.hid (formQ_no_l (i := i) (fs := fs) (by rw [HLen.out]; exact hn))
      clear hi hn
      go_enter Try.func23, Try.ntmps23
      go_wp2_with fail
      refine (l1In_b true _ _ _ D1.out _).mono ?_
      rintro e w' ⟨rfl, rfl⟩
      go_wp2_with fail
      refine (l1In_b false _ _ _ D2.out _).mono ?_
      rintro e w' ⟨rfl, rfl⟩
      go_wp2_with fail
      go_ret
      exact ⟨by rw [HQ.out]; rfl, Below.refl _ _⟩
  · have D1 := hide (dec2n hi)
    have HQ := Lib.hid (formQ_no_i (fs := fs) hi)
    clear hi
    go_enter Try.func23, Try.ntmps23
    go_wp2_with fail
    refine (l1In_b false _ _ _ D1.out _).mono ?_
    rintro e w' ⟨rfl, rfl⟩
    go_wp2_with fail
    go_ret
    exact ⟨by rw [HQ.out]; rfl, Below.refl _ _⟩
theorem sFormValid_b (q : Bool) (i : Int) (A : Option Addr) (n c : Nat) (fs : List S3) (hq : formQ i fs = q) (w : World) (h : SR w A n fs) :
    Calls Try.prog 23 #[.int .i64 i, .slice A n c] w fun e w' => e = .returned (.bool q) ∧ Below w.heap.size w w' := by subst hq; exact sFormValid_any i A n c fs w h
end Go.Proofs.Ytpklpebngholcaa
