/-
  FormBits, FormOut and FuncOf, by the program and by the reference.
  No condition.
-/
import Derived.Test.YtpklpebngholcaaFormOut
import Derived.Lib.MinMax
namespace Go.Proofs.Ytpklpebngholcaa
open Go.RowKit Go.Sort base
def formB (i : Int) (fs : List S3) (x : Int) : List Int := if formQ i fs && wv i x then (bitsN i.toNat x fs).drop i.toNat else []
def formOut (i : Int) (fs : List S3) (x : Int) : Int := if formQ i fs && wv i x then nth (formB i fs x) (fs.length - 1) else -1
theorem formB_len {i : Int} {fs : List S3} {x : Int} (h : formQ i fs = true) (hw : wv i x = true) : (formB i fs x).length = fs.length := by
  have hb := bitsN_len i.toNat x fs fs.length (Nat.le_refl _)
  rw [List.take_length] at hb
  rw [formB, h, hw, Bool.and_self, if_pos rfl, List.length_drop, hb]
  omega
theorem formB_no {i : Int} {fs : List S3} {x : Int} (h : formQ i fs = false) : formB i fs x = [] := by rw [formB, h, Bool.false_and, if_neg (by simp)]
theorem formB_no' {i : Int} {fs : List S3} {x : Int} (h : wv i x = false) : formB i fs x = [] := by rw [formB, h, Bool.and_false, if_neg (by simp)]
theorem formB_yes {I : Nat} {fs : List S3} {x : Int} (h : formQ (I : Int) fs = true) (hw : wv (I : Int) x = true) : formB (I : Int) fs x = (bitsN I x fs).drop I := by rw [formB, h, hw, Bool.and_self, if_pos rfl]; rfl
theorem wv_in {i x : Int} (h : wv i x = true) (hi : 1 ≤ i ∧ i ≤ 3) : 0 ≤ x ∧ x ≤ 1000 := by
  simp only [wv, Bool.and_eq_true, decide_eq_true_eq] at h
  have hp : pw i ≤ 8 := by
    obtain ⟨h1, h2⟩ := hi
    rcases (show i = 1 ∨ i = 2 ∨ i = 3 by omega) with rfl | rfl | rfl <;> decide
  omega
theorem RRead.nil (w w' : World) (hb : Below w.heap.size w w') : RRead w [] (.returned (.slice none 0 0)) w' := ⟨⟨none, 0, rfl, IR.nil _ _⟩, hb⟩
theorem RRead.nil0 (w w' : World) (hb : Below w.heap.size w w') : RRead w [] (.returned (.slice (some ⟨w'.heap.size, 0, none⟩) 0 0)) (w'.alloc (.cells #[] 3)) := ⟨⟨_, 0, rfl, IR.nil _ _⟩, hb.alloc hb.size _⟩
set_option maxHeartbeats 1000000 in
theorem formBits_any (i : Int) (A : Option Addr) (n c : Nat) (fs : List S3) (x : Int) (w : World) (h : SR w A n fs) :
    Calls Try.prog 38 #[.int .i64 i, .slice A n c, .int .i64 x] w (RRead w (formB i fs x)) := by
  have HR := hide h
  have HLen := Lib.hid h.len
  clear h
  cases hq : formQ i fs
  · have HE := Lib.hid (formB_no (x := x) hq)
    go_enter Try.func38, Try.ntmps38
    go_wp2_with fail
    refine (formValid_b false i _ _ _ fs hq _ HR.out).mono ?_
    rintro e w1 ⟨rfl, hb1⟩
    go_wp2_with fail
    go_ret
    exact (by rw [HE.out]; exact RRead.nil _ _ hb1)
  · cases hw : wv i x
    · have HE := Lib.hid (formB_no' (fs := fs) hw)
      have HQ := Lib.hid hq
      have HW := Lib.hid hw
      clear hq hw
      go_enter Try.func38, Try.ntmps38
      go_wp2_with fail
      refine (formValid_b true i _ _ _ fs HQ.out _ HR.out).mono ?_
      rintro e w1 ⟨rfl, hb1⟩
      go_wp2_with fail
      refine (wordValid_b false i x HW.out _).mono ?_
      rintro e w' ⟨rfl, rfl⟩
      go_wp2_with fail
      go_ret
      exact (by rw [HE.out]; exact RRead.nil _ _ hb1)
    · obtain ⟨⟨hi1, hi2⟩, hl, hs⟩ := formQ_iff.1 hq
      have hx := wv_in hw ⟨hi1, hi2⟩
      obtain ⟨I, rfl⟩ := Int.eq_ofNat_of_zero_le (show 0 ≤ i by omega)
      have HE := Lib.hid (formB_yes hq hw)
      have HQ := Lib.hid hq
      have HW := Lib.hid hw
      have HS := hide hs
      have hn : 1 ≤ n ∧ n ≤ 3 := by rw [HLen.out] at hl; exact hl
      clear hq hw hs hl
      go_enter Try.func38, Try.ntmps38
      go_wp2_with fail
      refine (formValid_b true _ _ _ _ fs HQ.out _ HR.out).mono ?_
      rintro e w1 ⟨rfl, hb1⟩
      have HR1 := hide (HR.out.below hb1)
      have B1 := hide hb1
      clear hb1
      go_wp2_with fail
      refine (wordValid_b true _ x HW.out _).mono ?_
      rintro e w' ⟨rfl, rfl⟩
      go_wp2_with fail
      refine (bitsFor_any I n _ _ fs x _ HR1.out (by omega) hn hx HS.out).mono ?_
      rintro e w2 ⟨⟨A2, c2, rfl, hr2⟩, hb2⟩
      have HDL := Lib.hid (show ((bitsN I x fs).drop I).length = n by have := bitsN_len I x fs fs.length (Nat.le_refl _); rw [List.take_length, HLen.out] at this; rw [List.length_drop, this]; omega)
      rw [HDL.out] at hr2
      rw [HDL.out]
      have R2 := hide hr2
      have B2 := hide (bseq B1.out hb2)
      clear hr2 hb2
      go_wp2_with fail
      go_ret
      exact ⟨⟨A2, c2, by rw [HE.out, HDL.out]; rfl, by rw [HE.out, HDL.out]; exact R2.out⟩, B2.out⟩
set_option maxHeartbeats 1000000 in
theorem sFormBits_any (i : Int) (A : Option Addr) (n c : Nat) (fs : List S3) (x : Int) (w : World) (h : SR w A n fs) :
    Calls Try.prog 29 #[.int .i64 i, .slice A n c, .int .i64 x] w (RRead w (formB i fs x)) := by
  have HR := hide h
  have HLen := Lib.hid h.len
  clear h
  cases hq : formQ i fs
  · have HE := Lib.hid (formB_no (x := x) hq)
    go_enter Try.func29, Try.ntmps29
    go_wp2_with fail
    refine (sFormValid_b false i _ _ _ fs hq _ HR.out).mono ?_
    rintro e w1 ⟨rfl, hb1⟩
    go_wp2_with fail
    go_ret
    exact (by rw [HE.out]; exact RRead.nil0 _ _ hb1)
  · cases hw : wv i x
    · have HE := Lib.hid (formB_no' (fs := fs) hw)
      have HQ := Lib.hid hq
      have HW := Lib.hid hw
      clear hq hw
      go_enter Try.func29, Try.ntmps29
      go_wp2_with fail
      refine (sFormValid_b true i _ _ _ fs HQ.out _ HR.out).mono ?_
      rintro e w1 ⟨rfl, hb1⟩
      go_wp2_with fail
      refine (sWordValid_b false i x HW.out _).mono ?_
      rintro e w' ⟨rfl, rfl⟩
      go_wp2_with fail
      go_ret
      exact (by rw [HE.out]; exact RRead.nil0 _ _ hb1)
    · obtain ⟨⟨hi1, hi2⟩, hl, hs⟩ := formQ_iff.1 hq
      have hx := wv_in hw ⟨hi1, hi2⟩
      obtain ⟨I, rfl⟩ := Int.eq_ofNat_of_zero_le (show 0 ≤ i by omega)
      have HE := Lib.hid (formB_yes hq hw)
      have HEL := Lib.hid (formB_len hq hw)
      have HQ := Lib.hid hq
      have HW := Lib.hid hw
      have HS := hide hs
      have hn : 1 ≤ n ∧ n ≤ 3 := by rw [HLen.out] at hl; exact hl
      clear hq hw hs hl
      go_enter Try.func29, Try.ntmps29
      go_wp2_with fail
      refine (sFormValid_b true _ _ _ _ fs HQ.out _ HR.out).mono ?_
      rintro e w1 ⟨rfl, hb1⟩
      have HR1 := hide (HR.out.below hb1)
      have B1 := hide hb1
      clear hb1
      go_wp2_with fail
      refine (sWordValid_b true _ x HW.out _).mono ?_
      rintro e w' ⟨rfl, rfl⟩
      go_wp2_with fail
      refine (l4Bits_any I n _ _ fs x _ HR1.out (by omega) hn hx HS.out).mono ?_
      rintro e w2 ⟨⟨v2, rfl, ho2⟩, hb2⟩
      have B2 := hide (bseq B1.out hb2)
      have HL2 := Lib.hid (show (bitsN I x fs).length = I + n by have := bitsN_len I x fs fs.length (Nat.le_refl _); rw [List.take_length, HLen.out] at this; exact this)
      rcases ho2.form with ⟨_, h0⟩ | ⟨g, cg, rfl, _, _, hcg, hcm⟩
      · rw [h0] at HL2; have := HL2.out; simp at this; omega
      · have HIR := hide ho2.reads
        rw [HL2.out] at hcg HIR ⊢
        have hsl := run_from g 0 (I + n) cg I (by omega) hcg
        simp only [Nat.zero_add, Nat.add_sub_cancel_left] at hsl
        have HD := hide (HIR.out.drop (show I < I + n by omega))
        simp only [Nat.zero_add, Nat.add_sub_cancel_left] at HD
        clear hb2 ho2
        go_wp2_with fail
        go_ret
        refine ⟨⟨some ⟨g, I, none⟩, cg - I, ?_, ?_⟩, B2.out⟩
        · rw [HEL.out, HLen.out]; rfl
        · rw [HEL.out, HLen.out, HE.out]; exact HD.out
set_option maxHeartbeats 1000000 in
theorem formOut_any (i : Int) (A : Option Addr) (n c : Nat) (fs : List S3) (x : Int) (w : World) (h : SR w A n fs) :
    Calls Try.prog 28 #[.int .i64 i, .slice A n c, .int .i64 x] w fun e w' => e = .returned (.int .i64 (formOut i fs x)) ∧ Below w.heap.size w w' := by
  have HR := hide h
  have HLen := Lib.hid h.len
  have hmax := h.max
  clear h
  cases hq : formQ i fs && wv i x
  · have HE := Lib.hid (show formOut i fs x = -1 by rw [formOut, hq, if_neg (by simp)])
    have HB := Lib.hid (show formB i fs x = [] by rw [formB, hq, if_neg (by simp)])
    clear hq
    go_enter Try.func28, Try.ntmps28
    go_wp2_with fail
    refine (formBits_any i _ _ _ fs x _ HR.out).mono ?_
    rintro e w1 ⟨⟨A1, c1, rfl, hr1⟩, hb1⟩
    rw [HB.out]
    go_wp2_with fail
    go_ret
    exact ⟨by rw [HE.out]; rfl, hb1⟩
  · have HE := Lib.hid (show formOut i fs x = nth (formB i fs x) (n - 1) by rw [formOut, hq, if_pos rfl, HLen.out])
    rw [Bool.and_eq_true] at hq
    have HL := Lib.hid (formB_len hq.1 hq.2)
    obtain ⟨_, ⟨hn1, hn2⟩, _⟩ := formQ_iff.1 hq.1
    rw [HLen.out] at hn1 hn2 HL
    clear hq
    go_enter Try.func28, Try.ntmps28
    go_wp2_with fail
    refine (formBits_any i _ _ _ fs x _ HR.out).mono ?_
    rintro e w1 ⟨⟨A1, c1, rfl, hr1⟩, hb1⟩
    rw [HL.out] at hr1
    rw [HL.out]
    obtain ⟨b, o, rfl, hbl, hcc⟩ := hr1.at_ (by omega)
    have c0 := hcc (n - 1) (by omega)
    have B1 := hide hb1
    have hj1 : ((n : Int) - 1).toNat = n - 1 := by omega
    have hj2 : (0 : Int) ≤ (n : Int) - 1 := by omega
    have hn0 : ((n : Int) == 0) = false := by simp; omega
    clear hcc hr1 hb1
    go_wp2_with fail
    go_ret
    exact ⟨by rw [HE.out]; rfl, B1.out⟩
set_option maxHeartbeats 1000000 in
theorem sFormOut_any (i : Int) (A : Option Addr) (n c : Nat) (fs : List S3) (x : Int) (w : World) (h : SR w A n fs) :
    Calls Try.prog 22 #[.int .i64 i, .slice A n c, .int .i64 x] w fun e w' => e = .returned (.int .i64 (formOut i fs x)) ∧ Below w.heap.size w w' := by
  have HR := hide h
  have HLen := Lib.hid h.len
  have hmax := h.max
  clear h
  cases hq : formQ i fs && wv i x
  · have HE := Lib.hid (show formOut i fs x = -1 by rw [formOut, hq, if_neg (by simp)])
    have HB := Lib.hid (show formB i fs x = [] by rw [formB, hq, if_neg (by simp)])
    clear hq
    go_enter Try.func22, Try.ntmps22
    go_wp2_with fail
    refine (sFormBits_any i _ _ _ fs x _ HR.out).mono ?_
    rintro e w1 ⟨⟨A1, c1, rfl, hr1⟩, hb1⟩
    rw [HB.out]
    go_wp2_with fail
    go_ret
    exact ⟨by rw [HE.out]; rfl, hb1⟩
  · have HE := Lib.hid (show formOut i fs x = nth (formB i fs x) (n - 1) by rw [formOut, hq, if_pos rfl, HLen.out])
    rw [Bool.and_eq_true] at hq
    have HL := Lib.hid (formB_len hq.1 hq.2)
    obtain ⟨_, ⟨hn1, hn2⟩, _⟩ := formQ_iff.1 hq.1
    rw [HLen.out] at hn1 hn2 HL
    clear hq
    go_enter Try.func22, Try.ntmps22
    go_wp2_with fail
    refine (sFormBits_any i _ _ _ fs x _ HR.out).mono ?_
    rintro e w1 ⟨⟨A1, c1, rfl, hr1⟩, hb1⟩
    rw [HL.out] at hr1
    rw [HL.out]
    obtain ⟨b, o, rfl, hbl, hcc⟩ := hr1.at_ (by omega)
    have c0 := hcc (n - 1) (by omega)
    have B1 := hide hb1
    have hj1 : ((n : Int) - 1).toNat = n - 1 := by omega
    have hj2 : (0 : Int) ≤ (n : Int) - 1 := by omega
    have hn0 : ((n : Int) == 0) = false := by simp; omega
    clear hcc hr1 hb1
    go_wp2_with fail
    go_ret
    exact ⟨by rw [HE.out]; rfl, B1.out⟩
/-- the function of a formula -/
def funcF (i : Int) (fs : List S3) : List Int := if formQ i fs then tab (2 ^ i.toNat) (fun k => formOut i fs k) else []
theorem funcF_no {i : Int} {fs : List S3} (h : formQ i fs = false) : funcF i fs = [] := by rw [funcF, h, if_neg (by simp)]
set_option maxHeartbeats 2000000 in
theorem funcOf_1 (A : Option Addr) (n c : Nat) (fs : List S3) (w : World) (h : SR w A n fs) (hq : formQ 1 fs = true) :
    Calls Try.prog 13 #[.int .i64 1, .slice A n c] w (RInts w (funcF 1 fs)) := by
  have HR := hide h
  have HF := Lib.hid (show funcF 1 fs = tab 2 (fun k => formOut 1 fs k) by rw [funcF, hq, if_pos rfl]; rfl)
  have HQ := Lib.hid hq
  clear h hq
  go_enter Try.func13, Try.ntmps13
  go_wp2_with fail
  refine (formValid_b true _ _ _ _ fs HQ.out _ HR.out).mono ?_
  rintro e w1 ⟨rfl, hb1⟩
  have B0 := hide hb1
  have hs1 := hb1.size
  clear hb1
  go_wp2_with (at_make; refine wpList_make0_ints w.heap.size 2 rfl _ _ rfl rfl _ rfl (by omega) (by omega) hs1 ?_; intro w2 ho2 hb2 _; have O2 := hide ho2; have B2 := hide (B0.out.trans (hb2.mono (by omega))); clear ho2 hb2)
  go_loopw [5, 16] (fun vv iv wr => ∃ (j : Nat) (v : Value), j ≤ 2 ∧ iv = .int .i64 j ∧ v = vv ∧ Hid (Own wr w.heap.size v (tab j fun k => formOut 1 fs k)) ∧ Hid (Below w.heap.size w wr)) (fun _ iv _ => 2 - (intOf iv).toNat)
  case atStart => exact ⟨0, _, by omega, rfl, rfl, O2, B2⟩
  case round =>
    obtain ⟨j, v, hj, rfl, rfl, HO, HB⟩ := hrel
    by_cases hlt : j < 2
    · have HRj := hide (HR.out.below HB.out)
      have HT := Lib.hid (show (tab (j + 1) fun k => formOut 1 fs k) = (tab j fun k => formOut 1 fs k) ++ [formOut 1 fs (j : Nat)] by rw [tab_succ])
      go_wp2_with fail
      refine (formOut_any 1 _ _ _ fs (j : Nat) _ HRj.out).mono ?_
      rintro e w3 ⟨rfl, hb3⟩
      have O3 := hide (HO.out.below hb3)
      have B3 := hide (bseq HB.out hb3)
      have hs3 := B3.out.size
      clear hb3
      obtain ⟨z, hz⟩ : ∃ z, formOut 1 fs (j : Nat) = z := ⟨_, rfl⟩
      rw [hz] at HT
      rw [hz]
      clear hz
      go_wp2_with (at_builtin; refine wpList_append1 (x := z) O3.out (.tmp 19) (.tmp 24) (by rfl) rfl rfl rfl (by rw [tab_len]; omega) hs3 ?_; intro v4 w4 ho4 hb4 hg4 _; have O4 := hide (show Own w4 w.heap.size v4 (tab (j + 1) fun k => formOut 1 fs k) by rw [HT.out]; exact ho4); have B4 := hide (B3.out.grown hg4 hs3 (fun k hk => (O3.out.lt k hk).1)); clear ho4 hb4 hg4)
      go_roundw
      case rel => exact ⟨j + 1, v4, by omega, by go_num, rfl, O4, B4⟩
      case measure => simp [intOf]; omega
    · obtain rfl : j = 2 := by omega
      go_wp2_with fail
      go_ret
      exact ⟨⟨_, rfl, by rw [HF.out]; exact HO.out⟩, HB.out⟩
set_option maxHeartbeats 2000000 in
theorem sFuncOf_1 (A : Option Addr) (n c : Nat) (fs : List S3) (w : World) (h : SR w A n fs) (hq : formQ 1 fs = true) :
    Calls Try.prog 12 #[.int .i64 1, .slice A n c] w (RInts w (funcF 1 fs)) := by
  have HR := hide h
  have HF := Lib.hid (show funcF 1 fs = tab 2 (fun k => formOut 1 fs k) by rw [funcF, hq, if_pos rfl]; rfl)
  have HQ := Lib.hid hq
  have O2 := hide (Own.nil0 w w.heap.size (Nat.le_refl _))
  have B2 := hide (show Below w.heap.size w (w.alloc (.cells #[] 3)) by go_grown)
  have hw : wrap64 ((2 : Int) ^ (min (max (1 : Int) 0) 3).toNat) = 2 := by decide +kernel
  clear h hq
  go_enter Try.func12, Try.ntmps12
  go_wp2_with fail
  go_loopw [5, 6] (fun vv iv wr => ∃ (j : Nat) (v : Value), j ≤ 2 ∧ iv = .int .i64 j ∧ v = vv ∧ Hid (Own wr w.heap.size v (tab j fun k => formOut 1 fs k)) ∧ Hid (Below w.heap.size w wr)) (fun _ iv _ => 2 - (intOf iv).toNat)
  case atStart => exact ⟨0, _, by omega, rfl, rfl, O2, B2⟩
  case round =>
    obtain ⟨j, v, hj, rfl, rfl, HO, HB⟩ := hrel
    by_cases hlt : j < 2
    · have HRj := hide (HR.out.below HB.out)
      have HT := Lib.hid (show (tab (j + 1) fun k => formOut 1 fs k) = (tab j fun k => formOut 1 fs k) ++ [formOut 1 fs (j : Nat)] by rw [tab_succ])
      go_wp2_with fail
      refine (sFormValid_b true _ _ _ _ fs HQ.out _ HRj.out).mono ?_
      rintro e w9 ⟨rfl, hb9⟩
      have O9 := hide (HO.out.below hb9)
      have B9 := hide (bseq HB.out hb9)
      have HR9 := hide (HRj.out.below hb9)
      clear hb9
      go_wp2_with fail
      refine (sFormOut_any 1 _ _ _ fs (j : Nat) _ HR9.out).mono ?_
      rintro e w3 ⟨rfl, hb3⟩
      have O3 := hide (O9.out.below hb3)
      have B3 := hide (bseq B9.out hb3)
      have hs3 := B3.out.size
      clear hb3
      obtain ⟨z, hz⟩ : ∃ z, formOut 1 fs (j : Nat) = z := ⟨_, rfl⟩
      rw [hz] at HT
      rw [hz]
      clear hz
      go_wp2_with (at_builtin; refine wpList_append1 (x := z) O3.out (.tmp 21) (.tmp 26) (by rfl) rfl rfl rfl (by rw [tab_len]; omega) hs3 ?_; intro v4 w4 ho4 hb4 hg4 _; have O4 := hide (show Own w4 w.heap.size v4 (tab (j + 1) fun k => formOut 1 fs k) by rw [HT.out]; exact ho4); have B4 := hide (B3.out.grown hg4 hs3 (fun k hk => (O3.out.lt k hk).1)); clear ho4 hb4 hg4)
      go_roundw
      case rel => exact ⟨j + 1, v4, by omega, by go_num, rfl, O4, B4⟩
      case measure => simp [intOf]; omega
    · obtain rfl : j = 2 := by omega
      go_wp2_with fail
      go_ret
      exact ⟨⟨_, rfl, by rw [HF.out]; exact HO.out⟩, HB.out⟩
set_option maxHeartbeats 2000000 in
theorem funcOf_2 (A : Option Addr) (n c : Nat) (fs : List S3) (w : World) (h : SR w A n fs) (hq : formQ 2 fs = true) :
    Calls Try.prog 13 #[.int .i64 2, .slice A n c] w (RInts w (funcF 2 fs)) := by
  have HR := hide h
  have HF := Lib.hid (show funcF 2 fs = tab 4 (fun k => formOut 2 fs k) by rw [funcF, hq, if_pos rfl]; rfl)
  have HQ := Lib.hid hq
  clear h hq
  go_enter Try.func13, Try.ntmps13
  go_wp2_with fail
  refine (formValid_b true _ _ _ _ fs HQ.out _ HR.out).mono ?_
  rintro e w1 ⟨rfl, hb1⟩
  have B0 := hide hb1
  have hs1 := hb1.size
  clear hb1
  go_wp2_with (at_make; refine wpList_make0_ints w.heap.size 4 rfl _ _ rfl rfl _ rfl (by omega) (by omega) hs1 ?_; intro w2 ho2 hb2 _; have O2 := hide ho2; have B2 := hide (B0.out.trans (hb2.mono (by omega))); clear ho2 hb2)
  go_loopw [5, 16] (fun vv iv wr => ∃ (j : Nat) (v : Value), j ≤ 4 ∧ iv = .int .i64 j ∧ v = vv ∧ Hid (Own wr w.heap.size v (tab j fun k => formOut 2 fs k)) ∧ Hid (Below w.heap.size w wr)) (fun _ iv _ => 4 - (intOf iv).toNat)
  case atStart => exact ⟨0, _, by omega, rfl, rfl, O2, B2⟩
  case round =>
    obtain ⟨j, v, hj, rfl, rfl, HO, HB⟩ := hrel
    by_cases hlt : j < 4
    · have HRj := hide (HR.out.below HB.out)
      have HT := Lib.hid (show (tab (j + 1) fun k => formOut 2 fs k) = (tab j fun k => formOut 2 fs k) ++ [formOut 2 fs (j : Nat)] by rw [tab_succ])
      go_wp2_with fail
      refine (formOut_any 2 _ _ _ fs (j : Nat) _ HRj.out).mono ?_
      rintro e w3 ⟨rfl, hb3⟩
      have O3 := hide (HO.out.below hb3)
      have B3 := hide (bseq HB.out hb3)
      have hs3 := B3.out.size
      clear hb3
      obtain ⟨z, hz⟩ : ∃ z, formOut 2 fs (j : Nat) = z := ⟨_, rfl⟩
      rw [hz] at HT
      rw [hz]
      clear hz
      go_wp2_with (at_builtin; refine wpList_append1 (x := z) O3.out (.tmp 19) (.tmp 24) (by rfl) rfl rfl rfl (by rw [tab_len]; omega) hs3 ?_; intro v4 w4 ho4 hb4 hg4 _; have O4 := hide (show Own w4 w.heap.size v4 (tab (j + 1) fun k => formOut 2 fs k) by rw [HT.out]; exact ho4); have B4 := hide (B3.out.grown hg4 hs3 (fun k hk => (O3.out.lt k hk).1)); clear ho4 hb4 hg4)
      go_roundw
      case rel => exact ⟨j + 1, v4, by omega, by go_num, rfl, O4, B4⟩
      case measure => simp [intOf]; omega
    · obtain rfl : j = 4 := by omega
      go_wp2_with fail
      go_ret
      exact ⟨⟨_, rfl, by rw [HF.out]; exact HO.out⟩, HB.out⟩
set_option maxHeartbeats 2000000 in
theorem sFuncOf_2 (A : Option Addr) (n c : Nat) (fs : List S3) (w : World) (h : SR w A n fs) (hq : formQ 2 fs = true) :
    Calls Try.prog 12 #[.int .i64 2, .slice A n c] w (RInts w (funcF 2 fs)) := by
  have HR := hide h
  have HF := Lib.hid (show funcF 2 fs = tab 4 (fun k => formOut 2 fs k) by rw [funcF, hq, if_pos rfl]; rfl)
  have HQ := Lib.hid hq
  have O2 := hide (Own.nil0 w w.heap.size (Nat.le_refl _))
  have B2 := hide (show Below w.heap.size w (w.alloc (.cells #[] 3)) by go_grown)
  have hw : wrap64 ((2 : Int) ^ (min (max (2 : Int) 0) 3).toNat) = 4 := by decide +kernel
  clear h hq
  go_enter Try.func12, Try.ntmps12
  go_wp2_with fail
  go_loopw [5, 6] (fun vv iv wr => ∃ (j : Nat) (v : Value), j ≤ 4 ∧ iv = .int .i64 j ∧ v = vv ∧ Hid (Own wr w.heap.size v (tab j fun k => formOut 2 fs k)) ∧ Hid (Below w.heap.size w wr)) (fun _ iv _ => 4 - (intOf iv).toNat)
  case atStart => exact ⟨0, _, by omega, rfl, rfl, O2, B2⟩
  case round =>
    obtain ⟨j, v, hj, rfl, rfl, HO, HB⟩ := hrel
    by_cases hlt : j < 4
    · have HRj := hide (HR.out.below HB.out)
      have HT := Lib.hid (show (tab (j + 1) fun k => formOut 2 fs k) = (tab j fun k => formOut 2 fs k) ++ [formOut 2 fs (j : Nat)] by rw [tab_succ])
      go_wp2_with fail
      refine (sFormValid_b true _ _ _ _ fs HQ.out _ HRj.out).mono ?_
      rintro e w9 ⟨rfl, hb9⟩
      have O9 := hide (HO.out.below hb9)
      have B9 := hide (bseq HB.out hb9)
      have HR9 := hide (HRj.out.below hb9)
      clear hb9
      go_wp2_with fail
      refine (sFormOut_any 2 _ _ _ fs (j : Nat) _ HR9.out).mono ?_
      rintro e w3 ⟨rfl, hb3⟩
      have O3 := hide (O9.out.below hb3)
      have B3 := hide (bseq B9.out hb3)
      have hs3 := B3.out.size
      clear hb3
      obtain ⟨z, hz⟩ : ∃ z, formOut 2 fs (j : Nat) = z := ⟨_, rfl⟩
      rw [hz] at HT
      rw [hz]
      clear hz
      go_wp2_with (at_builtin; refine wpList_append1 (x := z) O3.out (.tmp 21) (.tmp 26) (by rfl) rfl rfl rfl (by rw [tab_len]; omega) hs3 ?_; intro v4 w4 ho4 hb4 hg4 _; have O4 := hide (show Own w4 w.heap.size v4 (tab (j + 1) fun k => formOut 2 fs k) by rw [HT.out]; exact ho4); have B4 := hide (B3.out.grown hg4 hs3 (fun k hk => (O3.out.lt k hk).1)); clear ho4 hb4 hg4)
      go_roundw
      case rel => exact ⟨j + 1, v4, by omega, by go_num, rfl, O4, B4⟩
      case measure => simp [intOf]; omega
    · obtain rfl : j = 4 := by omega
      go_wp2_with fail
      go_ret
      exact ⟨⟨_, rfl, by rw [HF.out]; exact HO.out⟩, HB.out⟩
set_option maxHeartbeats 2000000 in
theorem funcOf_3 (A : Option Addr) (n c : Nat) (fs : List S3) (w : World) (h : SR w A n fs) (hq : formQ 3 fs = true) :
    Calls Try.prog 13 #[.int .i64 3, .slice A n c] w (RInts w (funcF 3 fs)) := by
  have HR := hide h
  have HF := Lib.hid (show funcF 3 fs = tab 8 (fun k => formOut 3 fs k) by rw [funcF, hq, if_pos rfl]; rfl)
  have HQ := Lib.hid hq
  clear h hq
  go_enter Try.func13, Try.ntmps13
  go_wp2_with fail
  refine (formValid_b true _ _ _ _ fs HQ.out _ HR.out).mono ?_
  rintro e w1 ⟨rfl, hb1⟩
  have B0 := hide hb1
  have hs1 := hb1.size
  clear hb1
  go_wp2_with (at_make; refine wpList_make0_ints w.heap.size 8 rfl _ _ rfl rfl _ rfl (by omega) (by omega) hs1 ?_; intro w2 ho2 hb2 _; have O2 := hide ho2; have B2 := hide (B0.out.trans (hb2.mono (by omega))); clear ho2 hb2)
  go_loopw [5, 16] (fun vv iv wr => ∃ (j : Nat) (v : Value), j ≤ 8 ∧ iv = .int .i64 j ∧ v = vv ∧ Hid (Own wr w.heap.size v (tab j fun k => formOut 3 fs k)) ∧ Hid (Below w.heap.size w wr)) (fun _ iv _ => 8 - (intOf iv).toNat)
  case atStart => exact ⟨0, _, by omega, rfl, rfl, O2, B2⟩
  case round =>
    obtain ⟨j, v, hj, rfl, rfl, HO, HB⟩ := hrel
    by_cases hlt : j < 8
    · have HRj := hide (HR.out.below HB.out)
      have HT := Lib.hid (show (tab (j + 1) fun k => formOut 3 fs k) = (tab j fun k => formOut 3 fs k) ++ [formOut 3 fs (j : Nat)] by rw [tab_succ])
      go_wp2_with fail
      refine (formOut_any 3 _ _ _ fs (j : Nat) _ HRj.out).mono ?_
      rintro e w3 ⟨rfl, hb3⟩
      have O3 := hide (HO.out.below hb3)
      have B3 := hide (bseq HB.out hb3)
      have hs3 := B3.out.size
      clear hb3
      obtain ⟨z, hz⟩ : ∃ z, formOut 3 fs (j : Nat) = z := ⟨_, rfl⟩
      rw [hz] at HT
      rw [hz]
      clear hz
      go_wp2_with (at_builtin; refine wpList_append1 (x := z) O3.out (.tmp 19) (.tmp 24) (by rfl) rfl rfl rfl (by rw [tab_len]; omega) hs3 ?_; intro v4 w4 ho4 hb4 hg4 _; have O4 := hide (show Own w4 w.heap.size v4 (tab (j + 1) fun k => formOut 3 fs k) by rw [HT.out]; exact ho4); have B4 := hide (B3.out.grown hg4 hs3 (fun k hk => (O3.out.lt k hk).1)); clear ho4 hb4 hg4)
      go_roundw
      case rel => exact ⟨j + 1, v4, by omega, by go_num, rfl, O4, B4⟩
      case measure => simp [intOf]; omega
    · obtain rfl : j = 8 := by omega
      go_wp2_with fail
      go_ret
      exact ⟨⟨_, rfl, by rw [HF.out]; exact HO.out⟩, HB.out⟩
set_option maxHeartbeats 2000000 in
theorem sFuncOf_3 (A : Option Addr) (n c : Nat) (fs : List S3) (w : World) (h : SR w A n fs) (hq : formQ 3 fs = true) :
    Calls Try.prog 12 #[.int .i64 3, .slice A n c] w (RInts w (funcF 3 fs)) := by
  have HR := hide h
  have HF := Lib.hid (show funcF 3 fs = tab 8 (fun k => formOut 3 fs k) by rw [funcF, hq, if_pos rfl]; rfl)
  have HQ := Lib.hid hq
  have O2 := hide (Own.nil0 w w.heap.size (Nat.le_refl _))
  have B2 := hide (show Below w.heap.size w (w.alloc (.cells #[] 3)) by go_grown)
  have hw : wrap64 ((2 : Int) ^ (min (max (3 : Int) 0) 3).toNat) = 8 := by decide +kernel
  clear h hq
  go_enter Try.func12, Try.ntmps12
  go_wp2_with fail
  go_loopw [5, 6] (fun vv iv wr => ∃ (j : Nat) (v : Value), j ≤ 8 ∧ iv = .int .i64 j ∧ v = vv ∧ Hid (Own wr w.heap.size v (tab j fun k => formOut 3 fs k)) ∧ Hid (Below w.heap.size w wr)) (fun _ iv _ => 8 - (intOf iv).toNat)
  case atStart => exact ⟨0, _, by omega, rfl, rfl, O2, B2⟩
  case round =>
    obtain ⟨j, v, hj, rfl, rfl, HO, HB⟩ := hrel
    by_cases hlt : j < 8
    · have HRj := hide (HR.out.below HB.out)
      have HT := Lib.hid (show (tab (j + 1) fun k => formOut 3 fs k) = (tab j fun k => formOut 3 fs k) ++ [formOut 3 fs (j : Nat)] by rw [tab_succ])
      go_wp2_with fail
      refine (sFormValid_b true _ _ _ _ fs HQ.out _ HRj.out).mono ?_
      rintro e w9 ⟨rfl, hb9⟩
      have O9 := hide (HO.out.below hb9)
      have B9 := hide (bseq HB.out hb9)
      have HR9 := hide (HRj.out.below hb9)
      clear hb9
      go_wp2_with fail
      refine (sFormOut_any 3 _ _ _ fs (j : Nat) _ HR9.out).mono ?_
      rintro e w3 ⟨rfl, hb3⟩
      have O3 := hide (O9.out.below hb3)
      have B3 := hide (bseq B9.out hb3)
      have hs3 := B3.out.size
      clear hb3
      obtain ⟨z, hz⟩ : ∃ z, formOut 3 fs (j : Nat) = z := ⟨_, rfl⟩
      rw [hz] at HT
      rw [hz]
      clear hz
      go_wp2_with (at_builtin; refine wpList_append1 (x := z) O3.out (.tmp 21) (.tmp 26) (by rfl) rfl rfl rfl (by rw [tab_len]; omega) hs3 ?_; intro v4 w4 ho4 hb4 hg4 _; have O4 := hide (show Own w4 w.heap.size v4 (tab (j + 1) fun k => formOut 3 fs k) by rw [HT.out]; exact ho4); have B4 := hide (B3.out.grown hg4 hs3 (fun k hk => (O3.out.lt k hk).1)); clear ho4 hb4 hg4)
      go_roundw
      case rel => exact ⟨j + 1, v4, by omega, by go_num, rfl, O4, B4⟩
      case measure => simp [intOf]; omega
    · obtain rfl : j = 8 := by omega
      go_wp2_with fail
      go_ret
      exact ⟨⟨_, rfl, by rw [HF.out]; exact HO.out⟩, HB.out⟩
theorem formQ_cases {i : Int} {fs : List S3} (h : formQ i fs = true) : i = 1 ∨ i = 2 ∨ i = 3 := by
  have := (formQ_iff.1 h).1; omega
set_option maxHeartbeats 1000000 in
theorem funcOf_any (i : Int) (A : Option Addr) (n c : Nat) (fs : List S3) (w : World) (h : SR w A n fs) :
    Calls Try.prog 13 #[.int .i64 i, .slice A n c] w (RInts w (funcF i fs)) := by
  cases hq : formQ i fs
  · have HE := Lib.hid (funcF_no hq)
    have HR := hide h
    have HQ := Lib.hid hq
    clear h hq
    go_enter Try.func13, Try.ntmps13
    go_wp2_with fail
    refine (formValid_b false _ _ _ _ fs HQ.out _ HR.out).mono ?_
    rintro e w1 ⟨rfl, hb1⟩
    go_wp2_with fail
    go_ret
    exact ⟨⟨_, rfl, by rw [HE.out]; exact Own.nil_ _ _⟩, hb1⟩
  · rcases formQ_cases hq with rfl | rfl | rfl
    · exact funcOf_1 A n c fs w h hq
    · exact funcOf_2 A n c fs w h hq
    · exact funcOf_3 A n c fs w h hq
set_option maxHeartbeats 1000000 in
theorem sFuncOf_any (i : Int) (A : Option Addr) (n c : Nat) (fs : List S3) (w : World) (h : SR w A n fs) :
    Calls Try.prog 12 #[.int .i64 i, .slice A n c] w (RInts w (funcF i fs)) := by
  cases hq : formQ i fs
  · have HE := Lib.hid (funcF_no hq)
    have HR := hide h
    have HQ := Lib.hid hq
    have O2 := hide (Own.nil0 w w.heap.size (Nat.le_refl _))
    have B2 := hide (show Below w.heap.size w (w.alloc (.cells #[] 3)) by go_grown)
    clear h hq
    obtain ⟨W, hW⟩ : ∃ W, wrap64 ((2 : Int) ^ (min (max i 0) 3).toNat) = W := ⟨_, rfl⟩
    have hW0 : 0 < W := by
      rw [← hW]
      obtain ⟨t, ht⟩ : ∃ t, (min (max i 0) 3).toNat = t := ⟨_, rfl⟩
      rw [ht]
      rcases (show t = 0 ∨ t = 1 ∨ t = 2 ∨ t = 3 by omega) with rfl | rfl | rfl | rfl <;> decide +kernel
    have hq0 : 0 ≤ min (max i 0) 3 := by omega
    have hq3 : min (max i 0) 3 ≤ 3 := by omega
    go_enter Try.func12, Try.ntmps12
    go_wp2_with fail
    go_loopw [5, 6] (fun vv iv wr => iv = .int .i64 0 ∧ vv = .slice (some ⟨w.heap.size, 0, none⟩) 0 0 ∧ wr = w.alloc (.cells #[] 3)) (fun _ _ _ => 0)
    case atStart => exact ⟨rfl, rfl, rfl⟩
    case round =>
      obtain ⟨rfl, rfl, rfl⟩ := hrel
      have HR2 := hide (HR.out.below B2.out)
      go_wp2_with fail
      refine (sFormValid_b false _ _ _ _ fs HQ.out _ HR2.out).mono ?_
      rintro e w1 ⟨rfl, hb1⟩
      have O3 := hide (O2.out.below hb1)
      have B3 := hide (bseq B2.out hb1)
      clear hb1
      go_wp2_with fail
      go_ret
      exact ⟨⟨_, rfl, by rw [HE.out]; exact O3.out⟩, B3.out⟩
  · rcases formQ_cases hq with rfl | rfl | rfl
    · exact sFuncOf_1 A n c fs w h hq
    · exact sFuncOf_2 A n c fs w h hq
    · exact sFuncOf_3 A n c fs w h hq
end Go.Proofs.Ytpklpebngholcaa
