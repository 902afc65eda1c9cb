/-
  Whether two formulas are the same for every word, by the program and by the reference.
  No condition.
-/
import Derived.Test.YtpklpebngholcaaFuncOf
namespace Go.Proofs.Ytpklpebngholcaa
open Go.RowKit Go.Sort base
def sameF (i : Int) (a b : List S3) : Bool := formQ i a && formQ i b && (funcF i a == funcF i b)
theorem sameF_no {i : Int} {a b : List S3} {k : Nat} (ha : formQ i a = true) (hk : k < 2 ^ i.toNat) (h : ¬ formOut i a k = formOut i b k) : sameF i a b = false := by
  cases hb : formQ i b
  · simp [sameF, hb]
  · have : (funcF i a == funcF i b) = false := by
      refine ne_of_nth (k := k) ?_
      rw [funcF, funcF, ha, hb, if_pos rfl, if_pos rfl, tab_nth hk, tab_nth hk]
      exact h
    simp [sameF, this]
theorem sameF_yes {i : Int} {a b : List S3} (ha : formQ i a = true) (hb : formQ i b = true) (h : ∀ k : Nat, k < 2 ^ i.toNat → formOut i a k = formOut i b k) : sameF i a b = true := by
  have : funcF i a = funcF i b := by
    rw [funcF, funcF, ha, hb, if_pos rfl, if_pos rfl]
    exact tab_eq h
  simp [sameF, ha, hb, this]
theorem pow_of_form {i : Int} {fs : List S3} (h : formQ i fs = true) : wrap64 ((2 : Int) ^ (min (max i 0) 3).toNat) = ((2 ^ i.toNat : Nat) : Int) := by
  rcases formQ_cases h with rfl | rfl | rfl <;> decide +kernel
set_option maxHeartbeats 2000000 in
theorem sameForm_any (i : Int) (A B : Option Addr) (n c m d : Nat) (a b : List S3) (w : World) (ha : SR w A n a) (hb : SR w B m b) :
    Calls Try.prog 10 #[.int .i64 i, .slice A n c, .slice B m d] w fun e w' => e = .returned (.bool (sameF i a b)) ∧ Below w.heap.size w w' := by
  have HA := hide ha
  have HB := hide hb
  clear ha hb
  cases qa : formQ i a
  · have HE := Lib.hid (show sameF i a b = false by simp [sameF, qa])
    have QA := Lib.hid qa
    clear qa
    go_enter Try.func10, Try.ntmps10
    go_wp2_with fail
    refine (formValid_b false i _ _ _ a QA.out _ HA.out).mono ?_
    rintro e w1 ⟨rfl, hb1⟩
    go_wp2_with fail
    go_ret
    exact ⟨by rw [HE.out]; rfl, hb1⟩
  · cases qb : formQ i b
    · have HE := Lib.hid (show sameF i a b = false by simp [sameF, qb])
      have QA := Lib.hid qa
      have QB := Lib.hid qb
      clear qa qb
      go_enter Try.func10, Try.ntmps10
      go_wp2_with fail
      refine (formValid_b true i _ _ _ a QA.out _ HA.out).mono ?_
      rintro e w1 ⟨rfl, hb1⟩
      have B1 := hide hb1
      have HB1 := hide (HB.out.below hb1)
      clear hb1
      go_wp2_with fail
      refine (formValid_b false i _ _ _ b QB.out _ HB1.out).mono ?_
      rintro e w2 ⟨rfl, hb2⟩
      go_wp2_with fail
      go_ret
      exact ⟨by rw [HE.out]; rfl, bseq B1.out hb2⟩
    · have HE := Lib.hid (show sameF i a b = (funcF i a == funcF i b) by simp [sameF, qa, qb])
      have QA := Lib.hid qa
      have QB := Lib.hid qb
      clear qa qb
      go_enter Try.func10, Try.ntmps10
      go_wp2_with fail
      refine (formValid_b true i _ _ _ a QA.out _ HA.out).mono ?_
      rintro e w1 ⟨rfl, hb1⟩
      have B1 := hide hb1
      have HA1 := hide (HA.out.below hb1)
      have HB1 := hide (HB.out.below hb1)
      clear hb1
      go_wp2_with fail
      refine (formValid_b true i _ _ _ b QB.out _ HB1.out).mono ?_
      rintro e w2 ⟨rfl, hb2⟩
      have B2 := hide (bseq B1.out hb2)
      have HA2 := hide (HA1.out.below hb2)
      have HB2 := hide (HB1.out.below hb2)
      clear hb2
      go_wp2_with fail
      refine (funcOf_any i _ _ _ a _ HA2.out).mono ?_
      rintro e w3 ⟨⟨v3, rfl, o3⟩, hb3⟩
      have B3 := hide (bseq B2.out hb3)
      have HB3 := hide (HB2.out.below hb3)
      obtain ⟨A3, n3, c3, rfl, r3⟩ := o3.slice'
      have R3 := hide r3
      clear hb3 o3 r3
      go_wp2_with fail
      refine (funcOf_any i _ _ _ b _ HB3.out).mono ?_
      rintro e w4 ⟨⟨v4, rfl, o4⟩, hb4⟩
      have B4 := hide (bseq B3.out hb4)
      have R3b := hide (R3.out.below hb4)
      obtain ⟨A4, n4, c4, rfl, r4⟩ := o4.slice'
      have R4 := hide r4
      clear hb4 o4 r4
      go_wp2_with fail
      refine (equal_any _ _ _ _ _ _ _ _ _ R3b.out R4.out).mono ?_
      rintro e w5 ⟨rfl, q5, hq5⟩
      have B5 := hide (bseq B4.out (show Below w4.heap.size w4 w5 by rw [hq5]; exact below_drewN (Below.refl _ _) _))
      clear hq5
      go_wp2_with fail
      go_ret
      exact ⟨by rw [HE.out]; rfl, B5.out⟩
set_option maxHeartbeats 2000000 in
theorem sSameForm_any (i : Int) (A B : Option Addr) (n c m d : Nat) (a b : List S3) (w : World) (ha : SR w A n a) (hb : SR w B m b) :
    Calls Try.prog 8 #[.int .i64 i, .slice A n c, .slice B m d] w fun e w' => e = .returned (.bool (sameF i a b)) ∧ Below w.heap.size w w' := by
  have HA := hide ha
  have HB := hide hb
  clear ha hb
  obtain ⟨P, hP, hP8, hP1⟩ : ∃ P : Nat, wrap64 ((2 : Int) ^ (min (max i 0) 3).toNat) = P ∧ P ≤ 8 ∧ 1 ≤ P := by
    obtain ⟨t, ht⟩ : ∃ t, (min (max i 0) 3).toNat = t := ⟨_, rfl⟩
    rw [ht]
    rcases (show t = 0 ∨ t = 1 ∨ t = 2 ∨ t = 3 by omega) with rfl | rfl | rfl | rfl
    · exact ⟨1, by decide +kernel, by omega, by omega⟩
    · exact ⟨2, by decide +kernel, by omega, by omega⟩
    · exact ⟨4, by decide +kernel, by omega, by omega⟩
    · exact ⟨8, by decide +kernel, by omega, by omega⟩
  have HPa := hide (show formQ i a = true → P = 2 ^ i.toNat from fun h => by have := pow_of_form h; omega)
  have hq0 : 0 ≤ min (max i 0) 3 := by omega
  have hq3 : min (max i 0) 3 ≤ 3 := by omega
  go_enter Try.func8, Try.ntmps8
  go_wp2_with fail
  go_loopw [7] (fun iv wr => ∃ j : Nat, j ≤ P ∧ iv = .int .i64 j ∧ Hid (∀ t : Nat, t < j → formOut i a t = formOut i b t) ∧ Hid (Below w.heap.size w wr)) (fun iv _ => P - (intOf iv).toNat)
  case atStart => exact ⟨0, by omega, rfl, fun t ht => absurd ht (by omega), Below.refl _ _⟩
  case round =>
    obtain ⟨j, hj, rfl, HS, HW⟩ := hrel
    have HAj := hide (HA.out.below HW.out)
    have HBj := hide (HB.out.below HW.out)
    by_cases hlt : j < P
    · obtain ⟨x, hx⟩ : ∃ x, formOut i a (j : Nat) = x := ⟨_, rfl⟩
      obtain ⟨y, hy⟩ : ∃ y, formOut i b (j : Nat) = y := ⟨_, rfl⟩
      have HX := Lib.hid hx
      have HY := Lib.hid hy
      clear hx hy
      go_wp2_with fail
      refine (sFormOut_any i _ _ _ a (j : Nat) _ HAj.out).mono ?_
      rintro e w1 ⟨rfl, hb1⟩
      have HBk := hide (HBj.out.below hb1)
      have B1 := hide (bseq HW.out hb1)
      clear hb1
      rw [HX.out]
      go_wp2_with fail
      refine (sFormOut_any i _ _ _ b (j : Nat) _ HBk.out).mono ?_
      rintro e w2 ⟨rfl, hb2⟩
      have B2 := hide (bseq B1.out hb2)
      clear hb2
      rw [HY.out]
      by_cases hxy : x = y
      · have e1 : (x == y) = true := by simpa using hxy
        have e2 : (x != y) = false := by simpa using hxy
        have HXY := Lib.hid hxy
        clear hxy
        go_wp2_with fail
        go_roundw
        case rel =>
          refine ⟨j + 1, by omega, by go_num, fun t ht => ?_, B2.out⟩
          rcases Nat.lt_or_ge t j with h | h
          · exact HS.out t h
          · obtain rfl : t = j := by omega
            rw [HX.out, HY.out, HXY.out]
        case measure => simp [intOf]; omega
      · have e1 : (x == y) = false := by simpa using hxy
        have e2 : (x != y) = true := by simpa using hxy
        have HE := Lib.hid (show sameF i a b = false by
          cases qa : formQ i a
          · simp [sameF, qa]
          · exact sameF_no qa (k := j) (by rw [← HPa.out qa]; exact hlt) (by rw [HX.out, HY.out]; exact hxy))
        clear hxy
        go_wp2_with fail
        go_ret
        exact ⟨by rw [HE.out]; rfl, B2.out⟩
    · obtain rfl : j = P := by omega
      cases qa : formQ i a
      · have HE := Lib.hid (show sameF i a b = false by simp [sameF, qa])
        have QA := Lib.hid qa
        clear qa
        go_wp2_with fail
        refine (sFormValid_b false i _ _ _ a QA.out _ HAj.out).mono ?_
        rintro e w1 ⟨rfl, hb1⟩
        go_wp2_with fail
        go_ret
        exact ⟨by rw [HE.out]; rfl, bseq HW.out hb1⟩
      · cases qb : formQ i b
        · have HE := Lib.hid (show sameF i a b = false by simp [sameF, qb])
          have QA := Lib.hid qa
          have QB := Lib.hid qb
          clear qa qb
          go_wp2_with fail
          refine (sFormValid_b true i _ _ _ a QA.out _ HAj.out).mono ?_
          rintro e w1 ⟨rfl, hb1⟩
          have B1 := hide (bseq HW.out hb1)
          have HB1 := hide (HBj.out.below hb1)
          clear hb1
          go_wp2_with fail
          refine (sFormValid_b false i _ _ _ b QB.out _ HB1.out).mono ?_
          rintro e w2 ⟨rfl, hb2⟩
          go_wp2_with fail
          go_ret
          exact ⟨by rw [HE.out]; rfl, bseq B1.out hb2⟩
        · have HE := Lib.hid (show sameF i a b = true from sameF_yes qa qb (by rw [← HPa.out qa]; exact HS.out))
          have QA := Lib.hid qa
          have QB := Lib.hid qb
          clear qa qb
          go_wp2_with fail
          refine (sFormValid_b true i _ _ _ a QA.out _ HAj.out).mono ?_
          rintro e w1 ⟨rfl, hb1⟩
          have B1 := hide (bseq HW.out hb1)
          have HB1 := hide (HBj.out.below hb1)
          clear hb1
          go_wp2_with fail
          refine (sFormValid_b true i _ _ _ b QB.out _ HB1.out).mono ?_
          rintro e w2 ⟨rfl, hb2⟩
          go_wp2_with fail
          go_ret
          exact ⟨by rw [HE.out]; rfl, bseq B1.out hb2⟩
end Go.Proofs.Ytpklpebngholcaa
