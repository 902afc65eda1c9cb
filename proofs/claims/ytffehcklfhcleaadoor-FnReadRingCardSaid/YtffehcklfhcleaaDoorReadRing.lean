/-
  The rings of texts, by the program and by the reference.
  No condition.
-/
import Derived.Test.YtffehcklfhcleaaDoorRingText
namespace Go.Proofs.YtffehcklfhcleaaDoor
open Go.RowKit Go.Sort base
/-- the numbers that the letters of a text tell -/
def vals (S : ByteArray) : List Int := S.data.toList.map fun b => (b.toNat : Int) - 48
theorem vals_len (S : ByteArray) : (vals S).length = S.size := by simp [vals]
theorem vals_take {S : ByteArray} {k : Nat} (h : k < S.size) : (vals S).take (k + 1) = (vals S).take k ++ [((S.data[k]'h).toNat : Int) - 48] := by
  rw [List.take_succ_eq_append_getElem (by rw [vals_len]; exact h)]
  simp [vals]
/-- what is read: a slice of numbers, and whether it is one -/
def RInts2 (w : World) (zs : List Int) (ok : Bool) (e : Ending) (w' : World) : Prop := (∃ v, e = .returned (.tuple #[v, .bool ok]) ∧ Own w' w.heap.size v zs) ∧ Below w.heap.size w w'
def readR (S : ByteArray) : List Int := if ringQ (vals S) then vals S else []
set_option maxHeartbeats 2000000 in
theorem readRing_any (S : ByteArray) (w : World) (hS : S.size ≤ 1048577) :
    Calls Tryd.prog 13 #[.string S] w (RInts2 w (readR S) (ringQ (vals S))) := by
  go_enter Tryd.func13, Tryd.ntmps13
  go_wp2_with (at_make; refine wpList_make0_ints w.heap.size S.size rfl _ _ rfl rfl _ rfl (by omega) (by omega) (Nat.le_refl _) ?_; intro w1 ho1 hb1 _; have O1 := hide ho1; have B1 := hide hb1; clear ho1 hb1)
  go_loopw [4, 5, 11] (fun vv _ iv wr => ∃ (j : Nat) (v : Value), j ≤ S.size ∧ iv = .int .i64 j ∧ v = vv ∧ Hid (Own wr w.heap.size v ((vals S).take j)) ∧ Hid (Below w.heap.size w wr)) (fun _ _ iv _ => S.size - (intOf iv).toNat)
  case atStart => exact ⟨0, _, by omega, rfl, rfl, O1, B1⟩
  case round =>
    obtain ⟨j, v, hj, rfl, rfl, HO, HB⟩ := hrel
    by_cases hlt : j < S.size
    · have hsz := HB.out.size
      have HLn := Lib.hid (show ((vals S).take j).length = j by rw [List.length_take, vals_len]; omega)
      obtain ⟨b, hb⟩ : ∃ b, (S[j]'hlt).toNat = b := ⟨_, rfl⟩
      have HT := Lib.hid (show (vals S).take (j + 1) = (vals S).take j ++ [(b : Int) - 48] by rw [vals_take hlt, ← hb]; rfl)
      have hb2 : b ≤ 255 := by have := (S[j]'hlt).toNat_lt; omega
      have hw1 : wrap64 (b : Int) = b := IntWalk.wrap64_in _ (by omega)
      have hw2 : wrap64 ((b : Int) - 48) = (b : Int) - 48 := IntWalk.wrap64_in _ (by omega)
      go_wp2_with (at_builtin; refine wpList_append1 (x := (b : Int) - 48) HO.out (.tmp 14) (.tmp 20) (by rfl) rfl rfl rfl (by rw [HLn.out]; omega) (by omega) ?_; intro v2 w2 ho2 hb2 hg2 _; have O2 := hide (show Own w2 w.heap.size v2 ((vals S).take (j + 1)) by rw [HT.out]; exact ho2); have B2 := hide (HB.out.grown hg2 hsz (fun k hk => (HO.out.lt k hk).1)); clear ho2 hb2 hg2)
      go_roundw
      case rel => exact ⟨j + 1, v2, by omega, by go_num, rfl, O2, B2⟩
      case measure => simp [intOf]; omega
    · obtain rfl : j = S.size := by omega
      have HO2 : Hid (Own wr w.heap.size v (vals S)) := by have := HO.out; rwa [List.take_of_length_le (by rw [vals_len]; omega)] at this
      obtain ⟨A, c, rfl, hr⟩ := HO2.out.slice
      have HR := hide hr
      clear hr
      cases hq : ringQ (vals S)
      · have HE := Lib.hid (show readR S = [] by simp [readR, hq])
        go_wp2_with fail
        refine (ringValid_b false _ _ _ _ hq _ HR.out).mono ?_
        rintro e w' ⟨rfl, rfl⟩
        go_wp2_with fail
        exact bodyPost_ret (v := .tuple #[.slice none 0 0, .bool false]) (by simp [results, Tryd.results13, go_sem]) rfl ⟨⟨_, by rw [hq], by rw [HE.out]; exact Own.nil_ _ _⟩, HB.out⟩
      · have HE := Lib.hid (show readR S = vals S by simp [readR, hq])
        go_wp2_with fail
        refine (ringValid_b true _ _ _ _ hq _ HR.out).mono ?_
        rintro e w' ⟨rfl, rfl⟩
        go_wp2_with fail
        exact bodyPost_ret (v := .tuple #[.slice A (vals S).length c, .bool true]) (by simp [results, Tryd.results13, go_sem]) rfl ⟨⟨_, by rw [hq], by rw [HE.out]; exact HO2.out⟩, HB.out⟩
theorem ringQ_byte {S : ByteArray} (h : ringQ (vals S) = true) : (⟨(digs (vals S)).toArray⟩ : ByteArray) = S := by
  obtain ⟨_, _, _, hb⟩ := ringQ_iff.1 h
  have e : digs (vals S) = S.data.toList := by
    unfold digs
    apply List.ext_getElem (by simp [vals])
    intro i h1 h2
    have h3 := bitQ_iff.1 (hb i (by simpa using h1))
    rw [nth_lt (by simpa using h1)] at h3
    simp only [vals, List.getElem_map, dig] at h3 ⊢
    apply UInt8.toNat_inj.1
    have hx := (S.data.toList[i]'(by simpa [vals] using h1)).toNat_lt
    have h4 : (48 + ((((S.data.toList[i]'(by simpa [vals] using h1)).toNat : Int) - 48).toNat)) = (S.data.toList[i]'(by simpa [vals] using h1)).toNat := by omega
    rw [h4]
    simp
  rw [e]
theorem bytes_eq (a b : ByteArray) : (a == b) = true ↔ a = b := by
  obtain ⟨x⟩ := a
  obtain ⟨y⟩ := b
  constructor
  · intro h
    have e : x = y := by simpa using (show (x == y) = true from h)
    rw [e]
  · intro h
    cases h
    show (x == x) = true
    simp
theorem bytes_ne {a b : ByteArray} (h : ¬ a = b) : (a == b) = false := by
  cases e : (a == b)
  · rfl
  · exact absurd ((bytes_eq a b).1 e) h
theorem bytes_self (a : ByteArray) : (a == a) = true := (bytes_eq a a).2 rfl
theorem list_ne {a b : ByteArray} (h : ¬ a = b) : ¬ a.toList = b.toList := fun e => by
  rw [ByteArray.toList_eq, ByteArray.toList_eq] at e
  exact h (ByteArray.ext (Array.toList_inj.1 e))
theorem list_beq {a b : ByteArray} (h : ¬ a = b) : (a.toList == b.toList) = false := by simpa using list_ne h
theorem list_nil {S : ByteArray} (h : ¬ S = ⟨#[]⟩) : ¬ S.toList = [] := fun e => h (by
  rw [ByteArray.toList_eq] at e
  exact ByteArray.ext (Array.toList_inj.1 e))
theorem str_empty {S : ByteArray} (h : S.size = 0) : S = ⟨#[]⟩ := by
  apply ByteArray.ext
  exact Array.eq_empty_of_size_eq_zero h
theorem ringStr_vals {S : ByteArray} : (S == ⟨#[]⟩ || ringStr (vals S) != S) = !ringQ (vals S) := by
  cases hq : ringQ (vals S)
  · rw [ringStr, hq]
    by_cases h : S = ⟨#[]⟩
    · subst h; rfl
    · have h1 : (S == (⟨#[]⟩ : ByteArray)) = false := bytes_ne h
      have h2 : ((⟨#[]⟩ : ByteArray) != S) = true := by rw [bne, bytes_ne (fun e => h e.symm)]; rfl
      rw [h1, if_neg (by simp), h2]; rfl
  · rw [ringStr, hq, if_pos rfl, ringQ_byte hq]
    have h : ¬ S = ⟨#[]⟩ := by
      rintro rfl
      cases hq
    rw [bytes_ne h, bne, bytes_self]; rfl
set_option maxHeartbeats 2000000 in
theorem sReadRing_any (S : ByteArray) (w : World) (hS : S.size ≤ 1048577) :
    Calls Tryd.prog 16 #[.string S] w (RInts2 w (readR S) (ringQ (vals S))) := by
  have O1 := hide (Own.nil0 w w.heap.size (Nat.le_refl _))
  have B1 := hide (show Below w.heap.size w (w.alloc (.cells #[] 3)) by go_grown)
  have HV := Lib.hid (ringStr_vals (S := S))
  go_enter Tryd.func16, Tryd.ntmps16
  go_wp2_with fail
  go_loopw [4, 5] (fun vv iv wr => ∃ (j : Nat) (v : Value), j ≤ S.size ∧ iv = .int .i64 j ∧ v = vv ∧ Hid (Own wr w.heap.size v ((vals S).take j)) ∧ Hid (Below w.heap.size w wr)) (fun _ iv _ => S.size - (intOf iv).toNat)
  case atStart => exact ⟨0, _, by omega, rfl, rfl, O1, B1⟩
  case round =>
    obtain ⟨j, v, hj, rfl, rfl, HO, HB⟩ := hrel
    have hsz := HB.out.size
    by_cases hlt : j < S.size
    · have HLn := Lib.hid (show ((vals S).take j).length = j by rw [List.length_take, vals_len]; omega)
      obtain ⟨b, hb⟩ : ∃ b, (S[j]'hlt).toNat = b := ⟨_, rfl⟩
      have HT := Lib.hid (show (vals S).take (j + 1) = (vals S).take j ++ [(b : Int) - 48] by rw [vals_take hlt, ← hb]; rfl)
      have hb2 : b ≤ 255 := by have := (S[j]'hlt).toNat_lt; omega
      have hw1 : wrap64 (b : Int) = b := IntWalk.wrap64_in _ (by omega)
      have hw2 : wrap64 ((b : Int) - 48) = (b : Int) - 48 := IntWalk.wrap64_in _ (by omega)
      go_wp2_with (at_builtin; refine wpList_append1 (x := (b : Int) - 48) HO.out (.tmp 13) (.tmp 19) (by rfl) rfl rfl rfl (by rw [HLn.out]; omega) (by omega) ?_; intro v2 w2 ho2 hb2 hg2 _; have O2 := hide (show Own w2 w.heap.size v2 ((vals S).take (j + 1)) by rw [HT.out]; exact ho2); have B2 := hide (HB.out.grown hg2 hsz (fun k hk => (HO.out.lt k hk).1)); clear ho2 hb2 hg2)
      go_roundw
      case rel => exact ⟨j + 1, v2, by omega, by go_num, rfl, O2, B2⟩
      case measure => simp [intOf]; omega
    · obtain rfl : j = S.size := by omega
      have HO2 : Hid (Own wr w.heap.size v (vals S)) := by have := HO.out; rwa [List.take_of_length_le (by rw [vals_len]; omega)] at this
      obtain ⟨A, c, rfl, hr⟩ := HO2.out.slice
      have HR := hide hr
      clear hr
      by_cases h0 : S = ⟨#[]⟩
      · subst h0
        have HE := Lib.hid (show readR ⟨#[]⟩ = [] from rfl)
        have HQ := Lib.hid (show ringQ (vals ⟨#[]⟩) = false from rfl)
        go_wp2_with fail
        go_wp2_with fail
        exact bodyPost_ret (v := .tuple #[.slice (some ⟨wr.heap.size, 0, none⟩) 0 0, .bool false]) (by simp [results, Tryd.results16, go_sem]) rfl ⟨⟨_, by rw [HQ.out], by rw [HE.out]; exact Own.nil0 _ _ hsz⟩, HB.out.alloc hsz _⟩
      · have h1 : (S == (⟨#[]⟩ : ByteArray)) = false := bytes_ne h0
        have h2 := list_nil h0
        have h3 : S.toList.isEmpty = false := by simpa using h2
        have HV2 := Lib.hid (show (ringStr (vals S) != S) = !ringQ (vals S) by have := HV.out; rwa [h1, Bool.false_or] at this)
        obtain ⟨T, hT⟩ : ∃ T, ringStr (vals S) = T := ⟨_, rfl⟩
        have HX := hide (sRingText_any A (vals S).length c (vals S) wr HR.out)
        rw [hT] at HV2 HX
        clear hT
        go_wp2_with fail
        refine HX.out.mono ?_
        rintro e w1 ⟨rfl, hb1⟩
        have HB1 := hide (bseq HB.out hb1)
        have HO3 := hide (HO2.out.below hb1)
        have hsz1 := HB1.out.size
        clear hb1
        cases hq : ringQ (vals S)
        · have HE := Lib.hid (show readR S = [] by simp [readR, hq])
          have e2 : ¬ T = S := by have := HV2.out; rw [hq] at this; rintro rfl; rw [bne, bytes_self] at this; cases this
          have e3 := list_beq e2
          have e4 := list_ne e2
          go_wp2_with fail
          exact bodyPost_ret (v := .tuple #[.slice (some ⟨w1.heap.size, 0, none⟩) 0 0, .bool false]) (by simp [results, Tryd.results16, go_sem]) rfl ⟨⟨_, by rw [hq], by rw [HE.out]; exact Own.nil0 _ _ hsz1⟩, HB1.out.alloc hsz1 _⟩
        · have HE := Lib.hid (show readR S = vals S by simp [readR, hq])
          have e2 : (T == S) = true := by have := HV2.out; rw [hq] at this; simpa [bne] using this
          obtain rfl := (bytes_eq _ _).1 e2
          go_wp2_with fail
          exact bodyPost_ret (v := .tuple #[.slice A (vals T).length c, .bool true]) (by simp [results, Tryd.results16, go_sem]) rfl ⟨⟨_, by rw [hq], by rw [HE.out]; exact HO3.out⟩, HB1.out⟩
end Go.Proofs.YtffehcklfhcleaaDoor
