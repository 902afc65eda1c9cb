/-
  What stands between the commas of a text, and the numbers of short texts, by the reference.
  No condition.
-/
import Derived.Test.YtokcappgaokeaaaDoorFuncText
namespace Go.Proofs.YtokcappgaokeaaaDoor
open Go.RowKit Go.Sort base
/-! ### pieces -/
def cutF (st : List (List UInt8) × List UInt8) (c : UInt8) : List (List UInt8) × List UInt8 := if c = 44 then (st.1 ++ [st.2], []) else (st.1, st.2 ++ [c])
def cutSt (l : List UInt8) : List (List UInt8) × List UInt8 := l.foldl cutF ([], [])
/-- what stands between the commas -/
def parts (l : List UInt8) : List (List UInt8) := (cutSt l).1 ++ [(cutSt l).2]
theorem cutSt_snoc (l : List UInt8) (c : UInt8) : cutSt (l ++ [c]) = cutF (cutSt l) c := by simp [cutSt, List.foldl_append]
theorem cut_len (l : List UInt8) : ∀ k, k ≤ l.length → (cutSt (l.take k)).2.length ≤ k ∧ (cutSt (l.take k)).1.length ≤ k ∧ (cutSt (l.take k)).2 = (l.take k).drop (k - (cutSt (l.take k)).2.length)
  | 0, _ => by simp [cutSt]
  | k + 1, h => by
    obtain ⟨h1, h2, h3⟩ := cut_len l k (by omega)
    have e : l.take (k + 1) = l.take k ++ [l[k]] := by rw [List.take_succ_eq_append_getElem (by omega)]
    rw [e, cutSt_snoc]
    unfold cutF
    split
    · refine ⟨by simp, by simp; omega, ?_⟩
      simp [List.length_take, Nat.min_eq_left (show k ≤ l.length by omega)]
    · refine ⟨by simp; omega, by simp; omega, ?_⟩
      simp only [List.length_append, List.length_cons, List.length_nil]
      rw [show k + 1 - ((cutSt (l.take k)).2.length + (0 + 1)) = k - (cutSt (l.take k)).2.length by omega, List.drop_append_of_le_length (by simp; omega), ← h3]
def bstr (l : List UInt8) : ByteArray := ⟨l.toArray⟩
def bstrs (xs : List (List UInt8)) : List ByteArray := xs.map bstr
/-- 's[a:b]' -/
theorem run_strSub (S : ByteArray) (a b : Nat) (h : a ≤ b) (hb : b ≤ S.size) (wx : World) : (Instr.slice 9 (.string S) (some (.int .i64 (a : Int))) (some (.int .i64 (b : Int))) none).run Tryd.prog wx = .ok (.string (bstr ((S.data.toList.take b).drop a))) wx := by
  have h1 : (0 : Int) ≤ (b : Int) := by omega
  have h2 : (b : Int) ≤ (S.size : Int) := by omega
  have h3 : (0 : Int) ≤ (a : Int) := by omega
  have h4 : (a : Int) ≤ (b : Int) := by omega
  have e : S.extract a b = bstr ((S.data.toList.take b).drop a) := by
    apply ByteArray.ext
    apply Array.toList_inj.1
    simp [bstr]
    rw [List.drop_take]
  simp [Instr.slice, run_underlying Tryd.underlying9, Instr.sliceBounds, run_sliceBound _ _ _ _ h1 h2, run_sliceBound _ _ _ _ h3 h4, go_sem, e]
  rw [if_pos hb, if_pos h]
theorem run_strFrom (S : ByteArray) (a : Nat) (h : a ≤ S.size) (wx : World) : (Instr.slice 9 (.string S) (some (.int .i64 (a : Int))) none none).run Tryd.prog wx = .ok (.string (bstr (S.data.toList.drop a))) wx := by
  have h3 : (0 : Int) ≤ (a : Int) := by omega
  have h4 : (a : Int) ≤ (S.size : Int) := by omega
  have e : S.extract a S.size = bstr (S.data.toList.drop a) := by
    apply ByteArray.ext
    apply Array.toList_inj.1
    simp [bstr]
    try (apply List.take_of_length_le; simp; try omega)
  simp [Instr.slice, run_underlying Tryd.underlying9, Instr.sliceBounds, run_sliceBound _ _ _ _ h3 h4, go_sem, e]
  try omega
set_option maxHeartbeats 4000000 in
theorem l1Cut_any (S : ByteArray) (w : World) (hS : S.size ≤ 1048577) :
    Calls Tryd.prog 20 #[.string S, .int .u8 44] w fun e w' => (∃ v, e = .returned v ∧ OwnS w' w.heap.size v (bstrs (parts S.data.toList))) ∧ Below w.heap.size w w' := by
  have O1 : Hid (OwnS (w.alloc (.cells #[] 9)) w.heap.size (.slice (some ⟨w.heap.size, 0, none⟩) 0 0) []) := by
    have := World.ownsRow_lit (e := 9) (size := 1) w #[] 0 (Nat.le_refl _) (by unfold maxLen; omega) (by simp)
    simpa [OwnS, Hid] using this
  have B1 := hide (show Below w.heap.size w (w.alloc (.cells #[] 9)) by go_grown)
  go_enter Tryd.func20, Tryd.ntmps20
  go_wp2_with fail
  go_loopw [5, 6, 7] (fun vv fv kv wr => ∃ (k a : Nat) (v : Value), k ≤ S.size ∧ kv = .int .i64 (k : Nat) ∧ fv = .int .i64 (a : Nat) ∧ a ≤ k ∧ Hid (a + (cutSt (S.data.toList.take k)).2.length = k) ∧ v = vv ∧ Hid (OwnS wr w.heap.size v (bstrs (cutSt (S.data.toList.take k)).1)) ∧ Hid (Below w.heap.size w wr)) (fun _ _ kv _ => S.size - (intOf kv).toNat)
  case atStart => exact ⟨0, 0, _, by omega, rfl, rfl, by omega, Lib.hid (by simp [cutSt]), rfl, O1, B1⟩
  case round =>
    obtain ⟨k, a, v, hk, rfl, rfl, hak, HA, rfl, HO, HB⟩ := hrel
    have hsz := HB.out.size
    have HCL := hide (cut_len S.data.toList k (by simpa using hk))
    by_cases hlt : k < S.size
    · obtain ⟨b, hb⟩ : ∃ b, (S[k]'hlt).toNat = b := ⟨_, rfl⟩
      have hbU : b ≤ 255 := by have := (S[k]'hlt).toNat_lt; omega
      have HTk := Lib.hid (show S.data.toList.take (k + 1) = S.data.toList.take k ++ [S[k]'hlt] by rw [List.take_succ_eq_append_getElem (by simpa using hlt)]; rfl)
      by_cases h44 : b = 44
      · subst h44
        have HC := Lib.hid (show S[k]'hlt = 44 from UInt8.toNat_inj.1 hb)
        have HS1 := Lib.hid (show cutSt (S.data.toList.take (k + 1)) = ((cutSt (S.data.toList.take k)).1 ++ [(cutSt (S.data.toList.take k)).2], []) by rw [HTk.out, cutSt_snoc, cutF, if_pos HC.out])
        have hsl := run_strSub S a k hak hk
        rw [show (S.data.toList.take k).drop a = (cutSt (S.data.toList.take k)).2 by rw [HCL.out.2.2]; congr 1; have := HA.out; omega] at hsl
        obtain ⟨t, ht⟩ : ∃ t, bstr (cutSt (S.data.toList.take k)).2 = t := ⟨_, rfl⟩
        rw [ht] at hsl
        have HT := Lib.hid ht
        clear ht
        go_wp2_with (at_builtin; refine wpList_append1s (x := t) HO.out (.tmp 20) (.tmp 25) rfl rfl rfl rfl (by have := HCL.out.2.1; simp [bstrs]; omega) hsz ?_; intro v9 w9 ho9 hg9; have O9 := hide (show OwnS w9 w.heap.size v9 (bstrs (cutSt (S.data.toList.take (k + 1))).1) by rw [HS1.out]; simp only [bstrs, List.map_append, List.map_cons, List.map_nil, HT.out]; exact ho9); have B9 := hide (HB.out.grown hg9 hsz (fun k hk => (HO.out.lt k hk).1)); clear ho9 hg9)
        go_roundw
        case rel => exact ⟨k + 1, k + 1, v9, by omega, by go_num, by go_num, by omega, Lib.hid (by rw [HS1.out]; rfl), rfl, O9, B9⟩
        case measure => simp [intOf]; omega
      · have HC := Lib.hid (show ¬ S[k]'hlt = 44 from fun e => h44 (by rw [← hb, e]; rfl))
        have HS1 := Lib.hid (show cutSt (S.data.toList.take (k + 1)) = ((cutSt (S.data.toList.take k)).1, (cutSt (S.data.toList.take k)).2 ++ [S[k]'hlt]) by rw [HTk.out, cutSt_snoc, cutF, if_neg HC.out])
        have e44 : ((b : Int) == 44) = false := by simp; omega
        go_wp2_with fail
        go_roundw
        case rel => exact ⟨k + 1, a, _, by omega, by go_num, rfl, by omega, Lib.hid (by rw [HS1.out]; have := HA.out; simp; omega), rfl, hide (by rw [HS1.out]; exact HO.out), HB⟩
        case measure => simp [intOf]; omega
    · obtain rfl : k = S.size := by omega
      have HTl := Lib.hid (show S.data.toList.take S.size = S.data.toList from List.take_of_length_le (by simp))
      have hsl := run_strFrom S a (by omega)
      rw [show S.data.toList.drop a = (cutSt S.data.toList).2 by have h1 := HCL.out.2.2; rw [HTl.out] at h1; rw [h1]; congr 1; have := HA.out; rw [HTl.out] at this; omega] at hsl
      obtain ⟨t, ht⟩ : ∃ t, bstr (cutSt S.data.toList).2 = t := ⟨_, rfl⟩
      rw [ht] at hsl
      have HT := Lib.hid ht
      clear ht
      go_wp2_with (at_builtin; refine wpList_append1s (x := t) HO.out (.tmp 29) (.tmp 33) rfl rfl rfl rfl (by have := HCL.out.2.1; simp [bstrs]; omega) hsz ?_; intro v9 w9 ho9 hg9; have O9 := hide (show OwnS w9 w.heap.size v9 (bstrs (parts S.data.toList)) by rw [parts]; have h9 := ho9; rw [HTl.out] at h9; simp only [bstrs, List.map_append, List.map_cons, List.map_nil, HT.out]; exact h9); have B9 := hide (HB.out.grown hg9 hsz (fun k hk => (HO.out.lt k hk).1)); clear ho9 hg9)
      go_ret
      exact ⟨⟨_, rfl, O9.out⟩, B9.out⟩
/-! ### the numbers of short texts -/
def digF (acc : Option Int) (c : UInt8) : Option Int := match acc with
  | none => none
  | some n => if c.toNat < 48 ∨ 57 < c.toNat then none else some (10 * n + ((c.toNat : Int) - 48))
def digL (l : List UInt8) : Option Int := l.foldl digF (some 0)
/-- what l1Digits answers -/
def digV (l : List UInt8) : Int := if (1 ≤ l.length ∧ l.length ≤ 4) ∧ ¬ (1 < l.length ∧ l.head? = some 48) then (digL l).getD (-1) else -1
theorem digL_snoc (l : List UInt8) (c : UInt8) : digL (l ++ [c]) = digF (digL l) c := by simp [digL, List.foldl_append]
theorem digL_none (l r : List UInt8) (h : digL l = none) : digL (l ++ r) = none := by
  have : ∀ r : List UInt8, r.foldl digF none = none := fun r => by
    induction r with
    | nil => rfl
    | cons c r ih => simpa [List.foldl_cons, digF] using ih
  rw [digL, List.foldl_append, show l.foldl digF (some 0) = none from h, this]
theorem dec2 {x l h : Int} (c : l ≤ x ∧ x ≤ h) : (decide (l ≤ x) && decide (x ≤ h)) = true := by simp; exact c
theorem dec2n {x l h : Int} (c : ¬ (l ≤ x ∧ x ≤ h)) : (decide (l ≤ x) && decide (x ≤ h)) = false := by
  cases e : (decide (l ≤ x) && decide (x ≤ h))
  · rfl
  · simp at e; exact absurd e c
set_option maxHeartbeats 2000000 in
/-- the loop over the letters of a text of one to four letters -/
theorem l1Digits_any (S : ByteArray) (w : World) (hS : S.size ≤ 1048577) :
    Calls Tryd.prog 21 #[.string S] w fun e w' => e = .returned (.int .i64 (digV S.data.toList)) ∧ w = w' := by
  have hlen : S.data.toList.length = S.size := by simp
  by_cases hl : 1 ≤ S.size ∧ S.size ≤ 4
  · have D1 := hide (dec2 (x := (S.size : Int)) (l := 1) (h := 4) (by omega))
    obtain ⟨b0, hb0⟩ : ∃ b, (S[0]'(by omega)).toNat = b := ⟨_, rfl⟩
    have hbU : b0 ≤ 255 := by have := (S[0]'(by omega)).toNat_lt; omega
    have hh : S.data.toList.head? = some (S[0]'(by omega)) := by
      rw [List.head?_eq_getElem?, List.getElem?_eq_getElem (by omega)]
      rfl
    have hz : S.data.toList.head? = some 48 ↔ b0 = 48 := by
      rw [hh, Option.some.injEq, ← UInt8.toNat_inj, hb0]; rfl
    by_cases hlead : 1 < S.size ∧ b0 = 48
    · obtain ⟨hl1, rfl⟩ := hlead
      have HE := Lib.hid (show digV S.data.toList = -1 by rw [digV, if_neg (by rw [hlen]; intro h; exact h.2 ⟨hl1, hz.2 rfl⟩)])
      clear hz hh
      go_enter Tryd.func21, Tryd.ntmps21
      go_wp2_with fail
      refine (l1In_b true _ _ _ D1.out _).mono ?_
      rintro e w' ⟨rfl, rfl⟩
      go_wp2_with fail
      go_ret
      exact ⟨by rw [HE.out]; rfl, rfl⟩
    · have HE := Lib.hid (show digV S.data.toList = (digL S.data.toList).getD (-1) by rw [digV, if_pos (by rw [hlen]; exact ⟨hl, fun h => hlead ⟨h.1, hz.1 h.2⟩⟩)])
      have e48 : 1 < S.size → ((b0 : Int) == 48) = false := fun h => by simp; intro h2; exact hlead ⟨h, by omega⟩
      obtain ⟨hl1, hl4⟩ := hl
      clear hz hh hlead
      by_cases h1 : 1 < S.size
      · have e5 := e48 h1
        clear e48
        go_enter Tryd.func21, Tryd.ntmps21
        go_wp2_with fail
        refine (l1In_b true _ _ _ D1.out _).mono ?_
        rintro e w' ⟨rfl, rfl⟩
        go_wp2_with fail
        go_loop [3, 4] (fun nv kv => ∃ (k : Nat) (n : Int), k ≤ S.size ∧ kv = .int .i64 (k : Nat) ∧ nv = .int .i64 n ∧ 0 ≤ n ∧ n < 10 ^ k ∧ Hid (digL (S.data.toList.take k) = some n)) (fun _ kv => S.size - (intOf kv).toNat)
        case atStart => exact ⟨0, 0, by omega, rfl, rfl, by omega, by decide, Lib.hid rfl⟩
        case round =>
          obtain ⟨k, n, hk, rfl, rfl, hn0, hn1, HD⟩ := hrel
          by_cases hlt : k < S.size
          · obtain ⟨b, hb⟩ : ∃ b, (S[k]'hlt).toNat = b := ⟨_, rfl⟩
            have hbU2 : b ≤ 255 := by have := (S[k]'hlt).toNat_lt; omega
            have hn9 : n < 1000 := by
              have : (10 : Int) ^ k ≤ 10 ^ 3 := by rcases (show k = 0 ∨ k = 1 ∨ k = 2 ∨ k = 3 by omega) with rfl | rfl | rfl | rfl <;> decide
              omega
            have HTk := Lib.hid (show S.data.toList.take (k + 1) = S.data.toList.take k ++ [S[k]'hlt] by rw [List.take_succ_eq_append_getElem (by simpa using hlt)]; rfl)
            have HN := Lib.hid hn1
            clear hn1
            by_cases hd : b < 48 ∨ 57 < b
            · have HE2 := Lib.hid (show digV S.data.toList = -1 by
                rw [HE.out]
                have h1 : digL (S.data.toList.take (k + 1)) = none := by rw [HTk.out, digL_snoc, HD.out, digF, hb, if_pos hd]
                have h2 := digL_none _ (S.data.toList.drop (k + 1)) h1
                rw [List.take_append_drop] at h2
                rw [h2]; rfl)
              by_cases hd1 : b < 48
              · go_wp2_with fail
                go_ret
                exact ⟨by rw [HE2.out]; rfl, rfl⟩
              · have hd2 : 57 < b := by omega
                go_wp2_with fail
                go_ret
                exact ⟨by rw [HE2.out]; rfl, rfl⟩
            · have HD2 := Lib.hid (show digL (S.data.toList.take (k + 1)) = some (10 * n + ((b : Int) - 48)) by rw [HTk.out, digL_snoc, HD.out, digF, hb, if_neg hd])
              have hd1 : 48 ≤ b := by omega
              have hd2 : b ≤ 57 := by omega
              clear hd
              go_wp2_with fail
              go_round
              case rel => exact ⟨k + 1, _, by omega, by go_num, rfl, by omega, by have := HN.out; rw [Int.pow_succ]; omega, HD2⟩
              case measure => simp [intOf]; omega
          · obtain rfl : k = S.size := by omega
            have HE2 := Lib.hid (show digV S.data.toList = n by rw [HE.out]; have := HD.out; rw [List.take_of_length_le (by simp)] at this; rw [this]; rfl)
            go_wp2_with fail
            go_ret
            exact ⟨by rw [HE2.out]; rfl, rfl⟩
      · clear e48
        go_enter Tryd.func21, Tryd.ntmps21
        go_wp2_with fail
        refine (l1In_b true _ _ _ D1.out _).mono ?_
        rintro e w' ⟨rfl, rfl⟩
        go_wp2_with fail
        go_loop [3, 4] (fun nv kv => ∃ (k : Nat) (n : Int), k ≤ S.size ∧ kv = .int .i64 (k : Nat) ∧ nv = .int .i64 n ∧ 0 ≤ n ∧ n < 10 ^ k ∧ Hid (digL (S.data.toList.take k) = some n)) (fun _ kv => S.size - (intOf kv).toNat)
        case atStart => exact ⟨0, 0, by omega, rfl, rfl, by omega, by decide, Lib.hid rfl⟩
        case round =>
          obtain ⟨k, n, hk, rfl, rfl, hn0, hn1, HD⟩ := hrel
          by_cases hlt : k < S.size
          · obtain ⟨b, hb⟩ : ∃ b, (S[k]'hlt).toNat = b := ⟨_, rfl⟩
            have hbU2 : b ≤ 255 := by have := (S[k]'hlt).toNat_lt; omega
            have hn9 : n < 1000 := by
              have : (10 : Int) ^ k ≤ 10 ^ 3 := by rcases (show k = 0 ∨ k = 1 ∨ k = 2 ∨ k = 3 by omega) with rfl | rfl | rfl | rfl <;> decide
              omega
            have HTk := Lib.hid (show S.data.toList.take (k + 1) = S.data.toList.take k ++ [S[k]'hlt] by rw [List.take_succ_eq_append_getElem (by simpa using hlt)]; rfl)
            have HN := Lib.hid hn1
            clear hn1
            by_cases hd : b < 48 ∨ 57 < b
            · have HE2 := Lib.hid (show digV S.data.toList = -1 by
                rw [HE.out]
                have h1 : digL (S.data.toList.take (k + 1)) = none := by rw [HTk.out, digL_snoc, HD.out, digF, hb, if_pos hd]
                have h2 := digL_none _ (S.data.toList.drop (k + 1)) h1
                rw [List.take_append_drop] at h2
                rw [h2]; rfl)
              by_cases hd1 : b < 48
              · go_wp2_with fail
                go_ret
                exact ⟨by rw [HE2.out]; rfl, rfl⟩
              · have hd2 : 57 < b := by omega
                go_wp2_with fail
                go_ret
                exact ⟨by rw [HE2.out]; rfl, rfl⟩
            · have HD2 := Lib.hid (show digL (S.data.toList.take (k + 1)) = some (10 * n + ((b : Int) - 48)) by rw [HTk.out, digL_snoc, HD.out, digF, hb, if_neg hd])
              have hd1 : 48 ≤ b := by omega
              have hd2 : b ≤ 57 := by omega
              clear hd
              go_wp2_with fail
              go_round
              case rel => exact ⟨k + 1, _, by omega, by go_num, rfl, by omega, by have := HN.out; rw [Int.pow_succ]; omega, HD2⟩
              case measure => simp [intOf]; omega
          · obtain rfl : k = S.size := by omega
            have HE2 := Lib.hid (show digV S.data.toList = n by rw [HE.out]; have := HD.out; rw [List.take_of_length_le (by simp)] at this; rw [this]; rfl)
            go_wp2_with fail
            go_ret
            exact ⟨by rw [HE2.out]; rfl, rfl⟩
  · have D1 := hide (dec2n (x := (S.size : Int)) (l := 1) (h := 4) (by omega))
    have HE := Lib.hid (show digV S.data.toList = -1 by rw [digV, if_neg (by rw [hlen]; intro h; exact hl h.1)])
    clear hl
    go_enter Tryd.func21, Tryd.ntmps21
    go_wp2_with fail
    refine (l1In_b false _ _ _ D1.out _).mono ?_
    rintro e w' ⟨rfl, rfl⟩
    go_wp2_with fail
    go_ret
    exact ⟨by rw [HE.out]; rfl, rfl⟩
end Go.Proofs.YtokcappgaokeaaaDoor
