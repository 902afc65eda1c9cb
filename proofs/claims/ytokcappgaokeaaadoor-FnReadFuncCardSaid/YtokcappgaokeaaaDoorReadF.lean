/-
  ReadFunc of the program; what it reads is what the reference reads.
  No condition.
-/
import Derived.Test.YtokcappgaokeaaaDoorNumIn
namespace Go.Proofs.YtokcappgaokeaaaDoor
open Go.RowKit Go.Sort base
theorem parts_join : ∀ (xs : List (List UInt8)), xs ≠ [] → (∀ x ∈ xs, (44 : UInt8) ∉ x) → parts (Lib.join xs [44]) = xs
  | [], h, _ => absurd rfl h
  | [x], _, h => by
    have : Lib.join [x] [44] = x := by simp [Lib.join, List.intercalate, List.intersperse]
    rw [this]
    exact parts_none (h x (by simp))
  | x :: y :: r, _, h => by
    have e : Lib.join (x :: y :: r) [44] = x ++ 44 :: Lib.join (y :: r) [44] := by simp [Lib.join, List.intercalate, List.intersperse]
    rw [e, parts_cons _ _ (h x (by simp)), parts_join (y :: r) (by simp) (fun z hz => h z (by simp [hz]))]
theorem itoa_cases {z : Int} (h : 0 ≤ z ∧ z ≤ 15) : ∃ k : Fin 16, z = (k.val : Int) ∧ Lib.itoa z = (if k.val < 10 then [UInt8.ofNat (48 + k.val)] else [49, UInt8.ofNat (38 + k.val)]) := by
  obtain ⟨n, rfl⟩ := Int.eq_ofNat_of_zero_le h.1
  refine ⟨⟨n, by omega⟩, rfl, ?_⟩
  rw [Lib.itoa_nonneg, Lib.decDigits]
  by_cases hn : n < 10
  · simp [hn]
  · rw [dif_neg hn, if_neg hn, Lib.decDigits, dif_pos (by omega), show n / 10 = 1 by omega, show 48 + n % 10 = 38 + n by omega]
    rfl
def small (k : Fin 16) : List UInt8 := if k.val < 10 then [UInt8.ofNat (48 + k.val)] else [49, UInt8.ofNat (38 + k.val)]
theorem small_facts : ∀ k : Fin 16, (44 : UInt8) ∉ small k ∧ digV (small k) = (k.val : Int) ∧ okOf (small k) = some (k.val : Int) := by decide +kernel
theorem itoa_facts {z : Int} (h : 0 ≤ z ∧ z ≤ 15) : (44 : UInt8) ∉ Lib.itoa z ∧ digV (Lib.itoa z) = z ∧ okOf (Lib.itoa z) = some z := by
  obtain ⟨k, rfl, e⟩ := itoa_cases h
  rw [e]
  exact small_facts k
theorem allOk_itoa : ∀ (g : List Int), (∀ z ∈ g, 0 ≤ z ∧ z ≤ 15) → allOk (g.map Lib.itoa) = some g
  | [], _ => rfl
  | z :: r, h => by
    simp only [List.map_cons, allOk, (itoa_facts (h z (by simp))).2.2, allOk_itoa r (fun y hy => h y (by simp [hy]))]
theorem digV_itoa (g : List Int) (h : ∀ z ∈ g, 0 ≤ z ∧ z ≤ 15) : (g.map Lib.itoa).map digV = g := by
  rw [List.map_map]
  conv => rhs; rw [← List.map_id g]
  exact List.map_congr_left fun z hz => (itoa_facts (h z hz)).2.1
/-- the text of a function in pieces -/
theorem parts_fn {i o : Int} {g : List Int} (h : fnOk i o g = true) : parts (joinZ g comma).data.toList = g.map Lib.itoa := by
  obtain ⟨_, h2, h3⟩ := fn_num h
  have e : (joinZ g comma).data.toList = Lib.join (g.map Lib.itoa) [44] := by simp [joinZ, comma]
  rw [e]
  refine parts_join _ (by intro e; have := congrArg List.length e; simp at this; rw [this] at h2; simp at h2) fun x hx => ?_
  obtain ⟨z, hz, rfl⟩ := List.mem_map.1 hx
  exact (itoa_facts (h3 z hz)).1
theorem read_same (i o : Int) (S : ByteArray) : (inGood S && fnOk i o (numF S)) = readOk i o S ∧ (readOk i o S = true → numF S = nums S) := by
  by_cases h : (inGood S && fnOk i o (numF S)) = true
  · rw [Bool.and_eq_true] at h
    obtain ⟨h1, h2⟩ := h
    unfold inGood at h1
    rw [Bool.and_eq_true] at h1
    obtain ⟨h3, h4⟩ := h1
    have hj : joinZ (inNums S) comma = S := (bytes_eq _ _).1 h4
    have hn : numF S = inNums S := by unfold numF; rw [if_pos h3]
    rw [hn] at h2 ⊢
    have hp := parts_fn h2
    rw [hj] at hp
    obtain ⟨_, hl2, h5⟩ := fn_num h2
    have hnums : nums S = inNums S := by
      unfold nums
      rw [hp]
      exact digV_itoa _ h5
    have hne : ¬ S = ⟨#[]⟩ := fun e => by
      have : (parts S.data.toList).length = 1 := by rw [e]; rfl
      rw [hp, List.length_map] at this
      omega
    have hr : readOk i o S = true := by
      unfold readOk
      rw [hnums]
      simp only [decide_eq_true_eq]
      refine ⟨hne, ?_⟩
      unfold funcStr
      rw [if_pos h2]
      exact hj
    refine ⟨?_, fun _ => hnums.symm⟩
    rw [hr, h2]
    unfold inGood
    rw [h3, h4]
    rfl
  · have hf := Bool.eq_false_iff.2 h
    have hr : readOk i o S = false := by
      rw [Bool.eq_false_iff]
      intro e
      unfold readOk at e
      simp only [decide_eq_true_eq] at e
      obtain ⟨hne, hs⟩ := e
      unfold funcStr at hs
      by_cases hk : fnOk i o (nums S) = true
      · rw [if_pos hk] at hs
        obtain ⟨_, _, h5⟩ := fn_num hk
        have hp := parts_fn hk
        rw [hs] at hp
        have ha : allOk (parts S.data.toList) = some (nums S) := by rw [hp]; exact allOk_itoa _ h5
        have hin : inNums S = nums S := by unfold inNums numsD; rw [ha]; rfl
        have hn : numF S = nums S := by unfold numF; rw [ha]; exact hin
        apply h
        rw [hn, hk]
        unfold inGood
        rw [ha, hin]
        have hb : (joinZ (nums S) ⟨#[44]⟩ == S) = true := (bytes_eq _ _).2 hs
        simp [hb]
      · rw [if_neg hk] at hs
        exact hne hs.symm
    exact ⟨by rw [hf, hr], fun e => by rw [hr] at e; cases e⟩
/-- what is read: a slice of the call's own, and whether it is one -/
def RMine2 (w : World) (zs : List Int) (ok : Bool) (e : Ending) (w' : World) : Prop := (∃ v, e = .returned (.tuple #[v, .bool ok]) ∧ Mine w' w.heap.size v zs) ∧ Below w.heap.size w w'
set_option maxHeartbeats 2000000 in
theorem readFunc_any (i o : Int) (S : ByteArray) (w : World) (hS : S.size ≤ 1048577) (ht : Tens w) (he : Errs w) :
    Calls Tryd.prog 8 #[.int .i64 i, .int .i64 o, .string S] w (RMine2 w (readF i o S) (readOk i o S)) := by
  obtain ⟨hs1, hs2⟩ := read_same i o S
  have HT := hide ht
  have HE := hide he
  have HS1 := Lib.hid hs1
  have HS2 := hide hs2
  clear ht he hs1 hs2
  cases hg : inGood S with
  | false =>
    have HF : Hid (readOk i o S = false) := Lib.hid (by rw [← HS1.out, hg]; rfl)
    have HG := Lib.hid hg
    clear hg
    go_enter Tryd.func8, Tryd.ntmps8
    go_wp2_with fail
    refine (numbersIn_any S _ hS HT.out HE.out).mono ?_
    rintro e w1 ⟨⟨v, rfl, hm⟩, hb⟩
    rw [HG.out]
    go_wp2_with fail
    exact bodyPost_ret (v := .tuple #[.slice none 0 0, .bool false]) (by simp [results, Tryd.results8, go_sem]) rfl ⟨⟨_, by rw [HF.out], .inl ⟨rfl, by unfold readF; rw [HF.out]; rfl⟩⟩, hb⟩
  | true =>
    have HG := Lib.hid hg
    obtain ⟨ok, hok⟩ : ∃ ok, fnOk i o (numF S) = ok := ⟨_, rfl⟩
    have HF : Hid (readOk i o S = ok) := Lib.hid (by rw [← HS1.out, hg, hok]; cases ok <;> rfl)
    clear hg
    go_enter Tryd.func8, Tryd.ntmps8
    go_wp2_with fail
    refine (numbersIn_any S _ hS HT.out HE.out).mono ?_
    rintro e w1 ⟨⟨v, rfl, hm⟩, hb⟩
    rw [HG.out]
    have HM := hide hm
    have HB := hide hb
    obtain ⟨A, c, rfl, hir⟩ := hm.slice
    have HIR := hide hir
    clear hm hb hir
    go_wp2_with fail
    refine (funcValid_b ok i o A _ c (numF S) _ HIR.out hok).mono ?_
    rintro e w2 ⟨rfl, hb2⟩
    have HB2 := hide (HB.out.trans (hb2.mono HB.out.size))
    have HM2 := hide (HM.out.below hb2)
    clear hb2 hok
    cases ok with
    | false =>
      go_wp2_with fail
      exact bodyPost_ret (v := .tuple #[.slice none 0 0, .bool false]) (by simp [results, Tryd.results8, go_sem]) rfl ⟨⟨_, by rw [HF.out], .inl ⟨rfl, by unfold readF; rw [HF.out]; rfl⟩⟩, HB2.out⟩
    | true =>
      have HN := Lib.hid (show readF i o S = numF S by unfold readF; rw [HF.out, if_pos rfl, HS2.out HF.out])
      go_wp2_with fail
      exact bodyPost_ret (v := .tuple #[.slice A (numF S).length c, .bool true]) (by simp [results, Tryd.results8, go_sem]) rfl ⟨⟨_, by rw [HF.out], by rw [HN.out]; exact HM2.out⟩, HB2.out⟩
theorem readOk_fn {i o : Int} {S : ByteArray} (h : readOk i o S = true) : fnOk i o (nums S) = true := by
  unfold readOk at h
  simp only [decide_eq_true_eq] at h
  obtain ⟨hne, hs⟩ := h
  unfold funcStr at hs
  by_cases hk : fnOk i o (nums S) = true
  · exact hk
  · rw [if_neg hk] at hs
    exact absurd hs.symm hne
theorem readF_len (i o : Int) (S : ByteArray) : (readF i o S).length ≤ 16 := by
  unfold readF
  split
  · exact (fn_num (readOk_fn (by assumption))).1
  · simp
theorem sReadB (b : Bool) (i o : Int) (S : ByteArray) (w : World) (hS : S.size ≤ 1048577) (h : readOk i o S = b) : Calls Tryd.prog 7 #[.int .i64 i, .int .i64 o, .string S] w (RInts2 w (readF i o S) b) := by
  subst h
  exact sReadFunc_any i o S w hS
theorem readB (b : Bool) (i o : Int) (S : ByteArray) (w : World) (hS : S.size ≤ 1048577) (h : readOk i o S = b) (ht : Tens w) (he : Errs w) : Calls Tryd.prog 8 #[.int .i64 i, .int .i64 o, .string S] w (RMine2 w (readF i o S) b) := by
  subst h
  exact readFunc_any i o S w hS ht he
end Go.Proofs.YtokcappgaokeaaaDoor
