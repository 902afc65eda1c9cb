/-
  The function of a text, by the reference.
  No condition.
-/
import Derived.Test.YtokcappgaokeaaaDoorCut
namespace Go.Proofs.YtokcappgaokeaaaDoor
open Go.RowKit Go.Sort base
theorem bytes_eq (a b : ByteArray) : (a == b) = true ↔ a = b := by
  obtain ⟨x⟩ := a
  obtain ⟨y⟩ := b
  constructor
  · intro h
    have e : x = y := by simpa using (show (x == y) = true from h)
    rw [e]
  · intro h
    cases h
    show (x == x) = true
    simp
theorem list_ne {a b : ByteArray} (h : ¬ a = b) : ¬ a.toList = b.toList := fun e => by
  rw [ByteArray.toList_eq, ByteArray.toList_eq] at e
  exact h (ByteArray.ext (Array.toList_inj.1 e))
theorem list_beq {a b : ByteArray} (h : ¬ a = b) : (a.toList == b.toList) = false := by simpa using list_ne h
theorem list_nil {S : ByteArray} (h : ¬ S = ⟨#[]⟩) : ¬ S.toList = [] := fun e => h (by
  rw [ByteArray.toList_eq] at e
  exact ByteArray.ext (Array.toList_inj.1 e))
theorem parts_len (S : ByteArray) : (parts S.data.toList).length ≤ S.size + 1 := by
  have := (cut_len S.data.toList S.data.toList.length (Nat.le_refl _)).2.1
  rw [List.take_length] at this
  simp [parts]
  simpa using this
theorem part_len (l : List UInt8) : ∀ k, k ≤ l.length → (∀ x ∈ (cutSt (l.take k)).1, x.length ≤ k) ∧ (cutSt (l.take k)).2.length ≤ k
  | 0, _ => by simp [cutSt]
  | k + 1, h => by
    obtain ⟨h1, h2⟩ := part_len l k (by omega)
    have e : l.take (k + 1) = l.take k ++ [l[k]] := by rw [List.take_succ_eq_append_getElem (by omega)]
    rw [e, cutSt_snoc]
    unfold cutF
    split
    · refine ⟨fun x hx => ?_, by simp⟩
      simp only [List.mem_append, List.mem_singleton] at hx
      rcases hx with hx | rfl
      · have := h1 x hx; omega
      · omega
    · refine ⟨fun x hx => by have := h1 x hx; omega, by simp; omega⟩
theorem parts_mem {S : ByteArray} {x : List UInt8} (h : x ∈ parts S.data.toList) : x.length ≤ S.size := by
  obtain ⟨h1, h2⟩ := part_len S.data.toList S.data.toList.length (Nat.le_refl _)
  rw [List.take_length] at h1 h2
  have e : S.data.toList.length = S.size := by simp
  rw [e] at h1 h2
  simp only [parts, List.mem_append, List.mem_singleton] at h
  rcases h with h | rfl
  · exact h1 x h
  · exact h2
/-- the numbers between the commas -/
def nums (S : ByteArray) : List Int := (parts S.data.toList).map digV
/-- is the text that of a function? -/
def readOk (i o : Int) (S : ByteArray) : Bool := decide (¬ S = ⟨#[]⟩ ∧ funcStr i o (nums S) = S)
def readF (i o : Int) (S : ByteArray) : List Int := if readOk i o S then nums S else []
/-- what is read: a slice of numbers, and whether it is one -/
def RInts2 (w : World) (zs : List Int) (ok : Bool) (e : Ending) (w' : World) : Prop := (∃ v, e = .returned (.tuple #[v, .bool ok]) ∧ Own w' w.heap.size v zs) ∧ Below w.heap.size w w'
set_option maxHeartbeats 4000000 in
theorem sReadFunc_any (i o : Int) (S : ByteArray) (w : World) (hS : S.size ≤ 1048577) :
    Calls Tryd.prog 7 #[.int .i64 i, .int .i64 o, .string S] w (RInts2 w (readF i o S) (readOk i o S)) := by
  have O1 := hide (Own.nil0 w w.heap.size (Nat.le_refl _))
  have B1 := hide (show Below w.heap.size w (w.alloc (.cells #[] 3)) by go_grown)
  have HPL := hide (parts_len S)
  go_enter Tryd.func7, Tryd.ntmps7
  go_wp2_with fail
  refine (l1Cut_any S _ hS).mono ?_
  rintro e w2 ⟨⟨v2, rfl, ho2⟩, hb2⟩
  have O2 := hide (O1.out.below hb2)
  have B2 := hide (bseq B1.out hb2)
  have hs2 := hb2.size
  obtain ⟨N, hN⟩ : ∃ N, (parts S.data.toList).length = N := ⟨_, rfl⟩
  have HN := Lib.hid hN
  have hNS : N ≤ S.size + 1 := by rw [← hN]; exact HPL.out
  rcases ho2.form with ⟨_, h0⟩ | ⟨g, c, rfl, hbg, hgl, hcap, hcells⟩
  · have := congrArg List.length h0; simp [bstrs, parts] at this
  · rw [show (bstrs (parts S.data.toList)).length = N by rw [← hN]; simp [bstrs]] at hcap ⊢
    have HC := hide (show ∀ j, (h : j < N) → w2.cell? ⟨g, j, none⟩ = some (.string (bstr ((parts S.data.toList)[j]'(by rw [HN.out]; exact h)))) from fun j h => by
      have := hcells j (bstr ((parts S.data.toList)[j]'(by rw [HN.out]; exact h))) (by simp [bstrs, List.getElem?_eq_getElem (show j < (parts S.data.toList).length by rw [HN.out]; exact h)])
      rwa [Nat.zero_add] at this)
    have hcl : N ≤ c := hcap
    have hgb : w.heap.size + 1 ≤ g := by simpa using hbg
    have HV0 := hide (show (Value.slice (some ⟨w.heap.size, 0, none⟩) 0 0).ownBlock ≠ some g by simp [Value.ownBlock]; omega)
    clear hb2 ho2 hcells hcap hN hbg
    go_wp2_with fail
    go_loopw [8, 10] (fun vv iv wr => ∃ (j : Nat) (v : Value), j ≤ N ∧ iv = .int .i64 j ∧ v = vv ∧ Hid (Own wr w.heap.size v ((nums S).take j)) ∧ Hid (v.ownBlock ≠ some g) ∧ Hid (g < wr.heap.size ∧ ∀ j, (h : j < N) → wr.cell? ⟨g, j, none⟩ = some (.string (bstr ((parts S.data.toList)[j]'(by rw [HN.out]; exact h))))) ∧ Hid (Below w.heap.size w wr)) (fun _ iv _ => N - (intOf iv).toNat)
    case atStart => exact ⟨0, _, by omega, rfl, rfl, O2, HV0, ⟨hgl, HC.out⟩, B2⟩
    case round =>
      obtain ⟨j, v, hj, rfl, rfl, HO, HV, HCr, HB⟩ := hrel
      have hsz := HB.out.size
      by_cases hlt : j < N
      · have c0 := HCr.out.2 j hlt
        obtain ⟨t, ht⟩ : ∃ t, (parts S.data.toList)[j]'(by rw [HN.out]; exact hlt) = t := ⟨_, rfl⟩
        rw [ht] at c0
        have hts : (bstr t).size ≤ 1048577 := by
          have h1 := parts_mem (S := S) (x := t) (by rw [← ht]; exact List.getElem_mem _)
          have h2 : (bstr t).size = t.length := by simp [bstr, ByteArray.size]
          omega
        have HLn := Lib.hid (show ((nums S).take j).length = j by rw [List.length_take]; simp [nums, HN.out]; omega)
        have HT := Lib.hid (show (nums S).take (j + 1) = (nums S).take j ++ [digV t] by rw [List.take_succ_eq_append_getElem (by simp [nums, HN.out]; exact hlt)]; simp [nums, ht])
        have HD := Lib.hid (show digV (bstr t).data.toList = digV t by simp [bstr])
        clear ht
        go_wp2_with fail
        refine (l1Digits_any (bstr t) _ hts).mono ?_
        rintro e w' ⟨rfl, rfl⟩
        rw [HD.out]
        obtain ⟨z, hz⟩ : ∃ z, digV t = z := ⟨_, rfl⟩
        rw [hz] at HT
        rw [hz]
        clear hz
        go_wp2_with (at_builtin; refine wpList_append1 (x := z) HO.out (.tmp 20) (.tmp 26) (by rfl) rfl rfl rfl (by rw [HLn.out]; omega) (by omega) ?_; intro v4 w4 ho4 hb4 hg4 hat4; have O4 := hide (show Own w4 w.heap.size v4 ((nums S).take (j + 1)) by rw [HT.out]; exact ho4); have B4 := hide (HB.out.grown hg4 hsz (fun k hk => (HO.out.lt k hk).1)); have HC4 := hide (show g < w4.heap.size ∧ ∀ j, (h : j < N) → w4.cell? ⟨g, j, none⟩ = some (.string (bstr ((parts S.data.toList)[j]'(by rw [HN.out]; exact h)))) from ⟨Nat.lt_of_lt_of_le HCr.out.1 hg4.size, fun j h => hg4.cell (HCr.out.2 j h) (fun e => HV.out e.symm)⟩); have HV4 := hide (show v4.ownBlock ≠ some g from by rcases hat4 with e | ⟨g', e, hg'⟩; (· rw [e]; exact HV.out); (· rw [e]; have := HCr.out.1; simp; omega)); clear hat4 ho4 hb4 hg4)
        go_roundw
        case rel => exact ⟨j + 1, v4, by omega, by go_num, rfl, O4, HV4, HC4, B4⟩
        case measure => simp [intOf]; omega
      · obtain rfl : j = N := by omega
        have HO2 : Hid (Own wr w.heap.size v (nums S)) := by have := HO.out; rwa [List.take_of_length_le (by simp [nums, HN.out])] at this
        obtain ⟨A, c9, rfl, hr⟩ := HO2.out.slice
        have HR := hide hr
        clear hr HO HV
        by_cases h0 : S = ⟨#[]⟩
        · have HQ := Lib.hid (show readOk i o S = false by simp [readOk, h0])
          have HE := Lib.hid (show readF i o S = [] by rw [readF, HQ.out, if_neg (by simp)])
          subst h0
          go_wp2_with fail
          exact bodyPost_ret (v := .tuple #[.slice (some ⟨wr.heap.size, 0, none⟩) 0 0, .bool false]) (by simp [results, Tryd.results7, go_sem]) rfl ⟨⟨_, by rw [HQ.out], by rw [HE.out]; exact Own.nil0 _ _ hsz⟩, HB.out.alloc hsz _⟩
        · have h2 := list_nil h0
          have h3 : S.toList.isEmpty = false := by simpa using h2
          obtain ⟨T, hT⟩ : ∃ T, funcStr i o (nums S) = T := ⟨_, rfl⟩
          have HX := hide (sFuncText_any i o A (nums S).length c9 (nums S) wr HR.out)
          rw [hT] at HX
          have HTT := Lib.hid hT
          clear hT
          go_wp2_with fail
          refine HX.out.mono ?_
          rintro e w3 ⟨rfl, hb3⟩
          have HB3 := hide (bseq HB.out hb3)
          have HO3 := hide (HO2.out.below hb3)
          have hsz3 := HB3.out.size
          clear hb3
          by_cases hTS : T = S
          · have HQ := Lib.hid (show readOk i o S = true by simp [readOk, h0]; rw [HTT.out]; exact hTS)
            have HE := Lib.hid (show readF i o S = nums S by rw [readF, HQ.out, if_pos rfl])
            subst hTS
            go_wp2_with fail
            exact bodyPost_ret (v := .tuple #[.slice A (nums T).length c9, .bool true]) (by simp [results, Tryd.results7, go_sem]) rfl ⟨⟨_, by rw [HQ.out], by rw [HE.out]; exact HO3.out⟩, HB3.out⟩
          · have HQ := Lib.hid (show readOk i o S = false by simp [readOk, h0]; rw [HTT.out]; exact hTS)
            have HE := Lib.hid (show readF i o S = [] by rw [readF, HQ.out, if_neg (by simp)])
            have e3 := list_beq hTS
            have e4 := list_ne hTS
            go_wp2_with fail
            exact bodyPost_ret (v := .tuple #[.slice (some ⟨w3.heap.size, 0, none⟩) 0 0, .bool false]) (by simp [results, Tryd.results7, go_sem]) rfl ⟨⟨_, by rw [HQ.out], by rw [HE.out]; exact Own.nil0 _ _ hsz3⟩, HB3.out.alloc hsz3 _⟩
end Go.Proofs.YtokcappgaokeaaaDoor
