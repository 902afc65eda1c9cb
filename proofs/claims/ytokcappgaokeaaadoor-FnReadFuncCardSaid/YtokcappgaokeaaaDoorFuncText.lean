/-
  The texts of functions, by the program and by the reference.
  No condition.
-/
import Derived.Test.YtokcappgaokeaaaDoorFunc
import Derived.Test.YtokcappgaokeaaaDoorNumText
namespace Go.Proofs.YtokcappgaokeaaaDoor
open Go.RowKit Go.Sort base
def comma : ByteArray := ⟨#[44]⟩
def funcStr (i o : Int) (f : List Int) : ByteArray := if fnOk i o f then joinZ f comma else ⟨#[]⟩
theorem fn_num {i o : Int} {f : List Int} (h : fnOk i o f = true) : f.length ≤ 16 ∧ 2 ≤ f.length ∧ ∀ z ∈ f, 0 ≤ z ∧ z ≤ 15 := by
  simp only [fnOk, Bool.and_eq_true, decide_eq_true_eq] at h
  obtain ⟨⟨⟨h1, h2⟩, h3⟩, h4⟩ := h
  refine ⟨?_, ?_, fun z hz => ?_⟩
  · rcases in14_cases h1 with rfl | rfl | rfl | rfl <;> simp [pw] at h3 <;> omega
  · rcases in14_cases h1 with rfl | rfl | rfl | rfl <;> simp [pw] at h3 <;> omega
  · have h5 : badWord o z = false := by
      simp only [Bool.not_eq_true', List.any_eq_false] at h4
      simpa using h4 z hz
    simp only [badWord, Bool.not_eq_false', wv, Bool.and_eq_true, decide_eq_true_eq] at h5
    rcases in14_cases h2 with rfl | rfl | rfl | rfl <;> simp [pw] at h5 <;> omega
theorem fn_wf {i o : Int} {f : List Int} (h : fnOk i o f = true) : ∀ z ∈ f, (Lit.int .i64 z).wf = true := fun z hz => by
  have := (fn_num h).2.2 z hz
  simp [Lit.wf, IntKind.min, IntKind.max, IntKind.signed, IntKind.bits]; omega
theorem join_snoc (sep y : List UInt8) : ∀ xs : List (List UInt8), xs ≠ [] → Lib.join (xs ++ [y]) sep = Lib.join xs sep ++ sep ++ y
  | [], h => absurd rfl h
  | [x], _ => by simp [Lib.join, List.intercalate, List.intersperse]
  | x :: x2 :: xs, _ => by
    have ih := join_snoc sep y (x2 :: xs) (by simp)
    simp only [Lib.join, List.intercalate, List.cons_append] at ih ⊢
    simp only [List.intersperse, List.flatten_cons] at ih ⊢
    rw [ih]
    simp
theorem joinZ_succ {f : List Int} {k : Nat} (hk : k < f.length) (h0 : 0 < k) : joinZ (f.take (k + 1)) comma = (joinZ (f.take k) comma ++ comma) ++ txt (nth f k) := by
  have hne : (f.take k).map Lib.itoa ≠ [] := by
    intro e
    have := congrArg List.length e
    rw [List.length_map, List.length_take, List.length_nil] at this; omega
  unfold joinZ
  rw [take_succ_nth hk, List.map_append, List.map_cons, List.map_nil, join_snoc _ _ _ hne]
  apply ByteArray.ext
  simp [txt]
theorem joinZ_one {f : List Int} (hk : 0 < f.length) : joinZ (f.take (0 + 1)) comma = txt (nth f 0) := by
  unfold joinZ
  rw [take_succ_nth hk]
  simp [Lib.join, List.intercalate, txt]
theorem joinZ_size (f : List Int) (h : ∀ z ∈ f, (Lit.int .i64 z).wf = true) : (joinZ f comma).size ≤ 22 * f.length := by
  have := join_len comma.data.toList (by decide) (f.map Lib.itoa) (fun x hx => by obtain ⟨z, hz, rfl⟩ := List.mem_map.1 hx; exact itoa_len (h z hz))
  rw [List.length_map] at this
  show (Lib.join (f.map Lib.itoa) comma.data.toList).toArray.size ≤ _
  simpa using this
theorem txt_size {z : Int} (h : (Lit.int .i64 z).wf = true) : (txt z).size ≤ 21 := by
  have := itoa_len h
  show (Lib.itoa z).toArray.size ≤ 21
  simpa using this
set_option maxHeartbeats 1000000 in
theorem funcText_any (i o : Int) (A : Option Addr) (n c : Nat) (f : List Int) (w : World) (h : IR w A n f) (ht : Tens w) :
    Calls Tryd.prog 13 #[.int .i64 i, .int .i64 o, .slice A n c] w fun e w' => e = .returned (.string (funcStr i o f)) ∧ Below w.heap.size w w' := by
  have H := hide h
  have HT := hide ht
  clear h ht
  cases hq : fnOk i o f
  · have HE := Lib.hid (show funcStr i o f = ⟨#[]⟩ by simp [funcStr, hq])
    have HQ := Lib.hid hq
    clear hq
    go_enter Tryd.func13, Tryd.ntmps13
    go_wp2_with fail
    refine (funcValid_b false i o _ _ _ f _ H.out HQ.out).mono ?_
    rintro e w1 ⟨rfl, hb1⟩
    go_wp2_with fail
    go_ret
    exact ⟨by rw [HE.out]; rfl, hb1⟩
  · have HE := Lib.hid (show funcStr i o f = joinZ f comma by simp [funcStr, hq])
    have HQ := Lib.hid hq
    have HW := hide (fn_wf hq)
    have hn : n ≤ 16 := by have := (fn_num hq).1; rw [H.out.len] at this; exact this
    clear hq
    go_enter Tryd.func13, Tryd.ntmps13
    go_wp2_with fail
    refine (funcValid_b true i o _ _ _ f _ H.out HQ.out).mono ?_
    rintro e w1 ⟨rfl, hb1⟩
    have H1 := hide (H.out.below hb1)
    have T1 := hide (HT.out.below hb1)
    have B1 := hide hb1
    clear hb1
    go_wp2_with fail
    refine (joinZ_any _ _ _ f comma _ H1.out (by omega) HW.out (by decide) T1.out).mono ?_
    rintro e w2 ⟨rfl, hb2⟩
    go_wp2_with fail
    go_ret
    exact ⟨by rw [HE.out]; rfl, bseq B1.out hb2⟩
set_option maxHeartbeats 2000000 in
theorem sFuncText_any (i o : Int) (A : Option Addr) (n c : Nat) (f : List Int) (w : World) (h : IR w A n f) :
    Calls Tryd.prog 14 #[.int .i64 i, .int .i64 o, .slice A n c] w fun e w' => e = .returned (.string (funcStr i o f)) ∧ Below w.heap.size w w' := by
  have H := hide h
  have HLen := Lib.hid h.len
  have hmax := h.max
  clear h
  cases hq : fnOk i o f
  · have HE := Lib.hid (show funcStr i o f = ⟨#[]⟩ by simp [funcStr, hq])
    have HQ := Lib.hid hq
    clear hq
    go_enter Tryd.func14, Tryd.ntmps14
    go_wp2_with fail
    go_loopw [7, 8] (fun s k wr => s = .string ⟨#[]⟩ ∧ k = .int .i64 0 ∧ w = wr) (fun _ _ _ => 0)
    case atStart => exact ⟨rfl, rfl, rfl⟩
    case round =>
      obtain ⟨rfl, rfl, rfl⟩ := hrel
      by_cases h0 : 0 < n
      · go_wp2_with fail
        refine (sFuncValid_b false i o _ _ _ f _ H.out HQ.out).mono ?_
        rintro e w' ⟨rfl, rfl⟩
        go_wp2_with fail
        go_ret
        exact ⟨by rw [HE.out]; rfl, Below.refl _ _⟩
      · go_wp2_with fail
        go_ret
        exact ⟨by rw [HE.out]; rfl, Below.refl _ _⟩
  · have HE := Lib.hid (show funcStr i o f = joinZ f comma by simp [funcStr, hq])
    have HQ := Lib.hid hq
    have HW := hide (fn_wf hq)
    have HN := hide (fn_num hq).2.2
    have hn : n ≤ 16 := by have := (fn_num hq).1; rw [HLen.out] at this; exact this
    have hn2 : 2 ≤ n := by have := (fn_num hq).2.1; rw [HLen.out] at this; exact this
    clear hq
    go_enter Tryd.func14, Tryd.ntmps14
    go_wp2_with fail
    go_loopw [7, 8] (fun s kv wr => ∃ (k : Nat) (S : ByteArray), k ≤ n ∧ s = .string S ∧ Hid (S = (if k = 0 then ⟨#[]⟩ else joinZ (f.take k) comma)) ∧ kv = .int .i64 k ∧ Hid (Below w.heap.size w wr)) (fun _ kv _ => n - (intOf kv).toNat)
    case atStart => exact ⟨0, ⟨#[]⟩, by omega, rfl, Lib.hid rfl, rfl, Below.refl _ _⟩
    case round =>
      obtain ⟨k, S, hk, rfl, HS, rfl, HB⟩ := hrel
      have H1 := hide (H.out.below HB.out)
      by_cases hlt : k < n
      · obtain ⟨b, o', rfl, hbl, hcc⟩ := H1.out.at_ (by omega)
        have c0 := hcc k hlt
        have hz := HN.out (nth f k) (nth_mem (by have := HLen.out; omega))
        obtain ⟨z, hzz⟩ := Int.eq_ofNat_of_zero_le hz.1
        rw [hzz] at c0
        have hz15 : z ≤ 15 := by omega
        obtain ⟨T, hT⟩ : ∃ T, txt (z : Nat) = T := ⟨_, rfl⟩
        have hTs : T.size ≤ 21 := by rw [← hT]; exact txt_size (by simp [Lit.wf, IntKind.min, IntKind.max, IntKind.signed, IntKind.bits]; omega)
        have HT := Lib.hid hT
        have HZ := Lib.hid hzz
        clear hcc hz hT hzz
        by_cases hk0 : k = 0
        · subst hk0
          rw [Nat.add_zero] at c0
          obtain rfl : S = ⟨#[]⟩ := by have := HS.out; rwa [if_pos rfl] at this
          have HR := Lib.hid (show (⟨#[]⟩ : ByteArray) ++ T = (if 0 + 1 = 0 then ⟨#[]⟩ else joinZ (f.take (0 + 1)) comma) by
            rw [if_neg (by omega), joinZ_one (by rw [HLen.out]; omega), HZ.out, HT.out]; apply ByteArray.ext; simp)
          have hs0 : (⟨#[]⟩ : ByteArray).size = 0 := rfl
          go_wp2_with fail
          refine (sFuncValid_b true i o _ _ _ f _ H1.out HQ.out).mono ?_
          rintro e w' ⟨rfl, rfl⟩
          go_wp2_with fail
          refine (l1Number_txt z _ (by omega)).mono ?_
          rintro e w2 ⟨rfl, hb2⟩
          have HB2 := hide (bseq HB.out hb2)
          clear hb2 c0
          rw [HT.out]
          go_wp2_with fail
          go_roundw
          case rel => exact ⟨0 + 1, _, by omega, rfl, HR, by go_num, HB2.out⟩
          case measure => simp [intOf]; omega
        · have HS2 := Lib.hid (show S = joinZ (f.take k) comma by have := HS.out; rwa [if_neg hk0] at this)
          have HR := Lib.hid (show (S ++ comma) ++ T = (if k + 1 = 0 then ⟨#[]⟩ else joinZ (f.take (k + 1)) comma) by
            rw [if_neg (by omega), joinZ_succ (by rw [HLen.out]; omega) (by omega), HZ.out, HT.out, ← HS2.out])
          have hsz : S.size ≤ 1000 := by
            rw [HS2.out]
            have := joinZ_size (f.take k) (fun z hz => HW.out z (List.mem_of_mem_take hz))
            rw [List.length_take] at this; omega
          have hcs : (⟨#[44]⟩ : ByteArray).size = 1 := rfl
          have hsz2 : (S ++ (⟨#[44]⟩ : ByteArray)).size ≤ 1001 := by rw [ByteArray.size_append]; omega
          go_wp2_with fail
          refine (sFuncValid_b true i o _ _ _ f _ H1.out HQ.out).mono ?_
          rintro e w' ⟨rfl, rfl⟩
          go_wp2_with fail
          refine (l1Number_txt z _ (by omega)).mono ?_
          rintro e w2 ⟨rfl, hb2⟩
          have HB2 := hide (bseq HB.out hb2)
          clear hb2 c0
          rw [HT.out]
          go_wp2_with fail
          go_roundw
          case rel => exact ⟨k + 1, _, by omega, rfl, HR, by go_num, HB2.out⟩
          case measure => simp [intOf]; omega
      · obtain rfl : k = n := by omega
        have HS2 := Lib.hid (show S = joinZ f comma by have := HS.out; rw [if_neg (by omega), List.take_of_length_le (by have := HLen.out; omega)] at this; exact this)
        go_wp2_with fail
        go_ret
        exact ⟨by rw [HE.out, ← HS2.out]; rfl, HB.out⟩
end Go.Proofs.YtokcappgaokeaaaDoor
