/-
  Slices of strings of the call's own; 'joined' at digits; the texts of rings by the program.
  No condition.
-/
import Derived.Test.YtffehcklfhcleaaDoorRingBit
import Derived.Test.YtffehcklfhcleaaDoorShelf
namespace Go.Proofs.YtffehcklfhcleaaDoor
open Go.RowKit Go.Sort base
def OwnS (w : World) (base : Nat) (v : Value) (ss : List ByteArray) : Prop := w.ownsRow base 9 1 v ss.length (ss.map Value.string)
theorem OwnS.lt {w : World} {base : Nat} {v : Value} {ss : List ByteArray} (h : OwnS w base v ss) : ∀ k, v.ownBlock = some k → base ≤ k ∧ k < w.heap.size := World.ownsRow.lt h
theorem OwnS.alloc {w : World} {base : Nat} {v : Value} {ss : List ByteArray} (h : OwnS w base v ss) (o : Obj) : OwnS (w.alloc o) base v ss := World.ownsRow.alloc h o
theorem OwnS.form {w : World} {base : Nat} {v : Value} {ss : List ByteArray} (h : OwnS w base v ss) : (v = .slice none 0 0 ∧ ss = []) ∨ ∃ g c, v = .slice (some ⟨g, 0, none⟩) ss.length c ∧ base ≤ g ∧ g < w.heap.size ∧ ss.length ≤ c ∧ ∀ j x, ss[j]? = some x → w.cell? ⟨g, 0 + j, none⟩ = some (.string x) := by
  rcases h.2 with ⟨rfl, h0⟩ | ⟨g, cap, cur, rfl, hb, hg, hn, hm, _⟩
  · exact .inl ⟨rfl, List.eq_nil_of_length_eq_zero h0⟩
  · refine .inr ⟨g, cap, rfl, hb, (Array.getElem?_eq_some_iff.1 hg).1, hn, fun j x hx => ?_⟩
    have hj : j < ss.length := (List.getElem?_eq_some_iff.1 hx).1
    rw [Nat.zero_add, World.ownsRow.cellAt h j (by simpa using hj)]
    simp [hx]
theorem string_info : (Tryd.prog.info? 9).map (fun i => (i.zero, i.size, i.bytes)) = some (some (.string ⟨#[]⟩), 1, 16) := by kernel_rfl
theorem wpList_make0_strings {ops : Array Oper} {rest : List Oper} {o : Oper} {a : Act} {Q : Exit → Act → World → Prop} {w : World} (base n : Nat) (hg : o.guard = none) (l c : Operand) (hop : o.op = Op.makeSlice 45 l c)
    (hl : a.eval l = .int .i64 0) (C : Int) (hc : a.eval c = .int .i64 C) (hC : C = (n : Int)) (hn : n ≤ 1000) (hb : base ≤ w.heap.size)
    (hK : ∀ w', OwnS w' base (.slice (some ⟨w.heap.size, 0, none⟩) 0 n) [] → Below base w w' → wpList Tryd.prog ops Q rest (a.put o.dst (.slice (some ⟨w.heap.size, 0, none⟩) 0 n)) w') :
    wpList Tryd.prog ops Q (o :: rest) a w := by
  obtain ⟨i0, hi, hz0, hz1, hz2⟩ := info_parts string_info
  exact wpList_make_own _ hg l c 45 hop base 9 i0 _ 1 Tryd.underlying45 hi hz0 hz1 _ _ _ n hl hc hC (by rw [hz2]; omega) (by unfold maxLen; omega) hb
    fun w' h1 h2 => hK w' h1 ((Below.refl _ _).grown h2 hb (by simp))
theorem wpList_append1s {ops : Array Oper} {rest : List Oper} {o : Oper} {a : Act} {Q : Exit → Act → World → Prop} {w : World} {base : Nat} {v : Value} {ss : List ByteArray} {x : ByteArray} (hown : OwnS w base v ss) (s y : Operand) (hg : o.guard = none)
    (ho : o.op = .call { callee := .builtin .append, args := #[s, y], argTypes := #[45, 45] }) (hs : a.eval s = v) (hx : a.eval y = .slice (some ⟨w.heap.size, 0, none⟩) 1 1)
    (hl : ss.length + 1 ≤ 1000) (hb : base ≤ w.heap.size)
    (h : ∀ v' w', OwnS w' base v' (ss ++ [x]) → w.grownBy w' v.ownBlock → wpList Tryd.prog ops Q rest (a.put o.dst v') w') : wpList Tryd.prog ops Q (o :: rest) a (w.alloc (.cells #[.string x] 9)) := by
  obtain ⟨i0, hi, hz0, hz1, hz2⟩ := info_parts string_info
  refine wpList_append_own _ hg s y 45 ho base 9 i0 _ 1 16 Tryd.underlying45 hi hz0 hz1 hz2 rfl (by decide) v ss.length (ss.map Value.string) hs (hown.alloc _) ⟨w.heap.size, 0, none⟩ 1 1 [.string x] hx rfl ?_ ?_ (by unfold maxLen; omega) (by omega) (by simp; omega) ?_
  · intro j u hu
    rcases (show j = 0 ∨ 1 ≤ j by omega) with rfl | hj
    · simp at hu; subst hu; exact cell_at rfl rfl
    · rw [List.getElem?_eq_none (by simpa using hj)] at hu; cases hu
  · intro u hu
    simp at hu; subst hu; rfl
  · intro v' w' h1 h2 _
    refine h v' w' ?_ (grown_seq (World.grownBy_alloc w _ _) h2)
    unfold OwnS
    rw [List.length_append, List.map_append]
    exact h1
/-! ### digits -/
def dig (z : Int) : UInt8 := UInt8.ofNat (48 + z.toNat)
def digs (zs : List Int) : List UInt8 := zs.map dig
def digW (zs : List Int) : List ByteArray := zs.map fun z => ⟨#[dig z]⟩
theorem digW_len (zs : List Int) : (digW zs).length = zs.length := by simp [digW]
theorem digW_snoc (zs : List Int) (z : Int) : digW (zs ++ [z]) = digW zs ++ [⟨#[dig z]⟩] := by simp [digW]
theorem join_digW : ∀ zs : List Int, Lib.join ((digW zs).map (·.data.toList)) [] = digs zs
  | [] => rfl
  | z :: zs => by
    have ih := join_digW zs
    simp only [digW, digs, Lib.join, List.map_cons, List.map_map] at ih ⊢
    rcases zs with _ | ⟨y, zs⟩
    · rfl
    · simp only [List.map_cons, List.intercalate, List.intersperse, List.flatten_cons] at ih ⊢
      rw [ih]
      rfl
theorem decDigits_one {i : Nat} (h : i < 10) : Lib.decDigits i = [UInt8.ofNat (48 + i)] := by rw [Lib.decDigits, dif_pos h]
set_option maxHeartbeats 2000000 in
theorem joined_any (A : Option Addr) (n c : Nat) (zs : List Int) (w : World) (h : IR w A n zs) (hn : n ≤ 100) (hz : ∀ z ∈ zs, 0 ≤ z ∧ z ≤ 9) :
    Calls Tryd.prog 19 #[.slice A n c, .string ⟨#[]⟩] w fun e w' => e = .returned (.string ⟨(digs zs).toArray⟩) ∧ Below w.heap.size w w' := by
  have H := hide h
  have HZ := hide hz
  have HLen := Lib.hid h.len
  clear h hz
  go_enter Tryd.func19, Tryd.ntmps19
  go_wp2_with (at_make; refine wpList_make0_strings w.heap.size n rfl _ _ rfl rfl _ rfl (by omega) (by omega) (Nat.le_refl _) ?_; intro w1 ho1 hb1; have O1 := hide ho1; have B1 := hide hb1; clear ho1 hb1)
  go_loopw [5, 13] (fun vv iv wr => ∃ (j : Nat) (v : Value), j ≤ n ∧ iv = .int .i64 j ∧ v = vv ∧ Hid (OwnS wr w.heap.size v (digW (zs.take j))) ∧ Hid (Below w.heap.size w wr)) (fun _ iv _ => n - (intOf iv).toNat)
  case atStart => exact ⟨0, _, by omega, rfl, rfl, O1, B1⟩
  case round =>
    obtain ⟨j, v, hj, rfl, rfl, HO, HB⟩ := hrel
    by_cases hlt : j < n
    · obtain ⟨b, o, rfl, hbl, hcc⟩ := (H.out.below HB.out).at_ (by omega)
      have c0 := hcc j hlt
      have hzj := HZ.out (nth zs j) (by have := HLen.out; simp [nth, List.getD_eq_getElem?_getD, List.getElem?_eq_getElem (show j < zs.length by omega)])
      have HT := Lib.hid (show zs.take (j + 1) = zs.take j ++ [nth zs j] by have := HLen.out; rw [List.take_add_one, List.getElem?_eq_getElem (show j < zs.length by omega)]; simp [nth, List.getElem?_eq_getElem (show j < zs.length by omega)])
      obtain ⟨x, hx⟩ := Int.eq_ofNat_of_zero_le hzj.1
      rw [hx] at c0 HT
      have hx9 : x < 10 := by omega
      have hsz := HB.out.size
      have hlen : (digW (zs.take j)).length = j := by rw [digW_len, List.length_take]; have := HLen.out; omega
      have HLn := Lib.hid hlen
      clear hcc hzj hx hlen
      go_wp2_with fail
      refine (Tryd.strconv_Itoa_small x (by omega) _).mono ?_
      rintro e w' ⟨rfl, rfl⟩
      rw [show (Lib.decDigits x) = [dig x] from decDigits_one hx9]
      obtain ⟨t, ht⟩ : ∃ t, dig x = t := ⟨_, rfl⟩
      rw [ht]
      have HD := Lib.hid ht
      clear ht
      go_wp2_with (at_builtin; refine wpList_append1s (x := ⟨#[t]⟩) HO.out (.tmp 17) (.tmp 20) rfl rfl rfl rfl (by rw [HLn.out]; omega) hsz ?_; intro v9 w9 ho9 hg9; have O9 := hide (show OwnS w9 w.heap.size v9 (digW (zs.take (j + 1))) by rw [HT.out, digW_snoc, HD.out]; exact ho9); have B9 := hide (HB.out.grown hg9 hsz (fun k hk => (HO.out.lt k hk).1)); clear ho9 hg9)
      go_roundw
      case rel => exact ⟨j + 1, v9, by omega, by go_num, rfl, O9, B9⟩
      case measure => simp [intOf]; omega
    · obtain rfl : j = n := by omega
      have HO2 : Hid (OwnS wr w.heap.size v (digW zs)) := by have := HO.out; rwa [List.take_of_length_le (by rw [HLen.out]; omega)] at this
      have hj2 : (Lib.join ((digW zs).map (·.data.toList)) (ByteArray.mk #[]).data.toList) = digs zs := join_digW zs
      rcases HO2.out.form with ⟨rfl, h0⟩ | ⟨g, c', rfl, hbg, hgl, hcap, hcells⟩
      · have hz0 : zs = [] := by have := congrArg List.length h0; rw [digW_len] at this; exact List.eq_nil_of_length_eq_zero (by simpa using this)
        subst hz0
        go_wp2_with fail
        refine (Tryd.strings_Join_none none 0 ⟨#[]⟩ _).mono ?_
        rintro e w' ⟨rfl, rfl⟩
        go_wp2_with fail
        go_ret
        exact ⟨rfl, HB.out⟩
      · have HJ := hide (Tryd.strings_Join g 0 c' (digW zs) ⟨#[]⟩ wr hcells hgl (by rw [digW_len, HLen.out]; omega) hcap (by rw [hj2]; simp [digs, HLen.out]; omega))
        rw [hj2] at HJ
        clear hcells hj2
        go_wp2_with fail
        refine HJ.out.mono ?_
        rintro e w' ⟨rfl, hb⟩
        go_wp2_with fail
        go_ret
        exact ⟨rfl, bseq HB.out hb⟩
end Go.Proofs.YtffehcklfhcleaaDoor
