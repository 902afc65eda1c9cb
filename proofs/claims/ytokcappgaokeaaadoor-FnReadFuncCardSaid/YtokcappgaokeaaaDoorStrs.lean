/-
  Slices of strings of the call's own; numbers joined with a text between them.
  No condition.
-/
import Derived.Test.YtokcappgaokeaaaDoorWord
import Derived.Test.YtokcappgaokeaaaDoorShelf
namespace Go.Proofs.YtokcappgaokeaaaDoor
open Go.RowKit Go.Sort base
def OwnS (w : World) (base : Nat) (v : Value) (ss : List ByteArray) : Prop := w.ownsRow base 9 1 v ss.length (ss.map Value.string)
theorem OwnS.lt {w : World} {base : Nat} {v : Value} {ss : List ByteArray} (h : OwnS w base v ss) : ∀ k, v.ownBlock = some k → base ≤ k ∧ k < w.heap.size := World.ownsRow.lt h
theorem OwnS.alloc {w : World} {base : Nat} {v : Value} {ss : List ByteArray} (h : OwnS w base v ss) (o : Obj) : OwnS (w.alloc o) base v ss := World.ownsRow.alloc h o
theorem OwnS.below {w w' : World} {base : Nat} {v : Value} {ss : List ByteArray} (h : OwnS w base v ss) (hb : Below w.heap.size w w') : OwnS w' base v ss :=
  World.ownsRow.kept (row := none) h ⟨hb.os, hb.tape, hb.output, hb.size, fun k hk _ => hb.block k hk⟩ (by cases v.ownBlock <;> simp)
theorem OwnS.form {w : World} {base : Nat} {v : Value} {ss : List ByteArray} (h : OwnS w base v ss) : (v = .slice none 0 0 ∧ ss = []) ∨ ∃ g c, v = .slice (some ⟨g, 0, none⟩) ss.length c ∧ base ≤ g ∧ g < w.heap.size ∧ ss.length ≤ c ∧ ∀ j x, ss[j]? = some x → w.cell? ⟨g, 0 + j, none⟩ = some (.string x) := by
  rcases h.2 with ⟨rfl, h0⟩ | ⟨g, cap, cur, rfl, hb, hg, hn, hm, _⟩
  · exact .inl ⟨rfl, List.eq_nil_of_length_eq_zero h0⟩
  · refine .inr ⟨g, cap, rfl, hb, (Array.getElem?_eq_some_iff.1 hg).1, hn, fun j x hx => ?_⟩
    have hj : j < ss.length := (List.getElem?_eq_some_iff.1 hx).1
    rw [Nat.zero_add, World.ownsRow.cellAt h j (by simpa using hj)]
    simp [hx]
theorem string_info : (Tryd.prog.info? 9).map (fun i => (i.zero, i.size, i.bytes)) = some (some (.string ⟨#[]⟩), 1, 16) := by kernel_rfl
theorem wpList_make0_strings {ops : Array Oper} {rest : List Oper} {o : Oper} {a : Act} {Q : Exit → Act → World → Prop} {w : World} (base n : Nat) (hg : o.guard = none) (l c : Operand) (hop : o.op = Op.makeSlice 38 l c)
    (hl : a.eval l = .int .i64 0) (C : Int) (hc : a.eval c = .int .i64 C) (hC : C = (n : Int)) (hn : n ≤ 4194304) (hb : base ≤ w.heap.size)
    (hK : ∀ w', OwnS w' base (.slice (some ⟨w.heap.size, 0, none⟩) 0 n) [] → Below base w w' → wpList Tryd.prog ops Q rest (a.put o.dst (.slice (some ⟨w.heap.size, 0, none⟩) 0 n)) w') :
    wpList Tryd.prog ops Q (o :: rest) a w := by
  obtain ⟨i0, hi, hz0, hz1, hz2⟩ := info_parts string_info
  exact wpList_make_own _ hg l c 38 hop base 9 i0 _ 1 Tryd.underlying38 hi hz0 hz1 _ _ _ n hl hc hC (by rw [hz2]; omega) (by unfold maxLen; omega) hb
    fun w' h1 h2 => hK w' h1 ((Below.refl _ _).grown h2 hb (by simp))
theorem wpList_append1s {ops : Array Oper} {rest : List Oper} {o : Oper} {a : Act} {Q : Exit → Act → World → Prop} {w : World} {base : Nat} {v : Value} {ss : List ByteArray} {x : ByteArray} (hown : OwnS w base v ss) (s y : Operand) (hg : o.guard = none)
    (ho : o.op = .call { callee := .builtin .append, args := #[s, y], argTypes := #[38, 38] }) (hs : a.eval s = v) (hx : a.eval y = .slice (some ⟨w.heap.size, 0, none⟩) 1 1)
    (hl : ss.length + 1 ≤ 4194304) (hb : base ≤ w.heap.size)
    (h : ∀ v' w', OwnS w' base v' (ss ++ [x]) → w.grownBy w' v.ownBlock → wpList Tryd.prog ops Q rest (a.put o.dst v') w') : wpList Tryd.prog ops Q (o :: rest) a (w.alloc (.cells #[.string x] 9)) := by
  obtain ⟨i0, hi, hz0, hz1, hz2⟩ := info_parts string_info
  refine wpList_append_own _ hg s y 38 ho base 9 i0 _ 1 16 Tryd.underlying38 hi hz0 hz1 hz2 rfl (by decide) v ss.length (ss.map Value.string) hs (hown.alloc _) ⟨w.heap.size, 0, none⟩ 1 1 [.string x] hx rfl ?_ ?_ (by unfold maxLen; omega) (by omega) (by simp; omega) ?_
  · intro j u hu
    rcases (show j = 0 ∨ 1 ≤ j by omega) with rfl | hj
    · simp at hu; subst hu; exact cell_at rfl rfl
    · rw [List.getElem?_eq_none (by simpa using hj)] at hu; cases hu
  · intro u hu
    simp at hu; subst hu; rfl
  · intro v' w' h1 h2 _
    refine h v' w' ?_ (grown_seq (World.grownBy_alloc w _ _) h2)
    unfold OwnS
    rw [List.length_append, List.map_append]
    exact h1
/-! ### numbers as texts -/
/-- the library's table of tens is there -/
def Tens (w : World) : Prop := Lib.TabIs Tryd.prog w "internal/strconv.uint64pow10" .u64 Lib.pow10Tab
theorem Tens.keep {w w' : World} (h : Tens w) (hs : ∀ k, k < w.heap.size → w'.heap[k]? = w.heap[k]?) : Tens w' := by
  unfold Tens Lib.TabIs World.var? at *
  cases hg : Tryd.prog.globalNamed "internal/strconv.uint64pow10" with
  | none => rw [hg] at h; cases h
  | some g =>
    rw [hg] at h
    simp only [Option.bind_some] at h ⊢
    have hlt : g < w.heap.size := by
      rcases Nat.lt_or_ge g w.heap.size with h1 | h1
      · exact h1
      · rw [Array.getElem?_eq_none h1] at h; cases h
    rw [hs g hlt]
    exact h
theorem Tens.below {w w' : World} (h : Tens w) (hb : Below w.heap.size w w') : Tens w' := h.keep fun k hk => hb.block k hk
theorem Tens.below' {B : Nat} {w w' : World} (h : Tens w) (hB : w.heap.size ≤ B) (hb : Below B w w') : Tens w' := h.keep fun k hk => hb.block k (by omega)
def txt (z : Int) : ByteArray := ⟨(Lib.itoa z).toArray⟩
def txts (zs : List Int) : List ByteArray := zs.map txt
/-- the numbers with a text between them -/
def joinZ (zs : List Int) (sep : ByteArray) : ByteArray := ⟨(Lib.join (zs.map Lib.itoa) sep.data.toList).toArray⟩
theorem txts_len (zs : List Int) : (txts zs).length = zs.length := by simp [txts]
theorem txts_snoc (zs : List Int) (z : Int) : txts (zs ++ [z]) = txts zs ++ [txt z] := by simp [txts]
theorem txts_list (zs : List Int) : (txts zs).map (·.data.toList) = zs.map Lib.itoa := by
  simp [txts, txt, List.map_map]
theorem dec_len : ∀ (k u : Nat), u < 10 ^ (k + 1) → (Lib.decDigits u).length ≤ k + 1
  | 0, u, h => by rw [Lib.decDigits, dif_pos (by omega)]; simp
  | k + 1, u, h => by
    rw [Lib.decDigits]
    split
    · simp
    · have h1 : u / 10 < 10 ^ (k + 1) := by
        rw [Nat.div_lt_iff_lt_mul (by omega)]
        calc u < 10 ^ (k + 2) := h
          _ = 10 ^ (k + 1) * 10 := by rw [Nat.pow_succ]
      have := dec_len k (u / 10) h1
      simp; omega
theorem itoa_len {z : Int} (h : (Lit.int .i64 z).wf = true) : (Lib.itoa z).length ≤ 21 := by
  simp [Lit.wf, IntKind.min, IntKind.max, IntKind.signed, IntKind.bits] at h
  unfold Lib.itoa
  split
  · have := dec_len 19 z.natAbs (by omega)
    simp; omega
  · have := dec_len 19 z.toNat (by omega)
    omega
theorem join_len (sep : List UInt8) (hs : sep.length ≤ 1) : ∀ (xs : List (List UInt8)), (∀ x ∈ xs, x.length ≤ 21) → (Lib.join xs sep).length ≤ 22 * xs.length := by
  intro xs hx
  unfold Lib.join
  induction xs with
  | nil => simp
  | cons x xs ih =>
    have h1 := hx x (by simp)
    have h2 := ih (fun y hy => hx y (by simp [hy]))
    rcases xs with _ | ⟨y, ys⟩
    · simp [List.intercalate, List.intersperse]; omega
    · simp only [List.intercalate, List.intersperse, List.flatten_cons, List.length_append, List.length_cons] at h2 ⊢
      omega
set_option maxHeartbeats 2000000 in
theorem joinZ_any (A : Option Addr) (n c : Nat) (zs : List Int) (sep : ByteArray) (w : World) (h : IR w A n zs) (hn : n ≤ 2097152) (hz : ∀ z ∈ zs, (Lit.int .i64 z).wf = true) (hsep : sep.data.toList.length ≤ 1) (ht : Tens w) :
    Calls Tryd.prog 25 #[.slice A n c, .string sep] w fun e w' => e = .returned (.string (joinZ zs sep)) ∧ Below w.heap.size w w' := by
  have H := hide h
  have HZ := hide hz
  have HT := hide ht
  have HLen := Lib.hid h.len
  clear h hz ht
  go_enter Tryd.func25, Tryd.ntmps25
  go_wp2_with (at_make; refine wpList_make0_strings w.heap.size n rfl _ _ rfl rfl _ rfl (by omega) (by omega) (Nat.le_refl _) ?_; intro w1 ho1 hb1; have O1 := hide ho1; have B1 := hide hb1; clear ho1 hb1)
  go_loopw [5, 13] (fun vv iv wr => ∃ (j : Nat) (v : Value), j ≤ n ∧ iv = .int .i64 j ∧ v = vv ∧ Hid (OwnS wr w.heap.size v (txts (zs.take j))) ∧ Hid (Below w.heap.size w wr)) (fun _ iv _ => n - (intOf iv).toNat)
  case atStart => exact ⟨0, _, by omega, rfl, rfl, O1, B1⟩
  case round =>
    obtain ⟨j, v, hj, rfl, rfl, HO, HB⟩ := hrel
    by_cases hlt : j < n
    · obtain ⟨b, o, rfl, hbl, hcc⟩ := (H.out.below HB.out).at_ (by omega)
      have c0 := hcc j hlt
      have hzj := HZ.out (nth zs j) (nth_mem (by have := HLen.out; omega))
      have HTk := Lib.hid (show zs.take (j + 1) = zs.take j ++ [nth zs j] from take_succ_nth (by have := HLen.out; omega))
      have hlen : (txts (zs.take j)).length = j := by rw [txts_len, List.length_take]; have := HLen.out; omega
      have HLn := Lib.hid hlen
      have HTj := hide (HT.out.below HB.out)
      have HZj := hide (show -9223372036854775808 ≤ nth zs j ∧ nth zs j ≤ 9223372036854775807 by simpa [Lit.wf, IntKind.min, IntKind.max, IntKind.signed, IntKind.bits] using hzj)
      clear hcc hlen hzj
      go_wp2_with fail
      refine (Tryd.strconv_Itoa _ HZj.out.1 HZj.out.2 _ HTj.out).mono ?_
      rintro e w2 ⟨rfl, kk, os, hw2⟩
      have hb2 : Below wr.heap.size wr w2 := by rw [hw2]; exact below_regrown wr (wr.drawn + kk) os
      have HO2 := hide (HO.out.below hb2)
      have HB2 := hide (bseq HB.out hb2)
      have hsz := HB2.out.size
      clear hw2 hb2 c0
      obtain ⟨t, ht⟩ : ∃ t : ByteArray, txt (nth zs j) = t := ⟨_, rfl⟩
      rw [show (⟨(Lib.itoa (nth zs j)).toArray⟩ : ByteArray) = t from ht]
      have HD := Lib.hid ht
      clear ht
      go_wp2_with (at_builtin; refine wpList_append1s (x := t) HO2.out (.tmp 17) (.tmp 20) rfl rfl rfl rfl (by rw [HLn.out]; omega) hsz ?_; intro v9 w9 ho9 hg9; have O9 := hide (show OwnS w9 w.heap.size v9 (txts (zs.take (j + 1))) by rw [HTk.out, txts_snoc, HD.out]; exact ho9); have B9 := hide (HB2.out.grown hg9 hsz (fun k hk => (HO2.out.lt k hk).1)); clear ho9 hg9)
      go_roundw
      case rel => exact ⟨j + 1, v9, by omega, by go_num, rfl, O9, B9⟩
      case measure => simp [intOf]; omega
    · obtain rfl : j = n := by omega
      have HO2 : Hid (OwnS wr w.heap.size v (txts zs)) := by have := HO.out; rwa [List.take_of_length_le (by rw [HLen.out]; omega)] at this
      have hj2 : (Lib.join ((txts zs).map (·.data.toList)) sep.data.toList) = Lib.join (zs.map Lib.itoa) sep.data.toList := by rw [txts_list]
      rcases HO2.out.form with ⟨rfl, h0⟩ | ⟨g, c', rfl, hbg, hgl, hcap, hcells⟩
      · have hz0 : zs = [] := by have := congrArg List.length h0; rw [txts_len] at this; exact List.eq_nil_of_length_eq_zero (by simpa using this)
        subst hz0
        go_wp2_with fail
        refine (Tryd.strings_Join_none none 0 sep _).mono ?_
        rintro e w' ⟨rfl, rfl⟩
        go_wp2_with fail
        go_ret
        exact ⟨rfl, HB.out⟩
      · have HJ := hide (Tryd.strings_Join g 0 c' (txts zs) sep wr hcells hgl (by rw [txts_len, HLen.out]; omega) hcap (by
          rw [hj2]
          have := join_len sep.data.toList hsep (zs.map Lib.itoa) (fun x hx => by obtain ⟨z, hz, rfl⟩ := List.mem_map.1 hx; exact itoa_len (HZ.out z hz))
          rw [List.length_map, HLen.out] at this
          omega))
        rw [hj2] at HJ
        clear hcells hj2
        go_wp2_with fail
        refine HJ.out.mono ?_
        rintro e w' ⟨rfl, hb⟩
        go_wp2_with fail
        go_ret
        exact ⟨rfl, bseq HB.out hb⟩
end Go.Proofs.YtokcappgaokeaaaDoor
