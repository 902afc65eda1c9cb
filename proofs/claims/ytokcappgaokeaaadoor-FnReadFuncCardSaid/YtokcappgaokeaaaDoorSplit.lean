/-
  strings.SplitSeq at a comma: what it hands over, piece by piece.
  No condition.
-/
import Derived.Lib.IndexLaws
import Derived.Test.YtokcappgaokeaaaDoorRange
namespace Go.Proofs.YtokcappgaokeaaaDoor
open Go.RowKit Go.Sort base
attribute [local go_sem] Oper.semAt_some
/-! ### pieces from the front -/
theorem fold_keep (l : List UInt8) : ∀ d c, (44 : UInt8) ∉ l → l.foldl cutF (d, c) = (d, c ++ l) := by
  induction l with
  | nil => intro d c _; simp
  | cons b l ih =>
    intro d c h
    have hb : ¬ b = 44 := fun e => h (by simp [e])
    have hl : (44 : UInt8) ∉ l := fun e => h (by simp [e])
    simp [cutF, hb, ih _ _ hl]
theorem fold_shift (l : List UInt8) : ∀ d e c, l.foldl cutF (d ++ e, c) = (d ++ (l.foldl cutF (e, c)).1, (l.foldl cutF (e, c)).2) := by
  induction l with
  | nil => intro d e c; rfl
  | cons b l ih =>
    intro d e c
    by_cases hb : b = 44
    · simp only [List.foldl_cons, cutF, hb, if_true, List.append_assoc, ih]
    · simp only [List.foldl_cons, cutF, hb, if_false, ih]
theorem parts_none {l : List UInt8} (h : (44 : UInt8) ∉ l) : parts l = [l] := by simp [parts, cutSt, fold_keep l [] [] h]
theorem parts_cons (x r : List UInt8) (h : (44 : UInt8) ∉ x) : parts (x ++ 44 :: r) = x :: parts r := by
  have e := fold_shift r [x] [] []
  simp only [List.append_nil] at e
  simp [parts, cutSt, List.foldl_append, fold_keep x [] [] h, cutF, e]
theorem parts_index {l : List UInt8} {o : Nat} (h : Lib.indexByte l 44 = o) : o < l.length ∧ parts l = l.take o :: parts (l.drop (o + 1)) := by
  obtain ⟨h1, h2⟩ := Lib.indexByte_some h
  obtain ⟨ho, hv⟩ := List.getElem?_eq_some_iff.1 h1
  refine ⟨ho, ?_⟩
  have e : l = l.take o ++ 44 :: l.drop (o + 1) := by
    rw [← hv, List.getElem_cons_drop, List.take_append_drop]
  have hn : (44 : UInt8) ∉ l.take o := by
    intro hm
    obtain ⟨k, hk, hkv⟩ := List.getElem_of_mem hm
    have hk' : k < o := by simp at hk; omega
    exact h2 k hk' (by rw [List.getElem?_eq_getElem (by omega)]; simpa using hkv)
  conv => lhs; rw [e]
  exact parts_cons _ _ hn
theorem parts_index_none {l : List UInt8} (h : Lib.indexByte l 44 = -1) : parts l = [l] := by
  refine parts_none fun hm => ?_
  obtain ⟨k, hk, hkv⟩ := List.getElem_of_mem hm
  exact Lib.indexByte_none h k (by rw [List.getElem?_eq_getElem hk, hkv])
/-! ### the iterator -/
def KpC (Bp Bs Bv : Nat) (X Y : World) : Prop := (∀ u, Boxed X Bp 9 u → Boxed Y Bp 9 u) ∧ (∀ u, Boxed X Bs 9 u → Boxed Y Bs 9 u) ∧ ∀ u, Boxed X Bv 3 u → Boxed Y Bv 3 u
theorem KpC.trans {Bp Bs Bv : Nat} {A B C : World} (h : KpC Bp Bs Bv A B) (k : KpC Bp Bs Bv B C) : KpC Bp Bs Bv A C := ⟨fun u hu => k.1 u (h.1 u hu), fun u hu => k.2.1 u (h.2.1 u hu), fun u hu => k.2.2 u (h.2.2 u hu)⟩
theorem run_strTo (S : ByteArray) (b : Nat) (hb : b ≤ S.size) (wx : World) : (Instr.slice 9 (.string S) none (some (.int .i64 (b : Int))) none).run Tryd.prog wx = .ok (.string (bstr (S.data.toList.take b))) wx := by
  have h1 : (0 : Int) ≤ (b : Int) := by omega
  have h2 : (b : Int) ≤ (S.size : Int) := by omega
  have e : S.extract 0 b = bstr (S.data.toList.take b) := by
    apply ByteArray.ext
    apply Array.toList_inj.1
    simp [bstr]
  simp [Instr.slice, run_underlying Tryd.underlying9, Instr.sliceBounds, run_sliceBound _ _ _ _ h1 h2, go_sem, e]
  try rw [if_pos hb]
  try (intro h; omega)
def restOf (W : World) (b : Nat) : Nat := match W.cell? ⟨b, 0, none⟩ with | some (.string s) => s.size | _ => 0
set_option maxRecDepth 100000 in
set_option maxHeartbeats 4000000 in
theorem split1_in (F : Fence) (n : Nat) (hF : F.fn 51) (hFi : F = Fence.wide) (hro : F.round = none) (hn : 2 ≤ n) (l Bp Bs Bv : Nat) (hps : Bp ≠ Bs) (hvs : Bv ≠ Bs) (L : List UInt8) (hL : L.length ≤ 1048577) (J Jx : List (List UInt8) → World → Prop)
    (hJ : ∀ s X v, J s X → J s (X.setCell ⟨Bs, 0, none⟩ v))
    (hY : ∀ pre x X, J pre X → pre ++ [x] <+: parts L → YieldAt F (n - 1) Tryd.prog l #[.string (bstr x)] X fun e Y =>
      (e = .returned (.bool true) ∧ J (pre ++ [x]) Y ∧ KpC Bp Bs Bv X Y) ∨ (e = .returned (.bool false) ∧ Jx (pre ++ [x]) Y))
    (W : World) (bp : Boxed W Bp 9 (.string ⟨#[44]⟩)) (bs : Boxed W Bs 9 (.string (bstr L))) (bv : Boxed W Bv 3 (.int .i64 0)) (h0 : J [] W) :
    CallsIn F n Tryd.prog 51 #[.func (.yield l) #[] #[], .pointer (some ⟨Bp, 0, none⟩), .pointer (some ⟨Bs, 0, none⟩), .pointer (some ⟨Bv, 0, none⟩)] W fun e Y => (∃ v, e = .returned v) ∧
      ((∃ xs, xs = parts L ∧ J xs Y) ∨ (∃ pre, pre <+: parts L ∧ Jx pre Y)) := by
  subst hFi
  have cp := bp.cell
  refine callsIn_of_wp Tryd.func51 rfl hF ?_ hro
  simp only [Tryd.ntmps51, List.size_toArray, List.length_cons, List.length_nil, Nat.reduceAdd, Nat.reduceSub, Array.replicate_succ, Array.replicate_zero, List.push_toArray, List.append_toArray, List.nil_append, List.cons_append]
  gi_wp2
  clear cp
  gi_loopw [] (fun wr => ∃ (pre : List (List UInt8)) (R : List UInt8), R.length ≤ 1048577 ∧ Hid (J pre wr) ∧ Hid (Boxed wr Bp 9 (.string ⟨#[44]⟩)) ∧ Hid (Boxed wr Bs 9 (.string (bstr R))) ∧ Hid (Boxed wr Bv 3 (.int .i64 0)) ∧ Hid (pre ++ parts R = parts L))
    (fun wr => restOf wr Bs)
  case atStart => exact ⟨[], L, hL, Lib.hid h0, Lib.hid bp, Lib.hid bs, Lib.hid bv, Lib.hid rfl⟩
  case round =>
    obtain ⟨pre, R, hR, HJ, HP, HS, HV, HE⟩ := hrel
    have bP := HP.out.cell
    have bS := HS.out.cell
    have fS := HS.out.frozen
    have bV := HV.out.cell
    by_cases hi : Lib.indexByte R 44 = -1
    · have HX := hide (show Calls Tryd.prog 53 #[.string (bstr R), .string ⟨#[44]⟩] wr (fun e w' => e = .returned (.int .i64 (-1)) ∧ w' = wr) by
        have := Tryd.strings_Index_one (bstr R) 44 wr
        rwa [show Lib.indexByte (bstr R).data.toList 44 = -1 from hi] at this)
      have hpr : parts R = [R] := parts_index_none hi
      have hpre : pre ++ [R] = parts L := by rw [← hpr]; exact HE.out
      clear hi
      obtain ⟨fn, tmps, assign, body, hy, hR⟩ := hY pre R wr HJ.out (by rw [hpre]; exact List.prefix_rfl)
      have HPRE := hide hpre
      clear hpr hpre
      gi_wp2_with (refine ⟨trivial, fun _ => by omega, ?_⟩; gi_at_call 53; refine (callsIn_wide.2 HX.out).mono ?_; rintro e w' ⟨rfl, rfl⟩)
      refine ⟨fun _ => by omega, hR.mono ?_⟩
      rintro e W3 (⟨rfl, hJ3, _⟩ | ⟨rfl, hJx3⟩)
      · gi_wp2
        go_end0
        exact ⟨⟨_, rfl⟩, .inl ⟨_, HPRE.out, hJ3⟩⟩
      · gi_wp2
        go_end0
        exact ⟨⟨_, rfl⟩, .inr ⟨_, by rw [HPRE.out]; exact List.prefix_rfl, hJx3⟩⟩
    · obtain ⟨o, ho⟩ : ∃ o : Nat, Lib.indexByte R 44 = o := by
        have := Lib.indexByte_ge R 44
        exact ⟨(Lib.indexByte R 44).toNat, by omega⟩
      clear hi
      have HX := hide (show Calls Tryd.prog 53 #[.string (bstr R), .string ⟨#[44]⟩] wr (fun e w' => e = .returned (.int .i64 (o : Int)) ∧ w' = wr) by
        have := Tryd.strings_Index_one (bstr R) 44 wr
        rwa [show Lib.indexByte (bstr R).data.toList 44 = o from ho] at this)
      obtain ⟨hoR, hpr⟩ := parts_index ho
      clear ho
      have hsz : (bstr R).size = R.length := by simp [bstr, ByteArray.size]
      have s1 := fun wx => run_strTo (bstr R) o (by omega) wx
      have s2 : ∀ wx, (Instr.slice 9 (.string (bstr R)) (some (.int .i64 ((o : Int) + 1))) none none).run Tryd.prog wx = .ok (.string (bstr (R.drop (o + 1)))) wx := fun wx => by
        have := run_strFrom (bstr R) (o + 1) (by omega) wx
        exact_mod_cast this
      rw [show (bstr R).data.toList = R from rfl] at s1
      have HSZ := hide hsz
      have HPRE : Hid (pre ++ [R.take o] ++ parts (R.drop (o + 1)) = parts L) := Lib.hid (by rw [← HE.out, hpr]; simp)
      clear hsz hpr HE
      obtain ⟨fn, tmps, assign, body, hy, hR3⟩ := hY pre (R.take o) wr HJ.out (by rw [← HPRE.out]; exact List.prefix_append _ _)
      gi_wp2_with (refine ⟨trivial, fun _ => by omega, ?_⟩; gi_at_call 53; refine (callsIn_wide.2 HX.out).mono ?_; rintro e w' ⟨rfl, rfl⟩)
      refine ⟨fun _ => by omega, hR3.mono ?_⟩
      rintro e W3 (⟨rfl, hJ3, hk3⟩ | ⟨rfl, hJx3⟩)
      · clear hy bP bS fS bV
        have P3 := hk3.1 _ HP.out
        have S3 := hk3.2.1 _ HS.out
        have V3 := hk3.2.2 _ HV.out
        have cP := P3.cell
        have cS := S3.cell
        have fS := S3.frozen
        gi_wp2
        go_roundw
        case rel => exact ⟨_, _, by simp; omega, Lib.hid (hJ _ _ _ hJ3), Lib.hid (P3.kept (grownBy_setCell' _ _ _) (by simpa using hps)), Lib.hid (S3.set _), Lib.hid (V3.kept (grownBy_setCell' _ _ _) (by simpa using hvs)), HPRE⟩
        case measure =>
          have e1 : restOf (W3.setCell ⟨Bs, 0, none⟩ (.string (bstr (R.drop (o + 1))))) Bs = (bstr (R.drop (o + 1))).size := by
            unfold restOf
            rw [(S3.set _).cell]
          have e2 : restOf w' Bs = (bstr R).size := by
            unfold restOf
            rw [HS.out.cell]
          rw [e1, e2, HSZ.out]
          simp [bstr, ByteArray.size]
          omega
      · gi_wp2
        refine bodyPost_ret (results_none rfl _ _ _) rfl ?_
        exact ⟨⟨_, rfl⟩, .inr ⟨_, by rw [← HPRE.out]; exact List.prefix_append _ _, hJx3⟩⟩
/-- the three boxes of the iterator -/
def seqW (w : World) (S p : ByteArray) : World := ((w.alloc (.cells #[.string S] 9)).alloc (.cells #[.string p] 9)).alloc (.cells #[.int .i64 0] 3)
def seqV (h : Nat) : Value := .func (.func 51) #[] #[.pointer (some ⟨h + 1, 0, none⟩), .pointer (some ⟨h, 0, none⟩), .pointer (some ⟨h + 2, 0, none⟩)]
set_option maxHeartbeats 1000000 in
theorem splitSeq_any (S p : ByteArray) (w : World) :
    Calls Tryd.prog 43 #[.string S, .string p, .int .i64 0] w fun e w' => e = .returned (seqV w.heap.size) ∧ w' = seqW w S p := by
  unfold seqV seqW
  go_enter Tryd.func43, Tryd.ntmps43
  go_wp2_with fail
  go_ret
  first | exact ⟨rfl, rfl⟩ | simp
set_option maxHeartbeats 1000000 in
theorem SplitSeq_any (S p : ByteArray) (w : World) :
    Calls Tryd.prog 34 #[.string S, .string p] w fun e w' => e = .returned (seqV w.heap.size) ∧ w' = seqW w S p := by
  go_enter Tryd.func34, Tryd.ntmps34
  go_wp2_with fail
  refine (splitSeq_any S p _).mono ?_
  rintro e w' ⟨rfl, rfl⟩
  go_wp2_with fail
  go_ret
  exact ⟨rfl, rfl⟩
theorem split_stops (n : Nat) (hn : 2 ≤ n) (Bp Bs Bv : Nat) (hps : Bp ≠ Bs) (hvs : Bv ≠ Bs) (L : List UInt8) (hL : L.length ≤ 1048577) (w : World)
    (bp : Boxed w Bp 9 (.string ⟨#[44]⟩)) (bs : Boxed w Bs 9 (.string (bstr L))) (bv : Boxed w Bv 3 (.int .i64 0)) :
    SeqCut Fence.wide n Tryd.prog 51 #[.pointer (some ⟨Bp, 0, none⟩), .pointer (some ⟨Bs, 0, none⟩), .pointer (some ⟨Bv, 0, none⟩)] (fun x : List UInt8 => #[.string (bstr x)]) Bs (KpC Bp Bs Bv) (fun xs => xs = parts L) (fun pre => pre <+: parts L) w :=
  fun l J Jx W hW hJ hY h0 => split1_in Fence.wide n trivial rfl rfl hn l Bp Bs Bv hps hvs L hL J Jx hJ hY W ((hW Bp bp.lt).trans bp) ((hW Bs bs.lt).trans bs) ((hW Bv bv.lt).trans bv) h0
end Go.Proofs.YtokcappgaokeaaaDoor
