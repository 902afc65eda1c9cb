/-
  The walk of the law FnFuncValid: it returns true at every input, and turns nothing that was there.
  No condition.
-/
import Derived.Test.YtmfchamhankaoaaDrawFunc
import Derived.Test.YtmfchamhankaoaaMade
namespace Go.Proofs.Ytmfchamhankaoaa
open Go.RowKit Go.Sort base
/-- 'make([]int, n)' under a guard that is wanted -/
theorem wpList_make_ints_w {ops : Array Oper} {rest : List Oper} {o : Oper} {a : Act} {Q : Exit → Act → World → Prop} {w : World} (base n : Nat) (hw : Region.wanted o (yielded ops a.tmps) = true) (l c : Operand) (hop : o.op = Op.makeSlice 23 l c)
    (hl : a.eval l = .int .i64 (n : Int)) (hc : a.eval c = .int .i64 (n : Int)) (hn : n ≤ 8388608) (hb : base ≤ w.heap.size)
    (hK : ∀ w', Own w' base (.slice (some ⟨w.heap.size, 0, none⟩) n n) (List.replicate n 0) → Below base w w' → wpList Try.prog ops Q rest (a.put o.dst (.slice (some ⟨w.heap.size, 0, none⟩) n n)) w') :
    wpList Try.prog ops Q (o :: rest) a w := by
  obtain ⟨i0, hi, hz0, hz1, hz2⟩ := info_parts int_info
  obtain ⟨w', hrun, r1, r2⟩ := run_make_full (P := Try.prog) w base 23 3 i0 (.int .i64 0) 1 Try.underlying23 hi hz0 hz1 .i64 .i64 n (by rw [hz2]; omega) (by unfold maxLen; omega) hb
  refine wpList_step fun K hK' => ?_
  rw [if_pos hw]
  unfold Oper.wp
  simp [execOp, hop, hl, hc, hrun, Result.andThen]
  refine hK' _ _ (hK w' ?_ ((Below.refl _ _).grown r2 hb (by simp)))
  rw [made_ints] at r1
  unfold Own
  rw [List.length_replicate]
  simpa using r1
theorem fnOk_zeros {i o : Int} {f : List Int} (h : fnOk i o f = true) : fnOk i o (List.replicate f.length 0) = true := by
  obtain ⟨hi, ho, hl, _⟩ := fnOk_out h
  have hw : wv o 0 = true := by rcases in14_cases ho with rfl | rfl | rfl | rfl <;> decide
  unfold fnOk
  rw [hi, ho, List.length_replicate, hl]
  simp only [decide_true, Bool.and_self, Bool.true_and, Bool.not_eq_true']
  rw [List.any_eq_false]
  intro x hx
  rw [List.eq_of_mem_replicate hx]
  simp [badWord, hw]
theorem fnOk_more {i o : Int} {f : List Int} (h : fnOk i o f = true) : fnOk i o ([] ++ f ++ [0]) = false := by
  obtain ⟨_, _, hl, _⟩ := fnOk_out h
  have : decide ((([] ++ f ++ [0] : List Int).length : Int) = pw i) = false := by simp; omega
  unfold fnOk
  rw [this]
  simp
set_option maxRecDepth 100000 in
set_option maxHeartbeats 4000000 in
theorem walk_FnFuncValid (Ap : Option Addr) (np cp : Nat) (zp : List Int) (w : World) (hp : IRk .u8 w Ap np zp) (yp : ∀ z ∈ zp, (Lit.int .u8 z).wf = true) (dp : np ≤ cp) :
    Calls Try.prog 3 #[.slice Ap np cp] w fun e w' => e = .returned (.bool true) ∧ Below w.heap.size w w' := by
  have maxp := hp.max
  have Hp := hide hp
  have Yp := hide yp
  clear hp yp
  by_cases bigp : 1048576 < np
  · go_enter Try.func3, Try.ntmps3
    go_wp2_with fail
    go_ret
    exact ⟨rfl, Below.refl _ _⟩
  go_enter Try.func3, Try.ntmps3
  have B0 := hide (Below.refl w.heap.size w)
  go_wp2_with fail
  refine (drawFuncValid_any Ap np cp zp _ (Hp.out.below B0.out) Yp.out dp).mono ?_
  rintro e w1 ⟨⟨i, o, vf, f, rfl, of, lf, i1, i2, o1, o2⟩, hb1⟩
  have B1 := hide (bseq B0.out hb1)
  clear hb1
  obtain ⟨Af, nf, cf, rfl, rf⟩ := of.slice'
  have f_1 := hide rf
  clear of rf
  have HLF := Lib.hid f_1.out.len
  have lf' : nf ≤ 17 := by have := HLF.out; omega
  obtain ⟨ok, hok⟩ : ∃ ok, fnOk i o f = ok := ⟨_, rfl⟩
  have HOK := Lib.hid hok
  clear hok
  go_wp2_with fail
  refine (funcValid_b ok i o _ _ _ f _ f_1.out HOK.out).mono ?_
  rintro e w2 ⟨rfl, hb2⟩
  have B2 := hide (bseq B1.out hb2)
  have f_2 := hide (f_1.out.below hb2)
  clear hb2
  go_wp2_with fail
  refine (sFuncValid_b ok i o _ _ _ f _ f_2.out HOK.out).mono ?_
  rintro e w' ⟨rfl, rfl⟩
  have en : (ok != ok) = false := by simp
  cases ok
  · go_wp2_with (go_at_call 11; refine (alive_any _).mono ?_; rintro e w' ⟨rfl, rfl⟩)
    go_ret
    exact ⟨by first | rfl | (simp; omega) | simp, B2.out⟩
  · go_wp2_with (at_make; refine wpList_make_ints_w _ nf (by rfl) _ _ rfl rfl rfl (by omega) (Nat.le_refl _) ?_; intro w3 oa hb3)
    have B3 := hide (bseq B2.out hb3)
    have f_3 := hide (f_2.out.below hb3)
    clear hb3
    have Z_3 := hide (Own.ir oa)
    clear oa
    refine (funcValid_b true i o _ _ _ (List.replicate nf 0) _ Z_3.out (by rw [← HLF.out]; exact fnOk_zeros HOK.out)).mono ?_
    rintro e w4 ⟨rfl, hb4⟩
    have B4 := hide (bseq B3.out hb4)
    have f_4 := hide (f_3.out.below hb4)
    have Z_4 := hide (Z_3.out.below hb4)
    clear hb4
    have hsz := B4.out.size
    have O4 := hide (Own.nil0 w4 w.heap.size hsz)
    have R4 := hide (f_4.out.below ((Below.refl _ w4).alloc (Nat.le_refl _) (.cells #[] 3)))
    have B4 := hide (B4.out.alloc hsz (.cells #[] 3))
    go_wp2_with (first | (at_builtin; refine wpList_append_ints O4.out R4.out (.tmp 42) (.tmp 43) (by rfl) rfl rfl rfl (by simp; omega) (by simp; omega) ?_; intro v5 w5 ho5 hg5 hat5; have O5 := hide ho5; have B5 := hide (B4.out.grown hg5 (by simp; omega) (fun k hk => (O4.out.lt k hk).1)); have hs5 := B5.out.size; clear ho5 hg5 hat5) | (at_builtin; refine wpList_append1 O5.out (.tmp 44) (.tmp 45) (by rfl) rfl rfl rfl (by simp; omega) hs5 ?_; intro v6 w6 ho6 hb6 hg6 hat6; have B6 := hide (B5.out.trans hb6); obtain ⟨A6, n6, c6, rfl, hr6⟩ := ho6.slice'; have R6 := hide hr6; clear hr6 ho6 hb6 hg6 hat6))
    refine (funcValid_b false i o _ _ _ _ _ R6.out (fnOk_more HOK.out)).mono ?_
    rintro e w7 ⟨rfl, hb7⟩
    have B7 := hide (bseq B6.out hb7)
    clear hb7
    go_wp2_with (go_at_call 11; refine (alive_any _).mono ?_; rintro e w' ⟨rfl, rfl⟩)
    go_ret
    exact ⟨by first | rfl | (simp; omega) | simp, B7.out⟩
end Go.Proofs.Ytmfchamhankaoaa
