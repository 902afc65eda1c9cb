/-
  The walk of the law FnReadFunc: it returns true at every input, and turns nothing that was there.
  No condition.
-/
import Derived.Test.YtokcappgaokeaaaDoorDrawReadFunc
import Derived.Test.YtokcappgaokeaaaDoorWalkFnFuncText
namespace Go.Proofs.YtokcappgaokeaaaDoor
open Go.RowKit Go.Sort base
theorem parts_comma (l : List UInt8) : parts (l ++ [44]) = parts l ++ [[]] := by
  unfold parts
  rw [cutSt_snoc]
  simp [cutF]
theorem readOk_comma (i o : Int) (S : ByteArray) : readOk i o (S ++ ⟨#[44]⟩) = false := by
  rw [Bool.eq_false_iff]
  intro h
  have hf := readOk_fn h
  have hs : funcStr i o (nums (S ++ ⟨#[44]⟩)) = S ++ ⟨#[44]⟩ := by
    unfold readOk at h
    simp only [decide_eq_true_eq] at h
    exact h.2
  unfold funcStr at hs
  rw [if_pos hf] at hs
  have hp := parts_fn hf
  obtain ⟨_, _, h3⟩ := fn_num hf
  rw [hs] at hp
  have e : (S ++ (⟨#[44]⟩ : ByteArray)).data.toList = S.data.toList ++ [44] := by rw [ByteArray.data_append]; simp
  rw [e, parts_comma] at hp
  have hm : ([] : List UInt8) ∈ (nums (S ++ ⟨#[44]⟩)).map Lib.itoa := by rw [← hp]; simp
  obtain ⟨z, hz, hz2⟩ := List.mem_map.1 hm
  have := (itoa_facts (h3 z hz)).2.2
  rw [hz2] at this
  cases this
theorem readF_ok {i o : Int} {S : ByteArray} (h : readOk i o S = true) : funcStr i o (readF i o S) = S := by
  have e : readF i o S = nums S := by unfold readF; rw [if_pos h]
  rw [e]
  unfold readOk at h
  simp only [decide_eq_true_eq] at h
  exact h.2
theorem readF_no {i o : Int} {S : ByteArray} (h : readOk i o S = false) : readF i o S = [] := by unfold readF; rw [h]; rfl
set_option maxRecDepth 100000 in
set_option maxHeartbeats 4000000 in
theorem walk_FnReadFunc (Ap : Option Addr) (np cp : Nat) (zp : List Int) (w : World) (hp : IRk .u8 w Ap np zp) (yp : ∀ z ∈ zp, (Lit.int .u8 z).wf = true) (dp : np ≤ cp) (ht : Tens w) (he : Errs w) :
    Calls Tryd.prog 5 #[.slice Ap np cp] w fun e w' => e = .returned (.bool true) ∧ Below w.heap.size w w' := by
  have maxp := hp.max
  have Hp := hide hp
  have Yp := hide yp
  have HT := hide ht
  have HE := hide he
  clear hp yp ht he
  by_cases bigp : 1048576 < np
  · go_enter Tryd.func5, Tryd.ntmps5
    go_wp2_with fail
    go_ret
    exact ⟨rfl, Below.refl _ _⟩
  go_enter Tryd.func5, Tryd.ntmps5
  have B0 := hide (Below.refl w.heap.size w)
  go_wp2_with fail
  refine (drawReadFunc_b Ap np cp zp _ (Hp.out.below B0.out) Yp.out dp).mono ?_
  rintro e w1 ⟨⟨i, o, X, rfl, hX⟩, hb1⟩
  have B1 := hide (bseq B0.out hb1)
  clear hb1
  cases hq : readOk i o X
  · have HQ := Lib.hid hq
    clear hq
    go_wp2_with fail
    refine (readB false i o X _ (by omega) HQ.out (HT.out.below B1.out) (HE.out.below B1.out)).mono ?_
    rintro e w2 ⟨⟨va, rfl, oa⟩, hb2⟩
    have B2 := hide (bseq B1.out hb2)
    clear hb2
    obtain ⟨Aa, na, ca, rfl, ra⟩ := oa.slice'
    have a_2 := hide ra
    clear oa ra
    go_wp2_with fail
    refine (sReadB false i o X _ (by omega) HQ.out).mono ?_
    rintro e w3 ⟨⟨vb, rfl, ob⟩, hb3⟩
    have B3 := hide (bseq B2.out hb3)
    have a_3 := hide (a_2.out.below hb3)
    clear hb3
    obtain ⟨Ab, nb, cb, rfl, rb⟩ := ob.slice'
    have b_3 := hide rb
    clear ob rb
    go_wp2_with fail
    refine (sameInts_any _ _ _ _ _ _ _ _ _ a_3.out b_3.out).mono ?_
    rintro e w4 ⟨rfl, q4, hq4⟩
    have hb4 : Below w3.heap.size w3 w4 := by rw [hq4]; exact below_drewN (Below.refl _ _) _
    clear hq4
    have B4 := hide (bseq B3.out hb4)
    have a_4 := hide (a_3.out.below hb4)
    have b_4 := hide (b_3.out.below hb4)
    clear hb4
    rw [beq_self_eq_true]
    have HL := Lib.hid a_4.out.len
    obtain rfl : na = 0 := by have := HL.out; rw [readF_no HQ.out] at this; exact this.symm
    go_wp2_with (go_at_call 16; refine (alive_any _).mono ?_; rintro e w' ⟨rfl, rfl⟩)
    go_ret
    exact ⟨by first | rfl | (simp; omega) | simp, B4.out⟩
  · have HQ := Lib.hid hq
    clear hq
    go_wp2_with fail
    refine (readB true i o X _ (by omega) HQ.out (HT.out.below B1.out) (HE.out.below B1.out)).mono ?_
    rintro e w2 ⟨⟨va, rfl, oa⟩, hb2⟩
    have B2 := hide (bseq B1.out hb2)
    clear hb2
    obtain ⟨Aa, na, ca, rfl, ra⟩ := oa.slice'
    have a_2 := hide ra
    clear oa ra
    go_wp2_with fail
    refine (sReadB true i o X _ (by omega) HQ.out).mono ?_
    rintro e w3 ⟨⟨vb, rfl, ob⟩, hb3⟩
    have B3 := hide (bseq B2.out hb3)
    have a_3 := hide (a_2.out.below hb3)
    clear hb3
    obtain ⟨Ab, nb, cb, rfl, rb⟩ := ob.slice'
    have b_3 := hide rb
    clear ob rb
    go_wp2_with fail
    refine (sameInts_any _ _ _ _ _ _ _ _ _ a_3.out b_3.out).mono ?_
    rintro e w4 ⟨rfl, q4, hq4⟩
    have hb4 : Below w3.heap.size w3 w4 := by rw [hq4]; exact below_drewN (Below.refl _ _) _
    clear hq4
    have B4 := hide (bseq B3.out hb4)
    have a_4 := hide (a_3.out.below hb4)
    have b_4 := hide (b_3.out.below hb4)
    clear hb4
    rw [beq_self_eq_true]
    have K := Lib.hid (readF_ok HQ.out)
    have K2 := Lib.hid (readOk_comma i o X)
    have hs2 : (X ++ (⟨#[44]⟩ : ByteArray)).size ≤ 1000 := by rw [ByteArray.size_append]; show X.size + 1 ≤ 1000; omega
    go_wp2_with fail
    refine (readB false i o _ _ (by omega) K2.out (HT.out.below B4.out) (HE.out.below B4.out)).mono ?_
    rintro e w5 ⟨⟨vc, rfl, oc⟩, hb5⟩
    have B5 := hide (bseq B4.out hb5)
    have a_5 := hide (a_4.out.below hb5)
    have b_5 := hide (b_4.out.below hb5)
    clear hb5
    obtain ⟨Ac, nc, cc, rfl, rc⟩ := oc.slice'
    have c_5 := hide rc
    clear oc rc
    go_wp2_with fail
    refine (funcText_any i o _ _ _ _ _ a_5.out (HT.out.below B5.out)).mono ?_
    rintro e w6 ⟨rfl, hb6⟩
    have B6 := hide (bseq B5.out hb6)
    have a_6 := hide (a_5.out.below hb6)
    have b_6 := hide (b_5.out.below hb6)
    have c_6 := hide (c_5.out.below hb6)
    clear hb6
    rw [K.out]
    go_wp2_with fail
    go_ret
    exact ⟨by first | rfl | (simp; omega) | simp, B6.out⟩
end Go.Proofs.YtokcappgaokeaaaDoor
