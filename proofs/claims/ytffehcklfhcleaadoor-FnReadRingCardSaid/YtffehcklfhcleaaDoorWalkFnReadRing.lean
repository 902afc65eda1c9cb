/-
  The walk of the law FnReadRing: it returns true at every input, and turns nothing that was there.
  No condition.
-/
import Derived.Test.YtffehcklfhcleaaDoorDrawReadRing
import Derived.Test.YtffehcklfhcleaaDoorReadRing
import Derived.Test.YtffehcklfhcleaaDoorWalkFnRingText
namespace Go.Proofs.YtffehcklfhcleaaDoor
open Go.RowKit Go.Sort base
theorem readR_ok {S : ByteArray} (h : ringQ (vals S) = true) : readR S = vals S ∧ ringStr (readR S) = S := by
  have e : readR S = vals S := by rw [readR, h]; rfl
  exact ⟨e, by rw [e, ringStr, h, if_pos rfl, ringQ_byte h]⟩
theorem vals_two (S : ByteArray) : vals (S ++ ⟨#[50]⟩) = vals S ++ [2] := by
  unfold vals
  rw [ByteArray.data_append]
  simp
theorem ringQ_two (S : ByteArray) : ringQ (vals (S ++ ⟨#[50]⟩)) = false := by
  rw [vals_two, ringQ]
  have : (vals S ++ [2]).any badBit = true := by rw [List.any_append]; simp [badBit, bitQ]
  rw [this]
  simp
set_option maxRecDepth 100000 in
set_option maxHeartbeats 4000000 in
theorem walk_FnReadRing (Ap : Option Addr) (np cp : Nat) (zp : List Int) (w : World) (hp : IRk .u8 w Ap np zp) (yp : ∀ z ∈ zp, (Lit.int .u8 z).wf = true) (dp : np ≤ cp) :
    Calls Tryd.prog 5 #[.slice Ap np cp] w fun e w' => e = .returned (.bool true) ∧ Below w.heap.size w w' := by
  have maxp := hp.max
  have Hp := hide hp
  have Yp := hide yp
  clear hp yp
  by_cases bigp : 1048576 < np
  · go_enter Tryd.func5, Tryd.ntmps5
    go_wp2_with fail
    go_ret
    exact ⟨rfl, Below.refl _ _⟩
  go_enter Tryd.func5, Tryd.ntmps5
  have B0 := hide (Below.refl w.heap.size w)
  go_wp2_with fail
  refine (drawReadRing_b Ap np cp zp _ (Hp.out.below B0.out) Yp.out dp).mono ?_
  rintro e w1 ⟨⟨X, rfl, hX⟩, hb1⟩
  have B1 := hide (bseq B0.out hb1)
  clear hb1
  go_wp2_with fail
  refine (readRing_any X _ (by omega)).mono ?_
  rintro e w2 ⟨⟨va, rfl, oa⟩, hb2⟩
  have B2 := hide (bseq B1.out hb2)
  clear hb2
  obtain ⟨Aa, na, ca, rfl, ra⟩ := oa.slice'
  have a_2 := hide ra
  clear oa ra
  go_wp2_with fail
  refine (sReadRing_any X _ (by omega)).mono ?_
  rintro e w3 ⟨⟨vb, rfl, ob⟩, hb3⟩
  have B3 := hide (bseq B2.out hb3)
  have a_3 := hide (a_2.out.below hb3)
  clear hb3
  obtain ⟨Ab, nb, cb, rfl, rb⟩ := ob.slice'
  have b_3 := hide rb
  clear ob rb
  go_wp2_with fail
  refine (sameInts_any _ _ _ _ _ _ _ _ _ a_3.out b_3.out).mono ?_
  rintro e w4 ⟨rfl, q4, hq4⟩
  have hb4 : Below w3.heap.size w3 w4 := by rw [hq4]; exact below_drewN (Below.refl _ _) _
  clear hq4
  have B4 := hide (bseq B3.out hb4)
  have a_4 := hide (a_3.out.below hb4)
  have b_4 := hide (b_3.out.below hb4)
  clear hb4
  rw [beq_self_eq_true]
  cases hq : ringQ (vals X)
  · have HL := Lib.hid a_4.out.len
    obtain rfl : na = 0 := by have := HL.out; simp only [readR, hq, Bool.false_eq_true, if_false, List.length_nil] at this; exact this.symm
    clear hq
    go_wp2_with (go_at_call 12; refine (alive_any _).mono ?_; rintro e w' ⟨rfl, rfl⟩)
    go_ret
    exact ⟨by first | rfl | (simp; omega) | simp, B4.out⟩
  · have K := hide (readR_ok hq)
    have K2 := Lib.hid (ringQ_two X)
    have hs2 : (X ++ (⟨#[50]⟩ : ByteArray)).size ≤ 1000 := by rw [ByteArray.size_append]; show X.size + 1 ≤ 1000; omega
    clear hq
    go_wp2_with fail
    refine (readRing_any _ _ (by omega)).mono ?_
    rintro e w5 ⟨⟨vc, rfl, oc⟩, hb5⟩
    have B5 := hide (bseq B4.out hb5)
    have a_5 := hide (a_4.out.below hb5)
    have b_5 := hide (b_4.out.below hb5)
    clear hb5
    rw [K2.out]
    obtain ⟨Ac, nc, cc, rfl, rc⟩ := oc.slice'
    have c_5 := hide rc
    clear oc rc
    go_wp2_with fail
    refine (ringText_any _ _ _ _ _ a_5.out).mono ?_
    rintro e w6 ⟨rfl, hb6⟩
    have B6 := hide (bseq B5.out hb6)
    have a_6 := hide (a_5.out.below hb6)
    have b_6 := hide (b_5.out.below hb6)
    have c_6 := hide (c_5.out.below hb6)
    clear hb6
    rw [K.out.2]
    go_wp2_with fail
    go_ret
    exact ⟨by first | rfl | (simp; omega) | simp, B6.out⟩
end Go.Proofs.YtffehcklfhcleaaDoor
