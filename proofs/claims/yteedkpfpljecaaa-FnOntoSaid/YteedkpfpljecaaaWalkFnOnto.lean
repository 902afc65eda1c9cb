/-
  The walk of the law FnOnto: it returns true at every input, and turns nothing that was there.
  No condition.
-/
import Derived.Test.YteedkpfpljecaaaOntoLaw
import Derived.Test.YteedkpfpljecaaaDrawOne
namespace Go.Proofs.Yteedkpfpljecaaa
open Go.RowKit Go.Sort base
theorem funcValid_c {b : Bool} (i o : Int) (A : Option Addr) (n c : Nat) (f : List Int) (h : fnOk i o f = b) (w : World) (hr : IR w A n f) :
    Calls Try.prog 10 #[.int .i64 i, .int .i64 o, .slice A n c] w fun e w' => e = .returned (.bool b) ∧ Below w.heap.size w w' := by subst h; exact funcValid_any i o A n c f w hr
theorem oneToOne_c {b : Bool} (i o : Int) (A : Option Addr) (n c : Nat) (f : List Int) (h : oneToOne i o f = b) (w : World) (hr : IR w A n f) :
    Calls Try.prog 9 #[.int .i64 i, .int .i64 o, .slice A n c] w fun e w' => e = .returned (.bool b) ∧ Below w.heap.size w w' := by subst h; exact oneToOne_any i o A n c f w hr
theorem onto_c {b : Bool} (i o : Int) (A : Option Addr) (n c : Nat) (f : List Int) (h : onto i o f = b) (w : World) (hr : IR w A n f) :
    Calls Try.prog 7 #[.int .i64 i, .int .i64 o, .slice A n c] w fun e w' => e = .returned (.bool b) ∧ Below w.heap.size w w' := by subst h; exact onto_any i o A n c f w hr
theorem tableValid_c {b : Bool} (l : Int) (A : Option Addr) (n c : Nat) (f : List Int) (h : tableOk l f = b) (w : World) (hr : IR w A n f) :
    Calls Try.prog 11 #[.int .i64 l, .slice A n c] w fun e w' => e = .returned (.bool b) ∧ Below w.heap.size w w' := by subst h; exact tableValid_any l A n c f w hr
set_option maxRecDepth 100000 in
set_option maxHeartbeats 4000000 in
theorem walk_FnOnto (Ap : Option Addr) (np cp : Nat) (zp : List Int) (w : World) (hp : IRk .u8 w Ap np zp) (yp : ∀ z ∈ zp, (Lit.int .u8 z).wf = true) (dp : np ≤ cp) :
    Calls Try.prog 3 #[.slice Ap np cp] w fun e w' => e = .returned (.bool true) ∧ Below w.heap.size w w' := by
  have maxp := hp.max
  have Hp := hide hp
  have Yp := hide yp
  clear hp yp
  by_cases bigp : 1048576 < np
  · go_enter Try.func3, Try.ntmps3
    go_wp2_with fail
    go_ret
    exact ⟨rfl, Below.refl _ _⟩
  go_enter Try.func3, Try.ntmps3
  have B0 := hide (Below.refl w.heap.size w)
  go_wp2_with fail
  refine (drawOnto_any Ap np cp zp _ (Hp.out.below B0.out) Yp.out dp).mono ?_
  rintro e w1 ⟨⟨i, o, va, f, rfl, oa, la⟩, hb1⟩
  have B1 := hide (bseq B0.out hb1)
  clear hb1
  obtain ⟨Aa, na, ca, rfl, ra⟩ := oa.slice'
  have a_1 := hide ra
  clear oa ra
  obtain ⟨ok, hok⟩ : ∃ ok, onto i o f = ok := ⟨_, rfl⟩
  obtain ⟨h1, h2⟩ := onto_law i o f
  rw [hok] at h1 h2
  have HOK := Lib.hid hok
  have H1 := hide h1
  have H2 := hide h2
  clear hok h1 h2
  have e1 : (ok != ok) = false := by simp
  go_wp2_with fail
  refine (onto_c i o _ _ _ f HOK.out _ a_1.out).mono ?_
  rintro e w2 ⟨rfl, hb2⟩
  have B2 := hide (bseq B1.out hb2)
  have a_2 := hide (a_1.out.below hb2)
  clear hb2
  go_wp2_with fail
  refine (sOnto_any i o _ _ _ f _ a_2.out).mono ?_
  rintro e w' ⟨rfl, rfl⟩
  rw [HOK.out]
  by_cases hio : i = o
  · subst hio
    obtain ⟨h3, h4⟩ := H2.out rfl
    have H3 := Lib.hid h3
    have H4 := Lib.hid h4
    clear h3 h4 H1
    have e2 : (i != i) = false := by simp
    cases ok
    · go_wp2_with fail
      refine (oneToOne_c i i _ _ _ f H3.out _ a_2.out).mono ?_
      rintro e w3 ⟨rfl, hb3⟩
      have B3 := hide (bseq B2.out hb3)
      have a_3 := hide (a_2.out.below hb3)
      clear hb3
      cases hfv : fnOk i i f
      · have HFV := Lib.hid hfv
        clear hfv
        go_wp2_with fail
        refine (funcValid_c i i _ _ _ f HFV.out _ a_3.out).mono ?_
        rintro e w4 ⟨rfl, hb4⟩
        have B4 := hide (bseq B3.out hb4)
        have a_4 := hide (a_3.out.below hb4)
        clear hb4
        go_wp2_with (go_at_call 12; refine (alive_any _).mono ?_; rintro e w' ⟨rfl, rfl⟩)
        go_ret
        exact ⟨by first | rfl | (simp; omega) | simp, B4.out⟩
      · have HFV := Lib.hid hfv
        have HTV := Lib.hid (show tableOk i f = false by have := H4.out; rw [hfv, Bool.true_and] at this; exact this)
        clear hfv
        go_wp2_with fail
        refine (funcValid_c i i _ _ _ f HFV.out _ a_3.out).mono ?_
        rintro e w4 ⟨rfl, hb4⟩
        have B4 := hide (bseq B3.out hb4)
        have a_4 := hide (a_3.out.below hb4)
        clear hb4
        go_wp2_with fail
        refine (tableValid_c i _ _ _ f HTV.out _ a_4.out).mono ?_
        rintro e w5 ⟨rfl, hb5⟩
        have B5 := hide (bseq B4.out hb5)
        have a_5 := hide (a_4.out.below hb5)
        clear hb5
        go_wp2_with (go_at_call 12; refine (alive_any _).mono ?_; rintro e w' ⟨rfl, rfl⟩)
        go_ret
        exact ⟨by first | rfl | (simp; omega) | simp, B5.out⟩
    · go_wp2_with fail
      refine (oneToOne_c i i _ _ _ f H3.out _ a_2.out).mono ?_
      rintro e w3 ⟨rfl, hb3⟩
      have B3 := hide (bseq B2.out hb3)
      have a_3 := hide (a_2.out.below hb3)
      clear hb3
      obtain ⟨hfv, htv⟩ : fnOk i i f = true ∧ tableOk i f = true := by have := H4.out; rw [Bool.and_eq_true] at this; exact this
      have HFV := Lib.hid hfv
      have HTV := Lib.hid htv
      clear hfv htv
      go_wp2_with fail
      refine (funcValid_c i i _ _ _ f HFV.out _ a_3.out).mono ?_
      rintro e w4 ⟨rfl, hb4⟩
      have B4 := hide (bseq B3.out hb4)
      have a_4 := hide (a_3.out.below hb4)
      clear hb4
      go_wp2_with fail
      refine (tableValid_c i _ _ _ f HTV.out _ a_4.out).mono ?_
      rintro e w5 ⟨rfl, hb5⟩
      have B5 := hide (bseq B4.out hb5)
      have a_5 := hide (a_4.out.below hb5)
      clear hb5
      go_wp2_with (go_at_call 12; refine (alive_any _).mono ?_; rintro e w' ⟨rfl, rfl⟩)
      go_ret
      exact ⟨by first | rfl | (simp; omega) | simp, B5.out⟩
  · have e2 : (i != o) = true := by simpa using hio
    clear hio H2
    cases ok
    · go_wp2_with (go_at_call 12; refine (alive_any _).mono ?_; rintro e w' ⟨rfl, rfl⟩)
      go_ret
      exact ⟨by first | rfl | (simp; omega) | simp, B2.out⟩
    · have hio := H1.out rfl
      go_wp2_with (go_at_call 12; refine (alive_any _).mono ?_; rintro e w' ⟨rfl, rfl⟩)
      go_ret
      exact ⟨by first | rfl | (simp; omega) | simp, B2.out⟩
end Go.Proofs.Yteedkpfpljecaaa
