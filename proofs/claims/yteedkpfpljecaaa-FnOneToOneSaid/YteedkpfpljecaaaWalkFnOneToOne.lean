/-
  The walk of the law FnOneToOne: it returns true at every input, and turns nothing that was there.
  No condition.
-/
import Derived.Test.YteedkpfpljecaaaOntoLaw
import Derived.Test.YteedkpfpljecaaaDrawOne
namespace Go.Proofs.Yteedkpfpljecaaa
open Go.RowKit Go.Sort base
set_option maxRecDepth 100000 in
set_option maxHeartbeats 4000000 in
theorem walk_FnOneToOne (Ap : Option Addr) (np cp : Nat) (zp : List Int) (w : World) (hp : IRk .u8 w Ap np zp) (yp : ∀ z ∈ zp, (Lit.int .u8 z).wf = true) (dp : np ≤ cp) :
    Calls Try.prog 4 #[.slice Ap np cp] w fun e w' => e = .returned (.bool true) ∧ Below w.heap.size w w' := by
  have maxp := hp.max
  have Hp := hide hp
  have Yp := hide yp
  clear hp yp
  by_cases bigp : 1048576 < np
  · go_enter Try.func4, Try.ntmps4
    go_wp2_with fail
    go_ret
    exact ⟨rfl, Below.refl _ _⟩
  go_enter Try.func4, Try.ntmps4
  have B0 := hide (Below.refl w.heap.size w)
  go_wp2_with fail
  refine (drawOneToOne_any Ap np cp zp _ (Hp.out.below B0.out) Yp.out dp).mono ?_
  rintro e w1 ⟨⟨i, o, va, f, rfl, oa, la⟩, hb1⟩
  have B1 := hide (bseq B0.out hb1)
  clear hb1
  obtain ⟨Aa, na, ca, rfl, ra⟩ := oa.slice'
  have a_1 := hide ra
  clear oa ra
  obtain ⟨ok, hok⟩ : ∃ ok, oneToOne i o f = ok := ⟨_, rfl⟩
  obtain ⟨K, hK⟩ : ∃ K, keepLines i o f = K := ⟨_, rfl⟩
  obtain ⟨h1, h2⟩ := one_law i o f
  rw [hok] at h1 h2
  rw [hK] at h1
  have HOK := Lib.hid hok
  have HK := Lib.hid hK
  clear hok hK
  have e1 : (ok != ok) = false := by simp
  go_wp2_with fail
  refine (oneToOne_any i o _ _ _ f _ a_1.out).mono ?_
  rintro e w2 ⟨rfl, hb2⟩
  have B2 := hide (bseq B1.out hb2)
  have a_2 := hide (a_1.out.below hb2)
  clear hb2
  rw [HOK.out]
  go_wp2_with fail
  refine (sOneToOne_any i o _ _ _ f _ a_2.out).mono ?_
  rintro e w' ⟨rfl, rfl⟩
  rw [HOK.out]
  cases ok
  · have H1 := Lib.hid h1
    have H2 := hide h2
    clear h1 h2
    have e3 : (K == 0) = false := by have := H1.out; simpa using this
    go_wp2_with fail
    refine (keepLines_any i o _ _ _ f _ a_2.out).mono ?_
    rintro e w3 ⟨rfl, hb3⟩
    have B3 := hide (bseq B2.out hb3)
    have a_3 := hide (a_2.out.below hb3)
    clear hb3
    rw [HK.out]
    go_wp2_with (go_at_call 12; refine (alive_any _).mono ?_; rintro e w' ⟨rfl, rfl⟩)
    go_ret
    exact ⟨by first | rfl | (simp; omega) | simp, B3.out⟩
  · have H1 := Lib.hid h1
    have H2 := hide h2
    clear h1 h2
    have hio := H2.out rfl
    obtain rfl : K = 0 := by have := H1.out; simpa using this
    go_wp2_with fail
    refine (keepLines_any i o _ _ _ f _ a_2.out).mono ?_
    rintro e w3 ⟨rfl, hb3⟩
    have B3 := hide (bseq B2.out hb3)
    have a_3 := hide (a_2.out.below hb3)
    clear hb3
    rw [HK.out]
    go_wp2_with (go_at_call 12; refine (alive_any _).mono ?_; rintro e w' ⟨rfl, rfl⟩)
    go_ret
    exact ⟨by first | rfl | (simp; omega) | simp, B3.out⟩
end Go.Proofs.Yteedkpfpljecaaa
