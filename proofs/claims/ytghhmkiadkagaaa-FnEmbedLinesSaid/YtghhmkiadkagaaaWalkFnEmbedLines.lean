/-
  The walk of the law FnEmbedLines: it returns true at every input, and turns nothing that was there.
  No condition.
-/
import Derived.Test.YtghhmkiadkagaaaKeep
import Derived.Test.YtghhmkiadkagaaaDrawFunc
namespace Go.Proofs.Ytghhmkiadkagaaa
open Go.RowKit Go.Sort base
set_option maxRecDepth 100000 in
set_option maxHeartbeats 4000000 in
theorem walk_FnEmbedLines (Ap : Option Addr) (np cp : Nat) (zp : List Int) (w : World) (hp : IRk .u8 w Ap np zp) (yp : ∀ z ∈ zp, (Lit.int .u8 z).wf = true) (dp : np ≤ cp) :
    Calls Try.prog 3 #[.slice Ap np cp] w fun e w' => e = .returned (.bool true) ∧ Below w.heap.size w w' := by
  have maxp := hp.max
  have Hp := hide hp
  have Yp := hide yp
  clear hp yp
  by_cases bigp : 1048576 < np
  · go_enter Try.func3, Try.ntmps3
    go_wp2_with fail
    go_ret
    exact ⟨rfl, Below.refl _ _⟩
  go_enter Try.func3, Try.ntmps3
  have B0 := hide (Below.refl w.heap.size w)
  go_wp2_with fail
  refine (drawEmbedLines_any Ap np cp zp _ (Hp.out.below B0.out) Yp.out dp).mono ?_
  rintro e w1 ⟨⟨i, o, vf, f, rfl, of, lf, i1, i2, o1, o2⟩, hb1⟩
  have B1 := hide (bseq B0.out hb1)
  clear hb1
  obtain ⟨Af, nf, cf, rfl, rf⟩ := of.slice'
  have f_1 := hide rf
  clear of rf
  go_wp2_with fail
  refine (embedLines_any i o _ _ _ f _ f_1.out).mono ?_
  rintro e w2 ⟨rfl, hb2⟩
  have B2 := hide (bseq B1.out hb2)
  have f_2 := hide (f_1.out.below hb2)
  clear hb2
  obtain ⟨K, hK⟩ : ∃ K, embedLines i o f = K := ⟨_, rfl⟩
  have HK := Lib.hid hK
  clear hK
  rw [HK.out]
  go_wp2_with fail
  refine (sEmbedLines_any i o _ _ _ f _ f_2.out).mono ?_
  rintro e w' ⟨rfl, rfl⟩
  rw [HK.out]
  have en : (K != K) = false := by simp
  cases hf : fnOk i o f
  · obtain rfl : K = -1 := by rw [← HK.out]; simp [embedLines, hf]
    go_wp2_with (go_at_call 11; refine (alive_any _).mono ?_; rintro e w' ⟨rfl, rfl⟩)
    go_ret
    exact ⟨by first | rfl | (simp; omega) | simp, B2.out⟩
  · obtain ⟨e1, e2, e3, e4⟩ := embed_range hf
    obtain ⟨k1, k2⟩ := keep_range hf
    have e5 : embedLines i o f = max i (o + keepLines i o f) := by simp [embedLines, hf]
    obtain ⟨M, hM⟩ : ∃ M, keepLines i o f = M := ⟨_, rfl⟩
    have HM := Lib.hid hM
    rw [hM] at k1 k2 e4 e5
    rw [HK.out] at e1 e2 e3 e4 e5
    clear hM en
    by_cases h5 : o + M ≤ i
    · obtain rfl : K = i := by omega
      clear e5
      go_wp2_with fail
      refine (keepLines_any K o _ _ _ f _ f_2.out).mono ?_
      rintro e w3 ⟨rfl, hb3⟩
      have B3 := hide (bseq B2.out hb3)
      have f_3 := hide (f_2.out.below hb3)
      clear hb3
      rw [HM.out]
      go_wp2_with fail
      go_ret
      exact ⟨by first | rfl | (simp; omega) | simp, B3.out⟩
    · obtain rfl : K = o + M := by omega
      clear e5
      go_wp2_with fail
      refine (keepLines_any i o _ _ _ f _ f_2.out).mono ?_
      rintro e w3 ⟨rfl, hb3⟩
      have B3 := hide (bseq B2.out hb3)
      have f_3 := hide (f_2.out.below hb3)
      clear hb3
      rw [HM.out]
      have h6 : ((o + M) == i) = false := by simp; omega
      have h7 : ((o + M) == (o + M)) = true := by simp
      go_wp2_with fail
      go_ret
      exact ⟨by first | rfl | (simp; omega) | simp, B3.out⟩
end Go.Proofs.Ytghhmkiadkagaaa
