/-
  The walk of the law FnEmbeds: it returns true at every input, and turns nothing that was there.
  No condition.
-/
import Derived.Test.YteedkpfpljecaaaEmbedsLaw
import Derived.Test.YteedkpfpljecaaaDrawEmb
namespace Go.Proofs.Yteedkpfpljecaaa
open Go.RowKit Go.Sort base
theorem embeds_c {b : Bool} (l : Int) (A : Option Addr) (n c : Nat) (t : List Int) (i o : Int) (B : Option Addr) (m d : Nat) (f : List Int) (h : embeds l t i o f = b) (w : World) (ht : IR w A n t) (hf : IR w B m f) :
    Calls Try.prog 17 #[.int .i64 l, .slice A n c, .int .i64 i, .int .i64 o, .slice B m d] w fun e w' => e = .returned (.bool b) ∧ Below w.heap.size w w' := by subst h; exact embeds_any l A n c t i o B m d f w ht hf
theorem sEmbeds_c {b : Bool} (l : Int) (A : Option Addr) (n c : Nat) (t : List Int) (i o : Int) (B : Option Addr) (m d : Nat) (f : List Int) (h : embeds l t i o f = b) (hc : n ≤ c) (w : World) (ht : IR w A n t) (hf : IR w B m f) :
    Calls Try.prog 18 #[.int .i64 l, .slice A n c, .int .i64 i, .int .i64 o, .slice B m d] w fun e w' => e = .returned (.bool b) ∧ Below w.heap.size w w' := by subst h; exact sEmbeds_any l A n c t i o B m d f w ht hf hc
theorem embedLines_c (K : Int) (i o : Int) (A : Option Addr) (n c : Nat) (f : List Int) (h : embedLines i o f = K) (w : World) (hf : IR w A n f) :
    Calls Try.prog 19 #[.int .i64 i, .int .i64 o, .slice A n c] w fun e w' => e = .returned (.int .i64 K) ∧ Below w.heap.size w w' := by subst h; exact embedLines_any i o A n c f w hf
set_option maxRecDepth 100000 in
set_option maxHeartbeats 4000000 in
theorem walk_FnEmbeds (Ap : Option Addr) (np cp : Nat) (zp : List Int) (w : World) (hp : IRk .u8 w Ap np zp) (yp : ∀ z ∈ zp, (Lit.int .u8 z).wf = true) (dp : np ≤ cp) :
    Calls Try.prog 5 #[.slice Ap np cp] w fun e w' => e = .returned (.bool true) ∧ Below w.heap.size w w' := by
  have maxp := hp.max
  have Hp := hide hp
  have Yp := hide yp
  clear hp yp
  by_cases bigp : 1048576 < np
  · go_enter Try.func5, Try.ntmps5
    go_wp2_with fail
    go_ret
    exact ⟨rfl, Below.refl _ _⟩
  go_enter Try.func5, Try.ntmps5
  have B0 := hide (Below.refl w.heap.size w)
  go_wp2_with fail
  refine (drawEmbeds_any Ap np cp zp _ (Hp.out.below B0.out) Yp.out dp).mono ?_
  rintro e w1 ⟨⟨l, vt, t, i, o, vf, f, rfl, ot, of⟩, hb1⟩
  have B1 := hide (bseq B0.out hb1)
  clear hb1
  obtain ⟨At, nt, ct, rfl, rt, hct⟩ := ot.sliceC
  obtain ⟨Af, nf, cf, rfl, rf⟩ := of.slice'
  have t_1 := hide rt
  have f_1 := hide rf
  clear ot of rt rf
  obtain ⟨ok, hok⟩ : ∃ ok, embeds l t i o f = ok := ⟨_, rfl⟩
  obtain ⟨K, hK⟩ : ∃ K, embedLines i o f = K := ⟨_, rfl⟩
  have HLaw : Hid (ok = true → 0 ≤ K ∧ K ≤ l) := fun h => by rw [← hK]; exact embed_law (by rw [hok, h])
  have HOK := Lib.hid hok
  have HK := Lib.hid hK
  clear hok hK
  have e1 : (ok != ok) = false := by simp
  go_wp2_with fail
  refine (embeds_c l _ _ _ t i o _ _ _ f HOK.out _ t_1.out f_1.out).mono ?_
  rintro e w2 ⟨rfl, hb2⟩
  have B2 := hide (bseq B1.out hb2)
  have t_2 := hide (t_1.out.below hb2)
  have f_2 := hide (f_1.out.below hb2)
  clear hb2
  go_wp2_with fail
  refine (sEmbeds_c l _ _ _ t i o _ _ _ f HOK.out hct _ t_2.out f_2.out).mono ?_
  rintro e w3 ⟨rfl, hb3⟩
  have B3 := hide (bseq B2.out hb3)
  have t_3 := hide (t_2.out.below hb3)
  have f_3 := hide (f_2.out.below hb3)
  clear hb3
  go_wp2_with fail
  refine (embedLines_c K i o _ _ _ f HK.out _ f_3.out).mono ?_
  rintro e w4 ⟨rfl, hb4⟩
  have B4 := hide (bseq B3.out hb4)
  have t_4 := hide (t_3.out.below hb4)
  have f_4 := hide (f_3.out.below hb4)
  clear hb4
  cases ok
  · go_wp2_with (go_at_call 12; refine (alive_any _).mono ?_; rintro e w' ⟨rfl, rfl⟩)
    go_ret
    exact ⟨by first | rfl | (simp; omega) | simp, B4.out⟩
  · obtain ⟨k0, kl⟩ := HLaw.out rfl
    go_wp2_with (go_at_call 12; refine (alive_any _).mono ?_; rintro e w' ⟨rfl, rfl⟩)
    go_ret
    exact ⟨by first | rfl | (simp; omega) | simp, B4.out⟩
end Go.Proofs.Yteedkpfpljecaaa
