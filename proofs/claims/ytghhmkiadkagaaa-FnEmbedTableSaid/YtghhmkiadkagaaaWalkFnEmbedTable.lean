/-
  The walk of the law FnEmbedTable: it returns true at every input, and turns nothing that was there.
  No condition.
-/
import Derived.Test.YtghhmkiadkagaaaTellSpec
import Derived.Test.YtghhmkiadkagaaaDrawFunc
namespace Go.Proofs.Ytghhmkiadkagaaa
open Go.RowKit Go.Sort base
theorem nodup_take {z : List Int} (hn : z.Nodup) {k : Nat} (hk : k < z.length) : nth z k ∉ z.take k := by
  intro hm
  obtain ⟨j, hj, e⟩ := List.getElem_of_mem hm
  rw [List.getElem_take, nth_lt hk] at e
  rw [List.length_take] at hj
  have := (List.pairwise_iff_getElem.1 hn) j k (by omega) hk (by omega)
  exact this e
theorem restTo_nodup (fs : List Int) : ∀ r, (restTo fs r).Nodup
  | 0 => by simp [restTo]
  | r + 1 => by
    rw [restTo, List.nodup_append]
    refine ⟨restTo_nodup fs r, by split <;> simp, ?_⟩
    intro a ha b hb e
    have := (restTo_mem.1 ha).2.1
    split at hb
    · cases hb
    · simp only [List.mem_singleton] at hb
      omega
theorem firsts_nodup {m : Nat} {f : List Int} (hdiff : ∀ k1 k2, k1 < k2 → k2 < f.length → told m f k1 ≠ told m f k2) : (firsts m f).Nodup := by
  simp only [firsts, tab, List.Nodup, List.pairwise_map]
  refine List.Pairwise.imp_of_mem (R := fun a b => a < b) ?_ List.pairwise_lt_range
  intro a b _ hb hab
  exact hdiff a b hab (List.mem_range.1 hb)
theorem tell_good {i o : Int} {f : List Int} (h : fnOk i o f = true) : tableOk (embedLines i o f) (tellTable i o f) = true ∧ embeds (embedLines i o f) (tellTable i o f) i o f = true := by
  obtain ⟨m, M, hm, hM, hm0, hm16, h3, h16, htold, hdiff⟩ := told_facts h
  obtain ⟨e1, e2, e3, e4⟩ := embed_range h
  have hk := (keep_range h).1
  have hw := firsts_whole htold hdiff
  have et : tellTable i o f = firsts m f ++ restTo (firsts m f) M := by simp [tellTable, h, hm, hM]
  have hlen : (tellTable i o f).length = M := by rw [et, List.length_append]; exact hw
  have hfl : (firsts m f).length = f.length := by unfold firsts; rw [tab_len]
  have hfr : ∀ x ∈ firsts m f, 0 ≤ x ∧ x < (M : Int) := by
    intro x hx
    simp only [firsts, tab, List.mem_map, List.mem_range] at hx
    obtain ⟨k, hk, rfl⟩ := hx
    obtain ⟨j, c, _, _, _, e, h, _⟩ := htold k hk
    omega
  have hn : (tellTable i o f).Nodup := by
    rw [et, List.nodup_append]
    refine ⟨firsts_nodup hdiff, restTo_nodup _ _, ?_⟩
    intro a ha b hb e
    subst e
    exact (restTo_mem.1 hb).2.2 ha
  have hr : ∀ x ∈ tellTable i o f, 0 ≤ x ∧ x < (M : Int) := by
    intro x hx
    rw [et, List.mem_append] at hx
    rcases hx with hx | hx
    · exact hfr x hx
    · exact ⟨(restTo_mem.1 hx).1, (restTo_mem.1 hx).2.1⟩
  have hok : tableOk (embedLines i o f) (tellTable i o f) = true := by
    simp only [tableOk, Bool.and_eq_true, decide_eq_true_eq]
    refine ⟨⟨lnOk_iff.2 ⟨e1, e2⟩, by rw [hlen, hM]⟩, goodL_iff.2 fun k hk => ?_⟩
    have := hr _ (nth_mem hk)
    simp only [goodAt, Bool.and_eq_true, decide_eq_true_eq, Bool.not_eq_true']
    exact ⟨⟨this.1, by omega⟩, hasQ_no.2 (nodup_take hn hk)⟩
  refine ⟨hok, ?_⟩
  simp only [embeds, hok, h, Bool.and_eq_true, decide_eq_true_eq, Bool.true_and]
  refine ⟨⟨e3, by omega⟩, embL_iff.2 fun k hk => ?_⟩
  obtain ⟨j, c, a1, a2, _, a4, _, _⟩ := htold k hk
  have en : nth (tellTable i o f) k = told m f k := by
    have : nth (firsts m f) k = told m f k := by unfold firsts; exact tab_nth hk
    rw [← this, et]
    simp only [nth, List.getD_eq_getElem?_getD]
    rw [List.getElem?_append_left (by omega)]
  simp only [embAt, beq_iff_eq, en, a4, a1, hm]
  rw [← Int.natCast_emod, Nat.add_mul_mod_self_right, Nat.mod_eq_of_lt a2]
set_option maxRecDepth 100000 in
set_option maxHeartbeats 4000000 in
theorem walk_FnEmbedTable (Ap : Option Addr) (np cp : Nat) (zp : List Int) (w : World) (hp : IRk .u8 w Ap np zp) (yp : ∀ z ∈ zp, (Lit.int .u8 z).wf = true) (dp : np ≤ cp) :
    Calls Try.prog 4 #[.slice Ap np cp] w fun e w' => e = .returned (.bool true) ∧ Below w.heap.size w w' := by
  have maxp := hp.max
  have Hp := hide hp
  have Yp := hide yp
  clear hp yp
  by_cases bigp : 1048576 < np
  · go_enter Try.func4, Try.ntmps4
    go_wp2_with fail
    go_ret
    exact ⟨rfl, Below.refl _ _⟩
  go_enter Try.func4, Try.ntmps4
  have B0 := hide (Below.refl w.heap.size w)
  go_wp2_with fail
  refine (drawEmbedTable_any Ap np cp zp _ (Hp.out.below B0.out) Yp.out dp).mono ?_
  rintro e w1 ⟨⟨i, o, vf, f, rfl, of, lf, i1, i2, o1, o2⟩, hb1⟩
  have B1 := hide (bseq B0.out hb1)
  clear hb1
  obtain ⟨Af, nf, cf, rfl, rf⟩ := of.slice'
  have f_1 := hide rf
  clear of rf
  go_wp2_with fail
  refine (embedTable_any i o _ _ _ f _ f_1.out).mono ?_
  rintro e w2 ⟨⟨vt, rfl, ot⟩, hb2⟩
  have B2 := hide (bseq B1.out hb2)
  have f_2 := hide (f_1.out.below hb2)
  clear hb2
  obtain ⟨At, nt, ct, rfl, rt⟩ := ot.slice'
  have t_2 := hide rt
  clear ot rt
  go_wp2_with fail
  refine (sEmbedTable_any i o _ _ _ f _ f_2.out).mono ?_
  rintro e w3 ⟨⟨vs, rfl, os⟩, hb3⟩
  have B3 := hide (bseq B2.out hb3)
  have f_3 := hide (f_2.out.below hb3)
  have t_3 := hide (t_2.out.below hb3)
  clear hb3
  obtain ⟨As, ns, cs, rfl, rs⟩ := os.slice'
  have s_3 := hide rs
  clear os rs
  go_wp2_with fail
  refine (sameInts_any _ _ _ _ _ _ _ _ _ t_3.out s_3.out).mono ?_
  rintro e w4 ⟨rfl, q4, hq4⟩
  have hb4 : Below w3.heap.size w3 w4 := by rw [hq4]; exact below_drewN (Below.refl _ _) _
  clear hq4
  have B4 := hide (bseq B3.out hb4)
  have f_4 := hide (f_3.out.below hb4)
  have t_4 := hide (t_3.out.below hb4)
  have s_4 := hide (s_3.out.below hb4)
  clear hb4
  rw [beq_self_eq_true]
  cases hf : fnOk i o f
  · have HF := Lib.hid hf
    obtain rfl : nt = 0 := by have := (t_4.out).len; simp [tellTable, hf] at this; omega
    clear hf
    go_wp2_with fail
    refine (sFuncValid_b false i o _ _ _ f _ f_4.out HF.out).mono ?_
    rintro e w' ⟨rfl, rfl⟩
    go_wp2_with (go_at_call 11; refine (alive_any _).mono ?_; rintro e w' ⟨rfl, rfl⟩)
    go_ret
    exact ⟨by first | rfl | (simp; omega) | simp, B4.out⟩
  · have HF := Lib.hid hf
    obtain ⟨g1, g2⟩ := tell_good hf
    obtain ⟨e1, _, _, _⟩ := embed_range hf
    obtain ⟨K, hK⟩ : ∃ K, embedLines i o f = K := ⟨_, rfl⟩
    rw [hK] at g1 g2 e1
    have HK := Lib.hid hK
    have HG1 := Lib.hid g1
    have HG2 := Lib.hid g2
    clear hf hK g1 g2
    go_wp2_with fail
    refine (sFuncValid_b true i o _ _ _ f _ f_4.out HF.out).mono ?_
    rintro e w' ⟨rfl, rfl⟩
    go_wp2_with fail
    refine (embedLines_any i o _ _ _ f _ f_4.out).mono ?_
    rintro e w5 ⟨rfl, hb5⟩
    have B5 := hide (bseq B4.out hb5)
    have f_5 := hide (f_4.out.below hb5)
    have t_5 := hide (t_4.out.below hb5)
    have s_5 := hide (s_4.out.below hb5)
    clear hb5
    rw [HK.out]
    go_wp2_with fail
    refine (tableValid_any K _ _ _ _ _ t_5.out).mono ?_
    rintro e w6 ⟨rfl, hb6⟩
    have B6 := hide (bseq B5.out hb6)
    have f_6 := hide (f_5.out.below hb6)
    have t_6 := hide (t_5.out.below hb6)
    have s_6 := hide (s_5.out.below hb6)
    clear hb6
    rw [HG1.out]
    go_wp2_with fail
    refine (embeds_any K _ _ _ _ i o _ _ _ f _ t_6.out f_6.out).mono ?_
    rintro e w7 ⟨rfl, hb7⟩
    have B7 := hide (bseq B6.out hb7)
    have f_7 := hide (f_6.out.below hb7)
    have t_7 := hide (t_6.out.below hb7)
    have s_7 := hide (s_6.out.below hb7)
    clear hb7
    rw [HG2.out]
    go_wp2_with fail
    go_ret
    exact ⟨by first | rfl | (simp; omega) | simp, B7.out⟩
end Go.Proofs.Ytghhmkiadkagaaa
