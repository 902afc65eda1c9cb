/-
  The walk of the law FnExactFuncOf: it returns true at every input, and turns nothing that was there.
  No condition.
-/
import Derived.Test.YtpklpebngholcaaSameForm
namespace Go.Proofs.Ytpklpebngholcaa
open Go.RowKit Go.Sort base
theorem ne_row {v : Value} {a b g : Nat} (h : ∀ k, v.ownBlock = some k → a ≤ k ∧ k < b) (hg : b ≤ g ∨ g < a) : v.ownBlock = none ∨ v.ownBlock ≠ some g := by
  cases hv : v.ownBlock with
  | none => exact .inl rfl
  | some k => right; intro e; cases e; have := h g hv; omega
theorem funcF_len (i : Int) (fs : List S3) : (funcF i fs).length ≤ 256 := by
  cases h : formQ i fs
  · rw [funcF_no h]; simp
  · rw [funcF, h, if_pos rfl, tab_len]
    rcases formQ_cases h with rfl | rfl | rfl <;> decide
set_option maxHeartbeats 4000000 in
theorem walk_FnExactFuncOf (l : Int) (A : Option Addr) (n c : Nat) (gs : List S3) (w : World) (_ : (Lit.int .i64 l).wf = true) (h : SR w A n gs) (_ : n ≤ c) :
    Calls Try.prog 4 #[.int .i64 l, .slice A n c] w fun e w' => e = .returned (.bool true) ∧ Below w.heap.size w w' := by
  have HR0 := hide h
  have hmax := h.max
  have hlen := Lib.hid h.len
  clear h
  have HTL := Lib.hid (funcF_len l gs)
  obtain ⟨T, hT⟩ : ∃ T, funcF l gs = T := ⟨_, rfl⟩
  have HS := hide (fun A n c W h => sFuncOf_any l A n c gs W h)
  have HI := hide (fun A n c W h => funcOf_any l A n c gs W h)
  rw [hT] at HS HI HTL
  clear hT
  have HZ := hide (szStepS_any A n c 1048576 w (by omega) hmax)
  by_cases hbig : 1048576 < n
  · have hz : (if (1048576 : Int) < n then -1 else 1048576 - (n : Int)) = -1 := by rw [if_pos (by omega)]
    rw [hz] at HZ
    clear hz
    go_enter Try.func4, Try.ntmps4
    go_wp2_with fail
    refine HZ.out.mono ?_
    rintro e w' ⟨rfl, rfl⟩
    go_wp2_with fail
    go_ret
    exact ⟨rfl, Below.refl _ _⟩
  have hz : (if (1048576 : Int) < n then -1 else 1048576 - (n : Int)) = 1048576 - (n : Int) := by rw [if_neg (by omega)]
  rw [hz] at HZ
  clear hz
  go_enter Try.func4, Try.ntmps4
  go_wp2_with fail
  refine HZ.out.mono ?_
  rintro e w' ⟨rfl, rfl⟩
  have B0 := hide (Below.refl w.heap.size w)
  go_wp2_with fail
  refine (toStepS_any A n c gs _ (HR0.out.below B0.out) (by omega)).mono ?_
  rintro e w1 ⟨⟨ga, rfl, loa, hl⟩, hb1⟩
  have hs1 := hb1.size
  have B1 := hide (bseq B0.out hb1)
  have Ra := hide (hl.sr hlen.out (by omega))
  clear hl hb1
  go_wp2_with fail
  refine (HS.out _ _ _ _ Ra.out).mono ?_
  rintro e w2 ⟨⟨vs, rfl, ho⟩, hb2⟩
  have hs2 := hb2.size
  have B2 := hide (bseq B1.out hb2)
  have Ra_2 := hide (Ra.out.below hb2)
  have Ms := hide ho.mine
  have Ls := hide (Ms.out.lt)
  obtain ⟨As, ns, ks, rfl, ls⟩ := Ms.out.open
  have bs : ns ≤ 256 := by have := HTL.out; have := ls.out; omega
  clear ho hb2
  go_wp2_with fail
  refine (toStepS_any A n c gs _ (HR0.out.below B2.out) (by omega)).mono ?_
  rintro e w3 ⟨⟨gb, rfl, lob, hl⟩, hb3⟩
  have hs3 := hb3.size
  have B3 := hide (bseq B2.out hb3)
  have Ms_3 := hide (Ms.out.below hb3)
  have Ra_3 := hide (Ra_2.out.below hb3)
  have Rb := hide (hl.sr hlen.out (by omega))
  have Db := hide hl
  have hib : gb < w3.heap.size := by obtain ⟨⟨cur, hc, _⟩, _⟩ := hl; exact (Array.getElem?_eq_some_iff.1 hc).1
  clear hl hb3
  go_wp2_with fail
  refine (HI.out _ _ _ _ Rb.out).mono ?_
  rintro e w4 ⟨⟨vg, rfl, ho⟩, hb4⟩
  have hs4 := hb4.size
  have B4 := hide (bseq B3.out hb4)
  have Ms_4 := hide (Ms_3.out.below hb4)
  have Ra_4 := hide (Ra_3.out.below hb4)
  have Rb_4 := hide (Rb.out.below hb4)
  have Db_4 := hide (Db.out.below hb4)
  have Mg := hide ho.mine
  have Lg := hide (Mg.out.lt)
  obtain ⟨Ag, ng, kg, rfl, lg⟩ := Mg.out.open
  have bg : ng ≤ 256 := by have := HTL.out; have := lg.out; omega
  clear ho hb4
  go_wp2_with fail
  refine (eqIntS_any _ _ _ _ _ _ T T _ Mg.out.ir Ms_4.out.ir).mono ?_
  rintro e w5 ⟨rfl, q5, hq5⟩
  have hb5 : Below w4.heap.size w4 w5 := by rw [hq5]; exact below_drewN (Below.refl _ _) _
  clear hq5
  rw [beq_self_eq_true]
  have hs5 := hb5.size
  have B5 := hide (bseq B4.out hb5)
  have Ms_5 := hide (Ms_4.out.below hb5)
  have Mg_5 := hide (Mg.out.below hb5)
  have Ra_5 := hide (Ra_4.out.below hb5)
  have Rb_5 := hide (Rb_4.out.below hb5)
  have Db_5 := hide (Db_4.out.below hb5)
  clear hb5
  go_wp2_with fail
  refine (toStepS_any A n c gs _ (HR0.out.below B5.out) (by omega)).mono ?_
  rintro e w6 ⟨⟨gd, rfl, lod, hl⟩, hb6⟩
  have hs6 := hb6.size
  have B6 := hide (bseq B5.out hb6)
  have Ms_6 := hide (Ms_5.out.below hb6)
  have Mg_6 := hide (Mg_5.out.below hb6)
  have Ra_6 := hide (Ra_5.out.below hb6)
  have Rb_6 := hide (Rb_5.out.below hb6)
  have Db_6 := hide (Db_5.out.below hb6)
  have Rd := hide (hl.sr hlen.out (by omega))
  clear hl hb6
  go_wp2_with fail
  refine (eqStepS_same _ _ n n n gs _ Rb_6.out Rd.out).mono ?_
  rintro e w7 ⟨rfl, hb7⟩
  have hs7 := hb7.size
  have B7 := hide (bseq B6.out hb7)
  have Ms_7 := hide (Ms_6.out.below hb7)
  have Mg_7 := hide (Mg_6.out.below hb7)
  have Ra_7 := hide (Ra_6.out.below hb7)
  have Rb_7 := hide (Rb_6.out.below hb7)
  have Rd_7 := hide (Rd.out.below hb7)
  have Db_7 := hide (Db_6.out.below hb7)
  clear hb7
  go_wp2_with fail
  refine (markStepS_any gb n n gs 1 _ Db_7.out (by omega) (by omega)).mono ?_
  rintro e w8 ⟨rfl, hg⟩
  have hs8 := hg.size
  have B8 := hide (B7.out.grown hg (by omega) (fun k hk => by simp at hk; omega))
  have Ms_8 := hide (Ms_7.out.kept hg (ne_row Ls.out (.inl (by omega))))
  have Mg_8 := hide (Mg_7.out.kept hg (ne_row Lg.out (.inr (by omega))))
  clear hg
  go_wp2_with fail
  refine (eqIntS_any _ _ _ _ _ _ T T _ Mg_8.out.ir Ms_8.out.ir).mono ?_
  rintro e w9 ⟨rfl, q9, hq9⟩
  have hb9 : Below w8.heap.size w8 w9 := by rw [hq9]; exact below_drewN (Below.refl _ _) _
  clear hq9
  rw [beq_self_eq_true]
  have hs9 := hb9.size
  have B9 := hide (bseq B8.out hb9)
  have Ms_9 := hide (Ms_8.out.below hb9)
  have Mg_9 := hide (Mg_8.out.below hb9)
  clear hb9
  go_wp2_with fail
  refine (markIntS_any _ _ _ _ 1 _ _ Mg_9.out (by omega) (by omega)).mono ?_
  rintro e w10 ⟨⟨rfl, hm⟩, hg⟩
  have hs10 := hg.size
  have B10 := hide (B9.out.grown hg (by omega) (fun k hk => by have := (Lg.out k hk).1; omega))
  have Ms_10 := hide (Ms_9.out.kept hg (ne_blocks Ls.out Lg.out (by omega)))
  have Mg_10 := hide hm
  clear hg hm
  go_wp2_with fail
  refine (heldIntS_any _ _ _ 1 _ Mg_10.out.ir (by omega) (by omega)).mono ?_
  rintro e w' ⟨rfl, rfl⟩
  go_wp2_with fail
  refine (toStepS_any A n c gs _ (HR0.out.below B10.out) (by omega)).mono ?_
  rintro e w11 ⟨⟨ge, rfl, loe, hl⟩, hb11⟩
  have hs11 := hb11.size
  have B11 := hide (bseq B10.out hb11)
  have Ms_11 := hide (Ms_10.out.below hb11)
  have Mg_11 := hide (Mg_10.out.below hb11)
  have Re := hide (hl.sr hlen.out (by omega))
  clear hl hb11
  go_wp2_with fail
  refine (HI.out _ _ _ _ Re.out).mono ?_
  rintro e w12 ⟨⟨vh, rfl, ho⟩, hb12⟩
  have hs12 := hb12.size
  have B12 := hide (bseq B11.out hb12)
  have Ms_12 := hide (Ms_11.out.below hb12)
  have Mg_12 := hide (Mg_11.out.below hb12)
  have Re_12 := hide (Re.out.below hb12)
  have Mh := hide ho.mine
  have Lh := hide (Mh.out.lt)
  obtain ⟨Ah, nh, kh, rfl, lh⟩ := Mh.out.open
  have bh : nh ≤ 256 := by have := HTL.out; have := lh.out; omega
  clear ho hb12
  go_wp2_with fail
  refine (eqIntS_any _ _ _ _ _ _ T T _ Mh.out.ir Ms_12.out.ir).mono ?_
  rintro e w13 ⟨rfl, q13, hq13⟩
  have hb13 : Below w12.heap.size w12 w13 := by rw [hq13]; exact below_drewN (Below.refl _ _) _
  clear hq13
  rw [beq_self_eq_true]
  have hs13 := hb13.size
  have B13 := hide (bseq B12.out hb13)
  have Ms_13 := hide (Ms_12.out.below hb13)
  have Mg_13 := hide (Mg_12.out.below hb13)
  have Mh_13 := hide (Mh.out.below hb13)
  have Re_13 := hide (Re_12.out.below hb13)
  clear hb13
  go_wp2_with fail
  refine (heldIntS_any _ _ _ 1 _ Mg_13.out.ir (by omega) (by omega)).mono ?_
  rintro e w' ⟨rfl, rfl⟩
  go_wp2_with fail
  go_ret
  exact ⟨rfl, B13.out⟩
end Go.Proofs.Ytpklpebngholcaa
