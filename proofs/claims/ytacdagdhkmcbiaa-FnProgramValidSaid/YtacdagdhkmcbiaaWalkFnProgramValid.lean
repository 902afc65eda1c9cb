/-
  The walk of the law FnProgramValid: it returns true at every input, and turns nothing that was there.
  No condition.
-/
import Derived.Test.YtacdagdhkmcbiaaDrawProg
import Derived.Test.YtacdagdhkmcbiaaIProg
namespace Go.Proofs.Ytacdagdhkmcbiaa
open Go.RowKit Go.Sort base
theorem progQ_twice {gs tw : List G4} (ht : tw = gs ++ gs) (h : progQ gs = true) (hl : tw.length ≤ 16) : progQ tw = true := by
  subst ht
  unfold progQ at *
  simp only [Bool.and_eq_true] at h
  obtain ⟨⟨_, h2⟩, h3⟩ := h
  have hk : kindsOf (gs ++ gs) = kindsOf gs ++ kindsOf gs := by unfold kindsOf; simp
  rw [hk, stacked_twice h3, decide_eq_true hl, List.all_append, h2]
  rfl
theorem progQ_end {gs tw : List G4} (ht : tw = gs ++ [(5, 0, 0, 0)]) (h : progQ gs = true) : progQ tw = false := by
  subst ht
  unfold progQ at *
  simp only [Bool.and_eq_true] at h
  have hk : kindsOf (gs ++ [(5, 0, 0, 0)]) = kindsOf gs ++ [5] := by unfold kindsOf; simp
  rw [hk, stacked_end h.2]
  simp
theorem progQ_none : progQ [] = true := by decide
theorem GR.none0 (w : World) : GR w none 0 [] := ⟨rfl, by decide, fun h => absurd h (by omega)⟩
theorem wpList_append_gates_w {ops : Array Oper} {rest : List Oper} {o : Oper} {a : Act} {Q : Exit → Act → World → Prop} {w : World} {base : Nat} {v : Value} {gs ns : List G4} {A : Option Addr} {m c : Nat} (hown : OwnG w base v gs) (hr : GR w A m ns) (s y : Operand) (hw : Region.wanted o (yielded ops a.tmps) = true)
    (ho : o.op = .call { callee := .builtin .append, args := #[s, y], argTypes := #[25, 25] }) (hs : a.eval s = v) (hx : a.eval y = .slice A m c)
    (hl : gs.length + ns.length ≤ 1000) (hb : base ≤ w.heap.size)
    (h : ∀ v' w', OwnG w' base v' (gs ++ ns) → w.grownBy w' v.ownBlock → wpList Try.prog ops Q rest (a.put o.dst v') w') : wpList Try.prog ops Q (o :: rest) a w := by
  obtain ⟨v', w', hrun, h2, h3, _⟩ := run_append_gates (ty := o.type) (c := c) hown hr hl hb
  exact wpList_step fun _ hK => by rw [if_pos hw]; exact Lib.wp_append_run w s y _ _ ho _ _ hs hx v' w' hrun (hK _ _ (h v' w' h2 h3))
set_option maxHeartbeats 1000000 in
theorem drawProgramValid_b (A : Option Addr) (n c : Nat) (zs : List Int) (w : World) (h : IRk .u8 w A n zs) (hz : ∀ z ∈ zs, (Lit.int .u8 z).wf = true) (hc : n ≤ c) :
    Calls Try.prog 10 #[.slice A n c] w fun e w' => (∃ A2 n2 c2 gs, e = .returned (.slice A2 n2 c2) ∧ n2 ≤ 73 ∧ GR w' A2 n2 gs) ∧ Below w.heap.size w w' := by
  have H := hide h
  have HZ := hide hz
  clear h hz
  go_enter Try.func10, Try.ntmps10
  go_wp2_with fail
  refine (open_b A n c zs _ H.out HZ.out hc).mono ?_
  rintro e w1 ⟨R, rfl, hR, hr, hb⟩
  have H1 := hide hr
  have B1 := hide hb
  clear hr hb
  go_wp2_with fail
  refine (l20Program_b R 0 _ H1.out (by omega)).mono ?_
  rintro e w2 ⟨v, rfl, hP⟩
  have B2 := hide (B1.out.grown hP.r.gr B1.out.size (by simp; omega))
  obtain ⟨gs, hl, ho⟩ := hP.own
  obtain ⟨A2, c2, rfl, hg⟩ := ho.gr
  have HG := hide hg
  clear hP ho hg
  go_wp2_with fail
  go_ret
  exact ⟨⟨_, _, _, gs, rfl, hl, HG.out⟩, B2.out⟩
set_option maxHeartbeats 8000000 in
theorem walk_FnProgramValid (A : Option Addr) (n c : Nat) (zs : List Int) (w : World) (h : IRk .u8 w A n zs) (hz : ∀ z ∈ zs, (Lit.int .u8 z).wf = true) (hc : n ≤ c) :
    Calls Try.prog 4 #[.slice A n c] w fun e w' => e = .returned (.bool true) ∧ Below w.heap.size w w' := by
  have HR := hide h
  have HZ := hide hz
  clear h hz
  by_cases hbig : 1048576 < n
  · have hbig' : (1048576 : Int) < (n : Int) := by omega
    go_enter Try.func4, Try.ntmps4
    go_wp2_with fail
    go_ret
    exact ⟨rfl, Below.refl _ _⟩
  have hsmall : ¬ (1048576 : Int) < (n : Int) := by omega
  go_enter Try.func4, Try.ntmps4
  go_wp2_with fail
  refine (drawProgramValid_b A n c zs _ HR.out HZ.out hc).mono ?_
  rintro e w1 ⟨⟨A2, n2, c2, gs, rfl, hn2, hg⟩, hb1⟩
  have HL := Lib.hid hg.len
  have HG1 := hide hg
  have B1 := hide hb1
  clear hg hb1 HR HZ hbig hsmall
  have HP := hide (fun w h => programValid_any A2 n2 c2 gs w h)
  have HS := hide (fun w h => sProgramValid_any A2 n2 c2 gs w h (by omega))
  obtain ⟨tw, htw⟩ : ∃ x, x = gs ++ gs := ⟨_, rfl⟩
  obtain ⟨en, hen⟩ : ∃ x, x = gs ++ [((5 : Int), (0 : Int), (0 : Int), (0 : Int))] := ⟨_, rfl⟩
  have HTw := Lib.hid htw
  have HEn := Lib.hid hen
  clear htw hen
  have HTl : Hid (tw.length ≤ 146) := hide (by rw [HTw.out, List.length_append, HL.out]; omega)
  have HNil : Hid (∀ w, Calls Try.prog 8 #[.slice none 0 0] w fun e w' => e = .returned (.bool true) ∧ Below w.heap.size w w') := hide (fun w => by have := programValid_any none 0 0 [] w (GR.none0 w); rw [progQ_none] at this; exact this)
  cases hq : progQ gs
  · rw [hq] at HP HS
    go_wp2_with fail
    refine (HP.out _ HG1.out).mono ?_
    rintro e w2 ⟨rfl, hb2⟩
    have B2 := hide (bseq B1.out hb2)
    have HG2 := hide (HG1.out.below hb2)
    clear hb2 HG1 B1
    go_wp2_with fail
    refine (HS.out _ HG2.out).mono ?_
    rintro e w3 ⟨rfl, hb3⟩
    have B3 := hide (bseq B2.out hb3)
    have HG3 := hide (HG2.out.below hb3)
    have HN3 := hide (OwnG.nil0 w3 w3.heap.size (Nat.le_refl _))
    have B4 := hide ((Below.refl w3.heap.size w3).alloc (Nat.le_refl _) (.cells #[] 32))
    have HG4 := hide (HG3.out.below B4.out)
    clear hb3 HG2 B2
    go_upto_region 8 with (at_builtin; first | (refine wpList_append_gates HN3.out HG4.out (.tmp 17) (.tmp 18) rfl rfl rfl rfl (by rw [HL.out]; simp; omega) (by simp) ?_; intro v6 w6 ho6 hg6; have HO6 := hide (show OwnG w6 w3.heap.size v6 gs by simpa using ho6); have B6 := hide (B4.out.grown hg6 (by simp) (fun k hk => (HN3.out.lt k hk).1)); have HG6 := hide (HG3.out.below B6.out); have hs6 := B6.out.size; clear ho6 hg6) | (refine wpList_append_gates HO6.out HG6.out (.tmp 19) (.tmp 20) rfl rfl rfl rfl (by rw [HL.out]; omega) hs6 ?_; intro v8 w8 ho8 hg8; rw [← HTw.out] at ho8; have B8 := hide (B6.out.grown hg8 hs6 (fun k hk => (HO6.out.lt k hk).1)); rcases ho8.gr with ⟨A8, c8, rfl, hG8⟩; have HG8 := hide hG8; clear ho8 hg8 hG8))
    have HGp := hide (HG3.out.below B8.out)
    have BB := hide (bseq B3.out B8.out)
    clear HN3 B4 HG4 HO6 B6 HG6 hs6 HG3 B3 B8
    go_wp2_with fail
    refine (HNil.out _).mono ?_
    rintro e wn ⟨rfl, hbn⟩
    have BN := hide (bseq BB.out hbn)
    clear hbn
    go_wp2_with fail
    refine (alive_any _).mono ?_
    rintro e w' ⟨rfl, rfl⟩
    go_wp2_with fail
    go_ret
    exact ⟨rfl, BN.out⟩
  · have HT := hide (fun (A : Option Addr) (n c : Nat) (w : World) (h : GR w A n tw) (hl : tw.length ≤ 16) => by have := programValid_any A n c tw w h; rw [progQ_twice HTw.out hq hl] at this; exact this)
    have HE := hide (fun (A : Option Addr) (n c : Nat) (w : World) (h : GR w A n en) => by have := programValid_any A n c en w h; rw [progQ_end HEn.out hq] at this; exact this)
    rw [hq] at HP HS
    go_wp2_with fail
    refine (HP.out _ HG1.out).mono ?_
    rintro e w2 ⟨rfl, hb2⟩
    have B2 := hide (bseq B1.out hb2)
    have HG2 := hide (HG1.out.below hb2)
    clear hb2 HG1 B1
    go_wp2_with fail
    refine (HS.out _ HG2.out).mono ?_
    rintro e w3 ⟨rfl, hb3⟩
    have B3 := hide (bseq B2.out hb3)
    have HG3 := hide (HG2.out.below hb3)
    have HN3 := hide (OwnG.nil0 w3 w3.heap.size (Nat.le_refl _))
    have B4 := hide ((Below.refl w3.heap.size w3).alloc (Nat.le_refl _) (.cells #[] 32))
    have HG4 := hide (HG3.out.below B4.out)
    clear hb3 HG2 B2
    go_upto_region 8 with (at_builtin; first | (refine wpList_append_gates HN3.out HG4.out (.tmp 17) (.tmp 18) rfl rfl rfl rfl (by rw [HL.out]; simp; omega) (by simp) ?_; intro v6 w6 ho6 hg6; have HO6 := hide (show OwnG w6 w3.heap.size v6 gs by simpa using ho6); have B6 := hide (B4.out.grown hg6 (by simp) (fun k hk => (HN3.out.lt k hk).1)); have HG6 := hide (HG3.out.below B6.out); have hs6 := B6.out.size; clear ho6 hg6) | (refine wpList_append_gates HO6.out HG6.out (.tmp 19) (.tmp 20) rfl rfl rfl rfl (by rw [HL.out]; omega) hs6 ?_; intro v8 w8 ho8 hg8; rw [← HTw.out] at ho8; have B8 := hide (B6.out.grown hg8 hs6 (fun k hk => (HO6.out.lt k hk).1)); rcases ho8.gr with ⟨A8, c8, rfl, hG8⟩; have HG8 := hide hG8; clear ho8 hg8 hG8))
    have HGp := hide (HG3.out.below B8.out)
    have BB := hide (bseq B3.out B8.out)
    clear HN3 B4 HG4 HO6 B6 HG6 hs6 HG3 B3 B8
    by_cases h16 : 16 < tw.length
    · have h16' : (16 : Int) < (tw.length : Int) := by omega
      have HN := hide (OwnG.nil0 w8 w8.heap.size (Nat.le_refl _))
      have BA := hide ((Below.refl w8.heap.size w8).alloc (Nat.le_refl _) (.cells #[] 32))
      have HGa := hide (HGp.out.below BA.out)
      go_wp2_with (at_builtin; go_loud (first | (refine wpList_append_gates_w HN.out HGa.out (.tmp 37) (.tmp 38) rfl rfl rfl rfl (by rw [HL.out]; simp; omega) (by simp) ?_; intro v9 w9 ho9 hg9; have HO9 := hide (show OwnG w9 w8.heap.size v9 gs by simpa using ho9); have B9 := hide (BA.out.grown hg9 (by simp) (fun k hk => (HN.out.lt k hk).1)); have hs9 := B9.out.size; have HO9a := hide (HO9.out.alloc (.cells #[.int .i64 5, .int .i64 0, .int .i64 0, .int .i64 0] 32)); have HF9 := hide (one_line w9 5 0 0 0); have B9a := hide (B9.out.alloc hs9 (.cells #[.int .i64 5, .int .i64 0, .int .i64 0, .int .i64 0] 32)); clear ho9 hg9) | (refine wpList_append_gates_w HO9a.out HF9.out (.tmp 39) (.tmp 41) rfl rfl rfl rfl (by rw [HL.out]; simp; omega) (by simp; omega) ?_; intro v10 w10 ho10 hg10; rw [← HEn.out] at ho10; have B10 := hide (B9a.out.grown hg10 (by simp; omega) (fun k hk => (HO9a.out.lt k hk).1)); rcases ho10.gr with ⟨A10, c10, rfl, hG10⟩; have HG10 := hide hG10; clear ho10 hg10 hG10)))
      refine (HE.out _ _ _ _ HG10.out).mono ?_
      rintro e w11 ⟨rfl, hb11⟩
      have BC := hide (bseq (bseq BB.out B10.out) hb11)
      clear hb11 BB
      have BB := BC
      go_wp2_with fail
      refine (HNil.out _).mono ?_
      rintro e wn ⟨rfl, hbn⟩
      have BN := hide (bseq BB.out hbn)
      clear hbn
      go_wp2_with fail
      refine (alive_any _).mono ?_
      rintro e w' ⟨rfl, rfl⟩
      go_wp2_with fail
      go_ret
      exact ⟨rfl, BN.out⟩
    · have h16' : ¬ (16 : Int) < (tw.length : Int) := by omega
      go_wp2_with fail
      refine (HT.out _ _ _ _ HG8.out (by omega)).mono ?_
      rintro e w12 ⟨rfl, hb12⟩
      have BB2 := hide (bseq BB.out hb12)
      have HGp2 := hide (HGp.out.below hb12)
      clear hb12 BB HGp
      have BB := BB2
      have HGp := HGp2
      clear BB2 HGp2
      have HN := hide (OwnG.nil0 w12 w12.heap.size (Nat.le_refl _))
      have BA := hide ((Below.refl w12.heap.size w12).alloc (Nat.le_refl _) (.cells #[] 32))
      have HGa := hide (HGp.out.below BA.out)
      go_wp2_with (at_builtin; go_loud (first | (refine wpList_append_gates_w HN.out HGa.out (.tmp 37) (.tmp 38) rfl rfl rfl rfl (by rw [HL.out]; simp; omega) (by simp) ?_; intro v9 w9 ho9 hg9; have HO9 := hide (show OwnG w9 w12.heap.size v9 gs by simpa using ho9); have B9 := hide (BA.out.grown hg9 (by simp) (fun k hk => (HN.out.lt k hk).1)); have hs9 := B9.out.size; have HO9a := hide (HO9.out.alloc (.cells #[.int .i64 5, .int .i64 0, .int .i64 0, .int .i64 0] 32)); have HF9 := hide (one_line w9 5 0 0 0); have B9a := hide (B9.out.alloc hs9 (.cells #[.int .i64 5, .int .i64 0, .int .i64 0, .int .i64 0] 32)); clear ho9 hg9) | (refine wpList_append_gates_w HO9a.out HF9.out (.tmp 39) (.tmp 41) rfl rfl rfl rfl (by rw [HL.out]; simp; omega) (by simp; omega) ?_; intro v10 w10 ho10 hg10; rw [← HEn.out] at ho10; have B10 := hide (B9a.out.grown hg10 (by simp; omega) (fun k hk => (HO9a.out.lt k hk).1)); rcases ho10.gr with ⟨A10, c10, rfl, hG10⟩; have HG10 := hide hG10; clear ho10 hg10 hG10)))
      refine (HE.out _ _ _ _ HG10.out).mono ?_
      rintro e w11 ⟨rfl, hb11⟩
      have BC := hide (bseq (bseq BB.out B10.out) hb11)
      clear hb11 BB
      have BB := BC
      go_wp2_with fail
      refine (HNil.out _).mono ?_
      rintro e wn ⟨rfl, hbn⟩
      have BN := hide (bseq BB.out hbn)
      clear hbn
      go_wp2_with fail
      refine (alive_any _).mono ?_
      rintro e w' ⟨rfl, rfl⟩
      go_wp2_with fail
      go_ret
      exact ⟨rfl, BN.out⟩
end Go.Proofs.Ytacdagdhkmcbiaa
