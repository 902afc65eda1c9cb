/-
  The walk of the law FnExactFieldBack: it returns true at every input, and turns nothing that was there.
  No condition.
-/
import Derived.Test.YtmakpjcjccgalaaFieldFns
namespace Go.Proofs.Ytmakpjcjccgalaa
open Go.RowKit Go.Sort base
/-- a box of a field -/
def BoxF (wr : World) (t : TypeId) (b : Nat) (v0 v1 v2 : Value) : Prop := wr.heap[b]? = some (.cells #[v0, v1, v2] t (0, 0))
section
variable {wr wy : World} {t : TypeId} {b : Nat} {v0 v1 v2 : Value}
theorem BoxF.lt (h : BoxF wr t b v0 v1 v2) : b < wr.heap.size := (Array.getElem?_eq_some_iff.1 h).1
theorem BoxF.below (h : BoxF wr t b v0 v1 v2) (hb : Below wr.heap.size wr wy) : BoxF wy t b v0 v1 v2 := (hb.block b h.lt).trans h
theorem BoxF.grown {row : Option Nat} (h : BoxF wr t b v0 v1 v2) (hg : wr.grownBy wy row) (hne : some b ≠ row) : BoxF wy t b v0 v1 v2 := (hg.block b h.lt hne).trans h
theorem BoxF.cells (h : BoxF wr t b v0 v1 v2) : wr.cell? ⟨b, 0, none⟩ = some v0 ∧ wr.cell? ⟨b, 1, none⟩ = some v1 ∧ wr.cell? ⟨b, 2, none⟩ = some v2 :=
  ⟨by rw [cell_of_row wr b 0 _ _ (0, 0) h]; rfl, by rw [cell_of_row wr b 1 _ _ (0, 0) h]; rfl, by rw [cell_of_row wr b 2 _ _ (0, 0) h]; rfl⟩
theorem OwnB.ne_boxv {base : Nat} {v : Value} {zs : List Bool} (h : OwnB wr base v zs) (hb : BoxF wr t b v0 v1 v2) (ht : (t == 4) = false) : some b ≠ v.ownBlock := by
  intro e
  rcases h.2 with ⟨rfl, _⟩ | ⟨g, cap, cur, rfl, _, hg, _⟩
  · cases e
  · simp [Value.ownBlock] at e
    subst e
    unfold BoxF at hb
    rw [hg] at hb
    simp at hb
    rw [← hb.2] at ht
    simp at ht
end
structure JE (w : World) (s : Int) (Ax A : Option Addr) (nx cx n c : Nat) (sh : Bool) (bs : List Bool) (L : Nat → Bool) (x27 x28 x29 x30 x31 : Value) (wx : World) : Prop where
  h0 : L 0 = true → x27 = .agg #[.int .i64 s, .slice Ax nx cx, .bool sh]
  h1 : L 1 = true → x28 = .agg #[.int .i64 s, .slice A n c, .bool sh]
  h2 : L 2 = true → ∃ A2 n2 c2, x29 = .agg #[.int .i64 s, .slice A2 n2 c2, .bool sh] ∧ BR wx A2 n2 bs
  h3 : L 3 = true → x30 = .bool true
  h4 : L 4 = true → x31 = .bool false
  b : Below w.heap.size w wx
theorem JE.start {w : World} {s : Int} {Ax A : Option Addr} {nx cx n c : Nat} {sh : Bool} {bs : List Bool} {wx : World} {x27 x28 x29 x30 x31 : Value} (hs : Below w.heap.size w wx) : JE w s Ax A nx cx n c sh bs (fun _ => false) x27 x28 x29 x30 x31 wx :=
  ⟨(fun h => by cases h), (fun h => by cases h), (fun h => by cases h), (fun h => by cases h), (fun h => by cases h), hs⟩
theorem JE.p0 {w : World} {s : Int} {Ax A : Option Addr} {nx cx n c : Nat} {sh : Bool} {bs : List Bool} {wx : World} {L : Nat → Bool} {x27 x28 x29 x30 x31 : Value} (h : JE w s Ax A nx cx n c sh bs L x27 x28 x29 x30 x31 wx) (hL : L 0 = false) {v : Value} (hv : v = .agg #[.int .i64 s, .slice Ax nx cx, .bool sh])  : JE w s Ax A nx cx n c sh bs (upd L 0) (v) x28 x29 x30 x31 wx :=
  ⟨fun _ => hv, fun e => h.h1 (upd_ne e rfl), fun e => h.h2 (upd_ne e rfl), fun e => h.h3 (upd_ne e rfl), fun e => h.h4 (upd_ne e rfl), h.b⟩
theorem JE.p1 {w : World} {s : Int} {Ax A : Option Addr} {nx cx n c : Nat} {sh : Bool} {bs : List Bool} {wx : World} {L : Nat → Bool} {x27 x28 x29 x30 x31 : Value} (h : JE w s Ax A nx cx n c sh bs L x27 x28 x29 x30 x31 wx) (hL : L 1 = false) {v : Value} (hv : v = .agg #[.int .i64 s, .slice A n c, .bool sh])  : JE w s Ax A nx cx n c sh bs (upd L 1) x27 (v) x29 x30 x31 wx :=
  ⟨fun e => h.h0 (upd_ne e rfl), fun _ => hv, fun e => h.h2 (upd_ne e rfl), fun e => h.h3 (upd_ne e rfl), fun e => h.h4 (upd_ne e rfl), h.b⟩
theorem JE.p4 {w : World} {s : Int} {Ax A : Option Addr} {nx cx n c : Nat} {sh : Bool} {bs : List Bool} {wx : World} {L : Nat → Bool} {x27 x28 x29 x30 x31 : Value} (h : JE w s Ax A nx cx n c sh bs L x27 x28 x29 x30 x31 wx) (hL : L 4 = false) {v : Value} (hv : v = .bool false)  : JE w s Ax A nx cx n c sh bs (upd L 4) x27 x28 x29 x30 (v) wx :=
  ⟨fun e => h.h0 (upd_ne e rfl), fun e => h.h1 (upd_ne e rfl), fun e => h.h2 (upd_ne e rfl), fun e => h.h3 (upd_ne e rfl), fun _ => hv, h.b⟩
theorem JE.cp {w : World} {s : Int} {Ax A : Option Addr} {nx cx n c : Nat} {sh : Bool} {bs : List Bool} {wx : World} {L : Nat → Bool} {x27 x28 x29 x30 x31 : Value} (h : JE w s Ax A nx cx n c sh bs L x27 x28 x29 x30 x31 wx) (hL : L 2 = false) {A2 : Option Addr} {n2 c2 : Nat} {wy : World} (hr : BR wy A2 n2 bs) (hb : Below wx.heap.size wx wy) : JE w s Ax A nx cx n c sh bs (upd L 2) x27 x28 (.agg #[.int .i64 s, .slice A2 n2 c2, .bool sh]) x30 x31 wy :=
  ⟨fun e => h.h0 (upd_ne e rfl), fun e => h.h1 (upd_ne e rfl), fun _ => ⟨A2, n2, c2, rfl, hr⟩, fun e => h.h3 (upd_ne e rfl), fun e => h.h4 (upd_ne e rfl), bseq h.b hb⟩
theorem JE.eq {w : World} {s : Int} {Ax A : Option Addr} {nx cx n c : Nat} {sh : Bool} {bs : List Bool} {wx : World} {L : Nat → Bool} {x27 x28 x29 x30 x31 : Value} (h : JE w s Ax A nx cx n c sh bs L x27 x28 x29 x30 x31 wx) (hL : L 3 = false) {wy : World} (hb : Below wx.heap.size wx wy) : JE w s Ax A nx cx n c sh bs (upd L 3) x27 x28 x29 (.bool true) x31 wy :=
  ⟨fun e => h.h0 (upd_ne e rfl), fun e => h.h1 (upd_ne e rfl), fun e => let ⟨A2, n2, c2, h1, h2⟩ := h.h2 (upd_ne e rfl); ⟨A2, n2, c2, h1, h2.below hb⟩, fun _ => rfl, fun e => h.h4 (upd_ne e rfl), bseq h.b hb⟩
set_option maxRecDepth 100000 in
set_option maxHeartbeats 8000000 in
theorem walk_FnExactFieldBack (s : Int) (A : Option Addr) (n c : Nat) (bs : List Bool) (sh : Bool) (w : World) (hwf : (Lit.int .i64 s).wf = true) (hb : BR w A n bs) (_ : n ≤ c) :
    Calls Try.prog 4 #[.agg #[.int .i64 s, .slice A n c, .bool sh]] w fun e w' => e = .returned (.bool true) ∧ Below w.heap.size w w' := by
  have hmax := hb.max
  have HL := Lib.hid hb.len
  have HB := hide hb
  have HW := Lib.hid hwf
  clear hb hwf
  by_cases hbig : n ≤ 1048576
  · have HI := Lib.hid (if_pos hbig : (if n ≤ 1048576 then 1048576 - (n : Int) else -1) = _)
    go_enter Try.func4, Try.ntmps4
    have B0 := hide (Below.refl w.heap.size w)
    go_wp2_with fail
    refine calls_named fun W1 hW1 => ?_
    have hbW1 : Below w.heap.size w W1 := by rw [← hW1]; exact (Below.refl _ _).alloc (Nat.le_refl _) _
    have hs1 := hbW1.size
    have B1 := hide (bseq B0.out hbW1)
    have Xa_1 := hide (show BoxF W1 32 w.heap.size (.int .i64 s) (.slice A n c) (.bool sh) from by rw [← hW1]; exact heap_alloc_new _ _)
    clear hW1 hbW1
    refine (szField_any s A n c sh W1 hmax).mono ?_
    rintro e w2 ⟨rfl, hb⟩
    rw [HI.out]
    have hs2 := hb.size
    have B2 := hide (bseq B1.out hb)
    have Xa_2 := hide (Xa_1.out.below hb)
    clear hb
    obtain ⟨xa0, xa1, xa2⟩ := Xa_2.out.cells
    have xla := Xa_2.out.lt
    go_wp2_with fail
    clear xa0 xa1 xa2 xla
    refine (toField_any s A n c sh bs w2 (HB.out.below B2.out) (by omega)).mono ?_
    rintro e w3 ⟨Ac1, nc1, cc1, rfl, ho, hb⟩
    have hs3 := hb.size
    have B3 := hide (bseq B2.out hb)
    have Xa_3 := hide (Xa_2.out.below hb)
    have Oc1_3 := hide ho
    have Lc1 := hide ho.lt
    have Nc1 := Lib.hid ho.br.len
    clear hb ho
    go_wp2_with fail
    refine (sBacks_ok_any s Ac1 nc1 cc1 sh bs w3 Oc1_3.out.br (by have := Nc1.out; have := HL.out; omega) HW.out).mono ?_
    rintro e w4 ⟨Ar0, nr0, cr0, rfl, ho, hb⟩
    have hs4 := hb.size
    have B4 := hide (bseq B3.out hb)
    have Xa_4 := hide (Xa_3.out.below hb)
    have Oc1_4 := hide (Oc1_3.out.below hb)
    have Or0_4 := hide ho
    have Lr0 := hide ho.lt
    have Nr0 := Lib.hid ho.br.len
    clear hb ho
    obtain ⟨xa0, xa1, xa2⟩ := Xa_4.out.cells
    have xla := Xa_4.out.lt
    go_wp2_with fail
    clear xa0 xa1 xa2 xla
    refine calls_named fun W5 hW5 => ?_
    have hbW5 : Below w4.heap.size w4 W5 := by rw [← hW5]; exact (Below.refl _ _).alloc (Nat.le_refl _) _
    have hs5 := hbW5.size
    have B5 := hide (bseq B4.out hbW5)
    have Xa_5 := hide (Xa_4.out.below hbW5)
    have Oc1_5 := hide (Oc1_4.out.below hbW5)
    have Or0_5 := hide (Or0_4.out.below hbW5)
    have Xr0_5 := hide (show BoxF W5 25 w4.heap.size (.int .i64 (outS s bs)) (.slice Ar0 nr0 cr0) (.bool (outN s sh bs)) from by rw [← hW5]; exact heap_alloc_new _ _)
    clear hW5 hbW5
    refine (toField_any s A n c sh bs W5 (HB.out.below B5.out) (by omega)).mono ?_
    rintro e w6 ⟨Ax0, nx0, cx0, rfl, ho, hb⟩
    have hs6 := hb.size
    have B6 := hide (bseq B5.out hb)
    have Xa_6 := hide (Xa_5.out.below hb)
    have Xr0_6 := hide (Xr0_5.out.below hb)
    have Oc1_6 := hide (Oc1_5.out.below hb)
    have Or0_6 := hide (Or0_5.out.below hb)
    have Ox0_6 := hide ho
    have Lx0 := hide ho.lt
    have Nx0 := Lib.hid ho.br.len
    clear hb ho
    go_wp2_with fail
    refine calls_named fun W7 hW7 => ?_
    have hbW7 : Below w6.heap.size w6 W7 := by rw [← hW7]; exact (Below.refl _ _).alloc (Nat.le_refl _) _
    have hs7 := hbW7.size
    have B7 := hide (bseq B6.out hbW7)
    have Xa_7 := hide (Xa_6.out.below hbW7)
    have Xr0_7 := hide (Xr0_6.out.below hbW7)
    have Oc1_7 := hide (Oc1_6.out.below hbW7)
    have Or0_7 := hide (Or0_6.out.below hbW7)
    have Ox0_7 := hide (Ox0_6.out.below hbW7)
    have Xx0_7 := hide (show BoxF W7 25 w6.heap.size (.int .i64 s) (.slice Ax0 nx0 cx0) (.bool sh) from by rw [← hW7]; exact heap_alloc_new _ _)
    clear hW7 hbW7
    refine (backs_ok_any s Ax0 nx0 cx0 sh bs W7 Ox0_7.out.br (by have := Nx0.out; have := HL.out; omega) HW.out).mono ?_
    rintro e w8 ⟨Ag0, ng0, cg0, rfl, ho, hb⟩
    have hs8 := hb.size
    have B8 := hide (bseq B7.out hb)
    have Xa_8 := hide (Xa_7.out.below hb)
    have Xr0_8 := hide (Xr0_7.out.below hb)
    have Xx0_8 := hide (Xx0_7.out.below hb)
    have Oc1_8 := hide (Oc1_7.out.below hb)
    have Or0_8 := hide (Or0_7.out.below hb)
    have Ox0_8 := hide (Ox0_7.out.below hb)
    have Og0_8 := hide ho
    have Lg0 := hide ho.lt
    have Ng0 := Lib.hid ho.br.len
    clear hb ho
    obtain ⟨xr00, xr01, xr02⟩ := Xr0_8.out.cells
    have xlr0 := Xr0_8.out.lt
    go_wp2_with fail
    clear xr00 xr01 xr02 xlr0
    refine calls_named fun W9 hW9 => ?_
    have hbW9 : Below w8.heap.size w8 W9 := by rw [← hW9]; exact (Below.refl _ _).alloc (Nat.le_refl _) _
    have hs9 := hbW9.size
    have B9 := hide (bseq B8.out hbW9)
    have Xa_9 := hide (Xa_8.out.below hbW9)
    have Xr0_9 := hide (Xr0_8.out.below hbW9)
    have Xx0_9 := hide (Xx0_8.out.below hbW9)
    have Oc1_9 := hide (Oc1_8.out.below hbW9)
    have Or0_9 := hide (Or0_8.out.below hbW9)
    have Ox0_9 := hide (Ox0_8.out.below hbW9)
    have Og0_9 := hide (Og0_8.out.below hbW9)
    have Xg0_9 := hide (show BoxF W9 25 w8.heap.size (.int .i64 (outS s bs)) (.slice Ag0 ng0 cg0) (.bool (outN s sh bs)) from by rw [← hW9]; exact heap_alloc_new _ _)
    clear hW9 hbW9
    refine (eqField_same (outS s bs) Ag0 Ar0 ng0 cg0 nr0 cr0 (outN s sh bs) (backL s sh bs) W9 Og0_9.out.br Or0_9.out.br).mono ?_
    rintro e w10 ⟨rfl, hb⟩
    have hs10 := hb.size
    have B10 := hide (bseq B9.out hb)
    have Xa_10 := hide (Xa_9.out.below hb)
    have Xr0_10 := hide (Xr0_9.out.below hb)
    have Xx0_10 := hide (Xx0_9.out.below hb)
    have Xg0_10 := hide (Xg0_9.out.below hb)
    have Oc1_10 := hide (Oc1_9.out.below hb)
    have Or0_10 := hide (Or0_9.out.below hb)
    have Ox0_10 := hide (Ox0_9.out.below hb)
    have Og0_10 := hide (Og0_9.out.below hb)
    clear hb
    go_wp2_with fail
    refine wp_frame fun a0 ha0 => ?_
    have HA := Lib.hid ha0
    clear ha0
    refine wp_region_inv (fun L a wx => ∃ x27 x28 x29 x30 x31, a = putL a0 [(27, x27), (28, x28), (29, x29), (30, x30), (31, x31)] ∧ Hid (JE w10 s Ax0 A nx0 cx0 n c sh bs L x27 x28 x29 x30 x31 wx)) (by kernel_rfl) (by kernel_rfl) ?_ ?_ ?_
    · exact ⟨_, _, _, _, _, putL_self a0 [27, 28, 29, 30, 31], hide (JE.start (show Below w10.heap.size w10 w10.drew from below_drewN (Below.refl _ _) 1))⟩
    · refine ⟨?_, ?_, ?_, ?_, ?_, trivial⟩
      · intro L a wx hL0 hd
        rintro ⟨x27, x28, x29, x30, x31, rfl, HJ⟩
        have hD := hd
        try simp [deps, Region.binds] at hD
        obtain ⟨x1, x2, x3⟩ := (Xx0_10.out.below HJ.out.b).cells
        clear hD hd
        rw [← HA.out]
        simp only [putL, List.setIfInBounds_toArray, List.set_cons_succ, List.set_cons_zero]
        go_wp2_with fail
        clear x1 x2 x3
        refine ⟨_, _, _, _, _, ?_, hide (HJ.out.p0 hL0 rfl)⟩
        · try rw [← HA.out]
          try simp only [putL, List.setIfInBounds_toArray, List.set_cons_succ, List.set_cons_zero]
      · intro L a wx hL0 hd
        rintro ⟨x27, x28, x29, x30, x31, rfl, HJ⟩
        have hD := hd
        try simp [deps, Region.binds] at hD
        obtain ⟨x1, x2, x3⟩ := (Xa_10.out.below HJ.out.b).cells
        clear hD hd
        rw [← HA.out]
        simp only [putL, List.setIfInBounds_toArray, List.set_cons_succ, List.set_cons_zero]
        go_wp2_with fail
        clear x1 x2 x3
        refine ⟨_, _, _, _, _, ?_, hide (HJ.out.p1 hL0 rfl)⟩
        · try rw [← HA.out]
          try simp only [putL, List.setIfInBounds_toArray, List.set_cons_succ, List.set_cons_zero]
      · intro L a wx hL0 hd
        rintro ⟨x27, x28, x29, x30, x31, rfl, HJ⟩
        have hD := hd
        try simp [deps, Region.binds] at hD
        obtain rfl := HJ.out.h1 (by simp [hD])
        clear hD hd
        rw [← HA.out]
        simp only [putL, List.setIfInBounds_toArray, List.set_cons_succ, List.set_cons_zero]
        go_wp2_with fail
        refine (toField_any s A n c sh bs wx (HB.out.below (bseq B10.out HJ.out.b)) (by omega)).mono ?_
        rintro e w8 ⟨A2, n2, c2, rfl, ho, hb⟩
        have HJ2 := hide (HJ.out.cp hL0 (c2 := c2) ho.br hb)
        clear ho hb
        go_wp2_with fail
        refine ⟨_, _, _, _, _, ?_, hide (HJ2.out)⟩
        · try rw [← HA.out]
          try simp only [putL, List.setIfInBounds_toArray, List.set_cons_succ, List.set_cons_zero]
      · intro L a wx hL0 hd
        rintro ⟨x27, x28, x29, x30, x31, rfl, HJ⟩
        have hD := hd
        try simp [deps, Region.binds] at hD
        obtain rfl := HJ.out.h0 (by simp [hD])
        obtain ⟨A2, n2, c2, rfl, hr⟩ := HJ.out.h2 (by simp [hD])
        have HR := hide hr
        clear hr
        clear hD hd
        rw [← HA.out]
        simp only [putL, List.setIfInBounds_toArray, List.set_cons_succ, List.set_cons_zero]
        go_wp2_with fail
        refine (eqField_same s Ax0 A2 nx0 cx0 n2 c2 sh bs wx (Ox0_10.out.below HJ.out.b).br HR.out).mono ?_
        rintro e w8 ⟨rfl, hb⟩
        have HJ2 := hide (HJ.out.eq hL0 hb)
        clear hb
        go_wp2_with fail
        refine ⟨_, _, _, _, _, ?_, hide (HJ2.out)⟩
        · try rw [← HA.out]
          try simp only [putL, List.setIfInBounds_toArray, List.set_cons_succ, List.set_cons_zero]
      · intro L a wx hL0 hd
        rintro ⟨x27, x28, x29, x30, x31, rfl, HJ⟩
        have hD := hd
        try simp [deps, Region.binds] at hD
        obtain rfl := HJ.out.h3 (by simp [hD])
        clear hD hd
        rw [← HA.out]
        simp only [putL, List.setIfInBounds_toArray, List.set_cons_succ, List.set_cons_zero]
        go_wp2_with fail
        refine ⟨_, _, _, _, _, ?_, hide (HJ.out.p4 hL0 rfl)⟩
        · try rw [← HA.out]
          try simp only [putL, List.setIfInBounds_toArray, List.set_cons_succ, List.set_cons_zero]
    · intro L a wx hall
      rintro ⟨x27, x28, x29, x30, x31, rfl, HJ⟩
      rw [← HA.out]
      simp only [putL, List.setIfInBounds_toArray, List.set_cons_succ, List.set_cons_zero]
      obtain rfl := HJ.out.h4 (hall 4 (by decide))
      have hb := HJ.out.b
      clear HJ hall
      have hs11 := hb.size
      have B11 := hide (bseq B10.out hb)
      have Xa_11 := hide (Xa_10.out.below hb)
      have Xr0_11 := hide (Xr0_10.out.below hb)
      have Xx0_11 := hide (Xx0_10.out.below hb)
      have Xg0_11 := hide (Xg0_10.out.below hb)
      have Oc1_11 := hide (Oc1_10.out.below hb)
      have Or0_11 := hide (Or0_10.out.below hb)
      have Ox0_11 := hide (Ox0_10.out.below hb)
      have Og0_11 := hide (Og0_10.out.below hb)
      clear hb
      obtain ⟨xx00, xx01, xx02⟩ := Xx0_11.out.cells
      have xlx0 := Xx0_11.out.lt
      go_wp2_with fail
      clear xx00 xx01 xx02 xlx0
      refine (markField_any s Ax0 nx0 cx0 sh bs _ wx Ox0_11.out (by have := Nx0.out; have := HL.out; omega)).mono ?_
      rintro e w11 ⟨rfl, ho, hg⟩
      have hs12 := hg.size
      have B12 := hide (B11.out.grown hg B11.out.size (fun k hk => by have := (Lx0.out k hk).1; omega))
      have Xa_12 := hide (Xa_11.out.grown hg (Ox0_11.out.ne_boxv Xa_11.out (by decide)))
      have Xr0_12 := hide (Xr0_11.out.grown hg (Ox0_11.out.ne_boxv Xr0_11.out (by decide)))
      have Xx0_12 := hide (Xx0_11.out.grown hg (Ox0_11.out.ne_boxv Xx0_11.out (by decide)))
      have Xg0_12 := hide (Xg0_11.out.grown hg (Ox0_11.out.ne_boxv Xg0_11.out (by decide)))
      have Oc1_12 := hide (Oc1_11.out.kept hg (ne_blocks Lc1.out Lx0.out (by omega)))
      have Or0_12 := hide (Or0_11.out.kept hg (ne_blocks Lr0.out Lx0.out (by omega)))
      have Og0_12 := hide (Og0_11.out.kept hg (ne_blocks Lg0.out Lx0.out (by omega)))
      have Ox0_12 := hide ho
      clear ho hg
      have hx1 : nx0 ≤ 1048576 := (by have := Nx0.out; have := HL.out; omega)
      obtain ⟨xg00, xg01, xg02⟩ := Xg0_12.out.cells
      have xlg0 := Xg0_12.out.lt
      obtain ⟨xr00, xr01, xr02⟩ := Xr0_12.out.cells
      have xlr0 := Xr0_12.out.lt
      go_wp2_with fail
      clear xg00 xg01 xg02 xlg0 xr00 xr01 xr02 xlr0
      refine (eqField_same (outS s bs) Ag0 Ar0 ng0 cg0 nr0 cr0 (outN s sh bs) (backL s sh bs) w11 Og0_12.out.br Or0_12.out.br).mono ?_
      rintro e w12 ⟨rfl, hb⟩
      have hs13 := hb.size
      have B13 := hide (bseq B12.out hb)
      have Xa_13 := hide (Xa_12.out.below hb)
      have Xr0_13 := hide (Xr0_12.out.below hb)
      have Xx0_13 := hide (Xx0_12.out.below hb)
      have Xg0_13 := hide (Xg0_12.out.below hb)
      have Oc1_13 := hide (Oc1_12.out.below hb)
      have Or0_13 := hide (Or0_12.out.below hb)
      have Ox0_13 := hide (Ox0_12.out.below hb)
      have Og0_13 := hide (Og0_12.out.below hb)
      clear hb
      have hg1 : ng0 ≤ 1048576 := by have := Ng0.out; have := (stepL_len s sh bs).2; omega
      obtain ⟨xg00, xg01, xg02⟩ := Xg0_13.out.cells
      have xlg0 := Xg0_13.out.lt
      go_wp2_with fail
      clear xg00 xg01 xg02 xlg0
      refine (markField_any (outS s bs) Ag0 ng0 cg0 (outN s sh bs) (backL s sh bs) _ w12 Og0_13.out hg1).mono ?_
      rintro e w13 ⟨rfl, ho, hg⟩
      have hs14 := hg.size
      have B14 := hide (B13.out.grown hg B13.out.size (fun k hk => by have := (Lg0.out k hk).1; omega))
      have Xa_14 := hide (Xa_13.out.grown hg (Og0_13.out.ne_boxv Xa_13.out (by decide)))
      have Xr0_14 := hide (Xr0_13.out.grown hg (Og0_13.out.ne_boxv Xr0_13.out (by decide)))
      have Xx0_14 := hide (Xx0_13.out.grown hg (Og0_13.out.ne_boxv Xx0_13.out (by decide)))
      have Xg0_14 := hide (Xg0_13.out.grown hg (Og0_13.out.ne_boxv Xg0_13.out (by decide)))
      have Oc1_14 := hide (Oc1_13.out.kept hg (ne_blocks Lc1.out Lg0.out (by omega)))
      have Or0_14 := hide (Or0_13.out.kept hg (ne_blocks Lr0.out Lg0.out (by omega)))
      have Ox0_14 := hide (Ox0_13.out.kept hg (ne_blocks Lx0.out Lg0.out (by omega)))
      have Og0_14 := hide ho
      clear ho hg
      obtain ⟨xg00, xg01, xg02⟩ := Xg0_14.out.cells
      have xlg0 := Xg0_14.out.lt
      go_wp2_with fail
      clear xg00 xg01 xg02 xlg0
      refine (heldField_any (outS s bs) Ag0 ng0 cg0 (outN s sh bs) w13 Og0_14.out.br hg1).mono ?_
      rintro e w14 ⟨rfl, hb⟩
      have hs15 := hb.size
      have B15 := hide (bseq B14.out hb)
      have Xa_15 := hide (Xa_14.out.below hb)
      have Xr0_15 := hide (Xr0_14.out.below hb)
      have Xx0_15 := hide (Xx0_14.out.below hb)
      have Xg0_15 := hide (Xg0_14.out.below hb)
      have Oc1_15 := hide (Oc1_14.out.below hb)
      have Or0_15 := hide (Or0_14.out.below hb)
      have Ox0_15 := hide (Ox0_14.out.below hb)
      have Og0_15 := hide (Og0_14.out.below hb)
      clear hb
      have hne : ((1 : Int) + (ng0 : Int) != 1 + (ng0 : Int)) = false := by simp
      obtain ⟨xa0, xa1, xa2⟩ := Xa_15.out.cells
      have xla := Xa_15.out.lt
      go_wp2_with fail
      clear xa0 xa1 xa2 xla
      refine (toField_any s A n c sh bs w14 (HB.out.below B15.out) (by omega)).mono ?_
      rintro e w15 ⟨Ac2, nc2, cc2, rfl, ho, hb⟩
      have hs16 := hb.size
      have B16 := hide (bseq B15.out hb)
      have Xa_16 := hide (Xa_15.out.below hb)
      have Xr0_16 := hide (Xr0_15.out.below hb)
      have Xx0_16 := hide (Xx0_15.out.below hb)
      have Xg0_16 := hide (Xg0_15.out.below hb)
      have Oc1_16 := hide (Oc1_15.out.below hb)
      have Or0_16 := hide (Or0_15.out.below hb)
      have Ox0_16 := hide (Ox0_15.out.below hb)
      have Og0_16 := hide (Og0_15.out.below hb)
      have Oc2_16 := hide ho
      have Lc2 := hide ho.lt
      have Nc2 := Lib.hid ho.br.len
      clear hb ho
      go_wp2_with fail
      refine (backs_ok_any s Ac2 nc2 cc2 sh bs w15 Oc2_16.out.br (by have := Nc2.out; have := HL.out; omega) HW.out).mono ?_
      rintro e w16 ⟨Ah0, nh0, ch0, rfl, ho, hb⟩
      have hs17 := hb.size
      have B17 := hide (bseq B16.out hb)
      have Xa_17 := hide (Xa_16.out.below hb)
      have Xr0_17 := hide (Xr0_16.out.below hb)
      have Xx0_17 := hide (Xx0_16.out.below hb)
      have Xg0_17 := hide (Xg0_16.out.below hb)
      have Oc1_17 := hide (Oc1_16.out.below hb)
      have Or0_17 := hide (Or0_16.out.below hb)
      have Ox0_17 := hide (Ox0_16.out.below hb)
      have Og0_17 := hide (Og0_16.out.below hb)
      have Oc2_17 := hide (Oc2_16.out.below hb)
      have Oh0_17 := hide ho
      have Lh0 := hide ho.lt
      have Nh0 := Lib.hid ho.br.len
      clear hb ho
      obtain ⟨xr00, xr01, xr02⟩ := Xr0_17.out.cells
      have xlr0 := Xr0_17.out.lt
      go_wp2_with fail
      clear xr00 xr01 xr02 xlr0
      refine calls_named fun W17 hW17 => ?_
      have hbW17 : Below w16.heap.size w16 W17 := by rw [← hW17]; exact (Below.refl _ _).alloc (Nat.le_refl _) _
      have hs18 := hbW17.size
      have B18 := hide (bseq B17.out hbW17)
      have Xa_18 := hide (Xa_17.out.below hbW17)
      have Xr0_18 := hide (Xr0_17.out.below hbW17)
      have Xx0_18 := hide (Xx0_17.out.below hbW17)
      have Xg0_18 := hide (Xg0_17.out.below hbW17)
      have Oc1_18 := hide (Oc1_17.out.below hbW17)
      have Or0_18 := hide (Or0_17.out.below hbW17)
      have Ox0_18 := hide (Ox0_17.out.below hbW17)
      have Og0_18 := hide (Og0_17.out.below hbW17)
      have Oc2_18 := hide (Oc2_17.out.below hbW17)
      have Oh0_18 := hide (Oh0_17.out.below hbW17)
      have Xh0_18 := hide (show BoxF W17 25 w16.heap.size (.int .i64 (outS s bs)) (.slice Ah0 nh0 ch0) (.bool (outN s sh bs)) from by rw [← hW17]; exact heap_alloc_new _ _)
      clear hW17 hbW17
      refine (eqField_same (outS s bs) Ah0 Ar0 nh0 ch0 nr0 cr0 (outN s sh bs) (backL s sh bs) W17 Oh0_18.out.br Or0_18.out.br).mono ?_
      rintro e w18 ⟨rfl, hb⟩
      have hs19 := hb.size
      have B19 := hide (bseq B18.out hb)
      have Xa_19 := hide (Xa_18.out.below hb)
      have Xr0_19 := hide (Xr0_18.out.below hb)
      have Xx0_19 := hide (Xx0_18.out.below hb)
      have Xg0_19 := hide (Xg0_18.out.below hb)
      have Xh0_19 := hide (Xh0_18.out.below hb)
      have Oc1_19 := hide (Oc1_18.out.below hb)
      have Or0_19 := hide (Or0_18.out.below hb)
      have Ox0_19 := hide (Ox0_18.out.below hb)
      have Og0_19 := hide (Og0_18.out.below hb)
      have Oc2_19 := hide (Oc2_18.out.below hb)
      have Oh0_19 := hide (Oh0_18.out.below hb)
      clear hb
      obtain ⟨xg00, xg01, xg02⟩ := Xg0_19.out.cells
      have xlg0 := Xg0_19.out.lt
      go_wp2_with fail
      clear xg00 xg01 xg02 xlg0
      refine (heldField_any (outS s bs) Ag0 ng0 cg0 (outN s sh bs) w18 Og0_19.out.br hg1).mono ?_
      rintro e w19 ⟨rfl, hb⟩
      have hs20 := hb.size
      have B20 := hide (bseq B19.out hb)
      have Xa_20 := hide (Xa_19.out.below hb)
      have Xr0_20 := hide (Xr0_19.out.below hb)
      have Xx0_20 := hide (Xx0_19.out.below hb)
      have Xg0_20 := hide (Xg0_19.out.below hb)
      have Xh0_20 := hide (Xh0_19.out.below hb)
      have Oc1_20 := hide (Oc1_19.out.below hb)
      have Or0_20 := hide (Or0_19.out.below hb)
      have Ox0_20 := hide (Ox0_19.out.below hb)
      have Og0_20 := hide (Og0_19.out.below hb)
      have Oc2_20 := hide (Oc2_19.out.below hb)
      have Oh0_20 := hide (Oh0_19.out.below hb)
      clear hb
      go_wp2_with fail
      go_ret
      exact ⟨rfl, B20.out⟩
  · have HI := Lib.hid (if_neg hbig : (if n ≤ 1048576 then 1048576 - (n : Int) else -1) = _)
    go_enter Try.func4, Try.ntmps4
    have B0 := hide (Below.refl w.heap.size w)
    go_wp2_with fail
    refine calls_named fun W1 hW1 => ?_
    have hbW1 : Below w.heap.size w W1 := by rw [← hW1]; exact (Below.refl _ _).alloc (Nat.le_refl _) _
    have hs1 := hbW1.size
    have B1 := hide (bseq B0.out hbW1)
    have Xa_1 := hide (show BoxF W1 32 w.heap.size (.int .i64 s) (.slice A n c) (.bool sh) from by rw [← hW1]; exact heap_alloc_new _ _)
    clear hW1 hbW1
    refine (szField_any s A n c sh W1 hmax).mono ?_
    rintro e w2 ⟨rfl, hb⟩
    rw [HI.out]
    have hs2 := hb.size
    have B2 := hide (bseq B1.out hb)
    have Xa_2 := hide (Xa_1.out.below hb)
    clear hb
    go_wp2_with fail
    go_ret
    exact ⟨rfl, B2.out⟩
end Go.Proofs.Ytmakpjcjccgalaa
