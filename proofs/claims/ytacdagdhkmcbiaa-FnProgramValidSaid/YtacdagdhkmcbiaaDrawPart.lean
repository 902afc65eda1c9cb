/-
  The draws of a program's parts: some statements, in a row of their own.
  No condition.
-/
import Derived.Test.YtacdagdhkmcbiaaDrawPlain
import Derived.Test.YtacdagdhkmcbiaaRGb
import Derived.Test.YtacdagdhkmcbiaaLineS
namespace Go.Proofs.Ytacdagdhkmcbiaa
open Go.RowKit Go.Sort base
theorem OwnG.base_le {w : World} {base base' : Nat} {v : Value} {gs : List G4} (h : OwnG w base v gs) (hb : base' ≤ base) : OwnG w base' v gs := by
  refine ⟨h.1, ?_⟩
  rcases h.2 with h | ⟨g, cap, cur, hv, hg, r⟩
  · exact .inl h
  · exact .inr ⟨g, cap, cur, hv, by omega, r⟩
theorem one_line (w : World) (k a b c : Int) : GR (w.alloc (.cells #[.int .i64 k, .int .i64 a, .int .i64 b, .int .i64 c] 32)) (some ⟨w.heap.size, 0, none⟩) 1 [(k, a, b, c)] :=
  ⟨rfl, by decide, fun _ => ⟨w.heap.size, 0, rfl, by simp, fun i hi => by
    obtain rfl : i = 0 := by omega
    exact ⟨cell_at rfl rfl, cell_at rfl rfl, cell_at rfl rfl, cell_at rfl rfl⟩⟩⟩
theorem two_lines (w : World) (k a b c k' a' b' c' : Int) : GR (w.alloc (.cells #[.int .i64 k, .int .i64 a, .int .i64 b, .int .i64 c, .int .i64 k', .int .i64 a', .int .i64 b', .int .i64 c'] 32)) (some ⟨w.heap.size, 0, none⟩) 2 [(k, a, b, c), (k', a', b', c')] :=
  ⟨rfl, by decide, fun _ => ⟨w.heap.size, 0, rfl, by simp, fun i hi => by
    rcases (show i = 0 ∨ i = 1 by omega) with rfl | rfl
    · exact ⟨cell_at rfl rfl, cell_at rfl rfl, cell_at rfl rfl, cell_at rfl rfl⟩
    · exact ⟨cell_at rfl rfl, cell_at rfl rfl, cell_at rfl rfl, cell_at rfl rfl⟩⟩⟩
/-- statements under draw: at most m of them, the reader at most at P -/
structure PD (w : World) (R P m : Nat) (v : Value) (wx : World) : Prop where
  r : RG w R P wx
  own : ∃ gs, gs.length ≤ m ∧ OwnG wx w.heap.size v gs
theorem PD.start {w : World} {R P : Nat} (h : RdB w R P) : PD w R P 0 (.slice (some ⟨w.heap.size, 0, none⟩) 0 0) (w.alloc (.cells #[] 32)) :=
  ⟨(RG.start h).alloc _, [], Nat.le_refl _, OwnG.nil0 w _ (Nat.le_refl _)⟩
theorem PD.pick {w wx wy : World} {R P Q m : Nat} {v : Value} (h : PD w R P m v wx) (hr : RdB wy R Q) (hg : wx.grownBy wy (some R)) : PD w R Q m v wy := by
  obtain ⟨gs, hl, ho⟩ := h.own
  exact ⟨h.r.pick hr hg, gs, hl, ho.kept hg (ho.ne h.r.lo)⟩
theorem PD.mono {w wx : World} {R P Q m k : Nat} {v : Value} (h : PD w R P m v wx) (hq : P ≤ Q) (hk : m ≤ k) : PD w R Q k v wx := by
  obtain ⟨gs, hl, ho⟩ := h.own
  exact ⟨h.r.mono hq, gs, by omega, ho⟩
/-- .. and some more behind them -/
theorem PD.app {w wx w6 : World} {R P m k j : Nat} {v v6 : Value} {gs ns : List G4} (h : RG w R P wx) (hl : gs.length ≤ m) (ho : OwnG wx w.heap.size v gs) (hn : ns.length ≤ k) (h6 : OwnG w6 w.heap.size v6 (gs ++ ns)) (hg : wx.grownBy w6 v.ownBlock) (hj : m + k ≤ j) : PD w R P j v6 w6 :=
  ⟨h.step hg (fun x hx => (ho.lt x hx).1), gs ++ ns, by simp; omega, h6⟩
def DrawnP (w : World) (R P m : Nat) (e : Ending) (w' : World) : Prop := ∃ v, e = .returned v ∧ PD w R P m v w'
def placesOf : Nat → Nat
  | 0 => 7
  | d + 1 => 9 + 4 * placesOf d
def linesOf : Nat → Nat
  | 0 => 2
  | d + 1 => 8 + 4 * linesOf d
def PartC (d : Nat) : Prop := ∀ (R p : Nat) (w : World), RdB w R p → p ≤ 60000 - 1000 * d → Calls Try.prog 27 #[.pointer (some ⟨R, 0, none⟩), .int .i64 d] w (DrawnP w R (p + placesOf d) (linesOf d))
set_option maxHeartbeats 8000000 in
theorem part0_b : PartC 0 := by
  intro R p w h hp
  have S0 := hide (PD.start h)
  clear h
  show Calls Try.prog 27 #[.pointer (some ⟨R, 0, none⟩), .int .i64 0] w _
  go_enter Try.func27, Try.ntmps27
  go_wp2_with fail
  refine (pick_b R p 2 _ S0.out.r.rd (by omega) (by omega)).mono ?_
  rintro e w1 ⟨r, rfl, a1, b1, _, hr, hg⟩
  have c1 := b1 (by omega)
  have S1 := hide (S0.out.pick hr hg)
  clear hr hg b1 S0
  obtain ⟨K, rfl⟩ := Int.eq_ofNat_of_zero_le a1
  have hK : K ≤ 1 := by omega
  clear a1 c1
  go_wp2_with fail
  go_loopw [5, 6] (fun ov kv wr => ∃ (V : Value) (j q : Nat), V = ov ∧ kv = .int .i64 (q : Nat) ∧ j + q = K + 1 ∧ Hid (PD w R (p + 1 + 3 * j) (1 * j) V wr)) (fun _ kv _ => (intOf kv).toNat)
  case atStart => exact ⟨_, 0, K + 1, rfl, by go_num, by omega, S1⟩
  case round =>
    clear S1
    obtain ⟨V, j, q, rfl, rfl, hjq, HS⟩ := hrel
    by_cases hq0 : 0 < q
    · go_wp2_with fail
      refine (l20Plain_b R _ _ HS.out.r.rd (by omega)).mono ?_
      rintro e w5 ⟨k0, a0, b0, c0, rfl, _, hr, hg⟩
      have S5 := hide (HS.out.pick hr hg)
      clear hr hg HS
      obtain ⟨gs6, hl6, ho6⟩ := S5.out.own
      have HO6 := hide (ho6.alloc (.cells #[.int .i64 k0, .int .i64 a0, .int .i64 b0, .int .i64 c0] 32))
      have HF6 := hide (one_line w5 k0 a0 b0 c0)
      have hz6 : w.heap.size ≤ w5.heap.size := S5.out.r.gr.size
      clear ho6
      go_wp2_with (at_builtin; refine wpList_append_gates HO6.out HF6.out (.tmp 15) (.tmp 18) rfl rfl rfl rfl (by simp; omega) (by simp; omega) ?_; intro v6 w6 ho6 hg6; have S6 := hide (PD.app (k := 1) (ns := [(k0, a0, b0, c0)]) (j := 1 * j + 1) (S5.out.r.alloc (.cells #[.int .i64 k0, .int .i64 a0, .int .i64 b0, .int .i64 c0] 32)) hl6 HO6.out (Nat.le_refl 1) ho6 hg6 (by omega)); clear ho6 hg6)
      clear HO6 HF6 hl6 S5
      go_roundw
      case rel => exact ⟨v6, j + 1, q - 1, rfl, by go_num, by omega, hide (S6.out.mono (by omega) (by omega))⟩
      case measure => simp [intOf]; omega
    · obtain rfl : q = 0 := by omega
      go_wp2_with fail
      go_ret
      exact ⟨_, rfl, HS.out.mono (by simp only [placesOf]; omega) (by simp only [linesOf]; omega)⟩
set_option maxHeartbeats 8000000 in
theorem part1_b (ih : PartC 0) : PartC 1 := by
  intro R p w h hp
  have S0 := hide (PD.start h)
  clear h
  have IH := hide ih
  clear ih
  show Calls Try.prog 27 #[.pointer (some ⟨R, 0, none⟩), .int .i64 1] w _
  go_enter Try.func27, Try.ntmps27
  go_wp2_with fail
  refine (pick_b R p 2 _ S0.out.r.rd (by omega) (by omega)).mono ?_
  rintro e w1 ⟨r, rfl, a1, b1, _, hr, hg⟩
  have c1 := b1 (by omega)
  have S1 := hide (S0.out.pick hr hg)
  clear hr hg b1 S0
  obtain ⟨K, rfl⟩ := Int.eq_ofNat_of_zero_le a1
  have hK : K ≤ 1 := by omega
  clear a1 c1
  go_wp2_with fail
  go_loopw [5, 6] (fun ov kv wr => ∃ (V : Value) (j q : Nat), V = ov ∧ kv = .int .i64 (q : Nat) ∧ j + q = K + 1 ∧ Hid (PD w R (p + 1 + 18 * j) (8 * j) V wr)) (fun _ kv _ => (intOf kv).toNat)
  case atStart => exact ⟨_, 0, K + 1, rfl, by go_num, by omega, S1⟩
  case round =>
    clear S1
    obtain ⟨V, j, q, rfl, rfl, hjq, HS⟩ := hrel
    by_cases hq0 : 0 < q
    · go_wp2_with fail
      refine (pick_b R _ 3 _ HS.out.r.rd (by omega) (by omega)).mono ?_
      rintro e w2 ⟨r2, rfl, a2, b2, _, hr, hg⟩
      have c2 := b2 (by omega)
      have S2 := hide (HS.out.pick hr hg)
      clear hr hg b2 HS
      by_cases h2 : r2 = 0
      · subst h2
        go_wp2_with fail
        refine (pick_b R _ 4 _ S2.out.r.rd (by omega) (by omega)).mono ?_
        rintro e w3 ⟨r3, rfl, a3, b3, _, hr, hg⟩
        have c3 := b3 (by omega)
        have S3 := hide (S2.out.pick hr hg)
        clear hr hg b3 S2
        obtain ⟨gs4, hl4, ho4⟩ := S3.out.own
        have HO4 := hide (ho4.alloc (.cells #[.int .i64 4, .int .i64 0, .int .i64 0, .int .i64 r3] 32))
        have HF4 := hide (one_line w3 4 0 0 r3)
        have hz4 : w.heap.size ≤ w3.heap.size := S3.out.r.gr.size
        clear ho4
        go_wp2_with (at_builtin; refine wpList_append_gates HO4.out HF4.out (.tmp 28) (.tmp 32) rfl rfl rfl rfl (by simp; omega) (by simp; omega) ?_; intro v4 w4 ho6 hg6; have S4 := hide (PD.app (k := 1) (ns := [(4, 0, 0, r3)]) (j := 8 * j + 1) (S3.out.r.alloc (.cells #[.int .i64 4, .int .i64 0, .int .i64 0, .int .i64 r3] 32)) hl4 HO4.out (Nat.le_refl 1) ho6 hg6 (by omega)); clear ho6 hg6)
        clear HO4 HF4 hl4 S3
        refine (IH.out R _ _ S4.out.r.rd (by omega)).mono ?_
        rintro e wp5 ⟨vp5, rfl, hP5⟩
        have SP5 := hide (S4.out.pick hP5.r.rd hP5.r.gr)
        obtain ⟨gp5, hlp5, hop5⟩ := hP5.own
        obtain ⟨Ap5, cp5, rfl, hgr5⟩ := hop5.gr
        simp only [linesOf, Nat.reduceMul, Nat.reduceAdd] at hlp5
        simp only [placesOf, Nat.reduceMul, Nat.reduceAdd] at SP5
        have HF5 := hide hgr5
        obtain ⟨gs5, hl5, ho5⟩ := SP5.out.own
        have HO5 := hide ho5
        have hz5 : w.heap.size ≤ wp5.heap.size := SP5.out.r.gr.size
        clear hP5 hop5 hgr5 ho5 S4
        go_upto_region 9 with (at_builtin; refine wpList_append_gates HO5.out HF5.out (.tmp 34) (.tmp 38) rfl rfl rfl rfl (by omega) hz5 ?_; intro v5 w5 ho6 hg6; have S5 := hide (PD.app (k := 2) (j := 8 * j + 3) SP5.out.r hl5 HO5.out hlp5 ho6 hg6 (by omega)); clear ho6 hg6)
        clear HO5 HF5 hl5 hlp5 SP5
        obtain ⟨gs6, hl6, ho6⟩ := S5.out.own
        have HO6 := hide (ho6.alloc (.cells #[.int .i64 5, .int .i64 0, .int .i64 0, .int .i64 0] 32))
        have HF6 := hide (one_line w5 5 0 0 0)
        have hz6 : w.heap.size ≤ w5.heap.size := S5.out.r.gr.size
        clear ho6
        go_wp2_with (at_builtin; refine wpList_append_gates HO6.out HF6.out (.tmp 40) (.tmp 42) rfl rfl rfl rfl (by simp; omega) (by simp; omega) ?_; intro v6 w6 ho6 hg6; have S6 := hide (PD.app (k := 1) (ns := [(5, 0, 0, 0)]) (j := 8 * j + 4) (S5.out.r.alloc (.cells #[.int .i64 5, .int .i64 0, .int .i64 0, .int .i64 0] 32)) hl6 HO6.out (Nat.le_refl 1) ho6 hg6 (by omega)); clear ho6 hg6)
        clear HO6 HF6 hl6 S5
        go_roundw
        case rel => exact ⟨v6, j + 1, q - 1, rfl, by go_num, by omega, hide (S6.out.mono (by omega) (by omega))⟩
        case measure => simp [intOf]; omega
      · have e2 : (r2 == 0) = false := by simpa using h2
        clear h2
        go_wp2_with fail
        refine (pick_b R _ 3 _ S2.out.r.rd (by omega) (by omega)).mono ?_
        rintro e w3 ⟨r3, rfl, a3, b3, _, hr, hg⟩
        have c3 := b3 (by omega)
        have S3 := hide (S2.out.pick hr hg)
        clear hr hg b3 S2
        by_cases h3 : r3 = 0
        · subst h3
          go_wp2_with fail
          refine (pick_b R _ 3 _ S3.out.r.rd (by omega) (by omega)).mono ?_
          rintro e w41 ⟨x1, rfl, a41, b41, _, hr, hg⟩
          have c41 := b41 (by omega)
          have S41 := hide (S3.out.pick hr hg)
          clear hr hg b41 S3
          go_wp2_with fail
          refine (pick_b R _ 3 _ S41.out.r.rd (by omega) (by omega)).mono ?_
          rintro e w42 ⟨x2, rfl, a42, b42, _, hr, hg⟩
          have c42 := b42 (by omega)
          have S42 := hide (S41.out.pick hr hg)
          clear hr hg b42 S41
          obtain ⟨gs43, hl43, ho43⟩ := S42.out.own
          have HO43 := hide (ho43.alloc (.cells #[.int .i64 6, .int .i64 x1, .int .i64 0, .int .i64 x2] 32))
          have HF43 := hide (one_line w42 6 x1 0 x2)
          have hz43 : w.heap.size ≤ w42.heap.size := S42.out.r.gr.size
          clear ho43
          go_wp2_with (at_builtin; refine wpList_append_gates HO43.out HF43.out (.tmp 52) (.tmp 58) rfl rfl rfl rfl (by simp; omega) (by simp; omega) ?_; intro v43 w43 ho6 hg6; have S43 := hide (PD.app (k := 1) (ns := [(6, x1, 0, x2)]) (j := 8 * j + 1) (S42.out.r.alloc (.cells #[.int .i64 6, .int .i64 x1, .int .i64 0, .int .i64 x2] 32)) hl43 HO43.out (Nat.le_refl 1) ho6 hg6 (by omega)); clear ho6 hg6)
          clear HO43 HF43 hl43 S42
          refine (IH.out R _ _ S43.out.r.rd (by omega)).mono ?_
          rintro e wp44 ⟨vp44, rfl, hP44⟩
          have SP44 := hide (S43.out.pick hP44.r.rd hP44.r.gr)
          obtain ⟨gp44, hlp44, hop44⟩ := hP44.own
          obtain ⟨Ap44, cp44, rfl, hgr44⟩ := hop44.gr
          simp only [linesOf, Nat.reduceMul, Nat.reduceAdd] at hlp44
          simp only [placesOf, Nat.reduceMul, Nat.reduceAdd] at SP44
          have HF44 := hide hgr44
          obtain ⟨gs44, hl44, ho44⟩ := SP44.out.own
          have HO44 := hide ho44
          have hz44 : w.heap.size ≤ wp44.heap.size := SP44.out.r.gr.size
          clear hP44 hop44 hgr44 ho44 S43
          go_upto_region 13 with (at_builtin; refine wpList_append_gates HO44.out HF44.out (.tmp 60) (.tmp 64) rfl rfl rfl rfl (by omega) hz44 ?_; intro v44 w44 ho6 hg6; have S44 := hide (PD.app (k := 2) (j := 8 * j + 3) SP44.out.r hl44 HO44.out hlp44 ho6 hg6 (by omega)); clear ho6 hg6)
          clear HO44 HF44 hl44 hlp44 SP44
          obtain ⟨gs45, hl45, ho45⟩ := S44.out.own
          have HO45 := hide (ho45.alloc (.cells #[.int .i64 7, .int .i64 0, .int .i64 0, .int .i64 0] 32))
          have HF45 := hide (one_line w44 7 0 0 0)
          have hz45 : w.heap.size ≤ w44.heap.size := S44.out.r.gr.size
          clear ho45
          go_wp2_with (at_builtin; refine wpList_append_gates HO45.out HF45.out (.tmp 66) (.tmp 68) rfl rfl rfl rfl (by simp; omega) (by simp; omega) ?_; intro v45 w45 ho6 hg6; have S45 := hide (PD.app (k := 1) (ns := [(7, 0, 0, 0)]) (j := 8 * j + 4) (S44.out.r.alloc (.cells #[.int .i64 7, .int .i64 0, .int .i64 0, .int .i64 0] 32)) hl45 HO45.out (Nat.le_refl 1) ho6 hg6 (by omega)); clear ho6 hg6)
          clear HO45 HF45 hl45 S44
          refine (IH.out R _ _ S45.out.r.rd (by omega)).mono ?_
          rintro e wp46 ⟨vp46, rfl, hP46⟩
          have SP46 := hide (S45.out.pick hP46.r.rd hP46.r.gr)
          obtain ⟨gp46, hlp46, hop46⟩ := hP46.own
          obtain ⟨Ap46, cp46, rfl, hgr46⟩ := hop46.gr
          simp only [linesOf, Nat.reduceMul, Nat.reduceAdd] at hlp46
          simp only [placesOf, Nat.reduceMul, Nat.reduceAdd] at SP46
          have HF46 := hide hgr46
          obtain ⟨gs46, hl46, ho46⟩ := SP46.out.own
          have HO46 := hide ho46
          have hz46 : w.heap.size ≤ wp46.heap.size := SP46.out.r.gr.size
          clear hP46 hop46 hgr46 ho46 S45
          go_upto_region 15 with (at_builtin; refine wpList_append_gates HO46.out HF46.out (.tmp 70) (.tmp 74) rfl rfl rfl rfl (by omega) hz46 ?_; intro v46 w46 ho6 hg6; have S46 := hide (PD.app (k := 2) (j := 8 * j + 6) SP46.out.r hl46 HO46.out hlp46 ho6 hg6 (by omega)); clear ho6 hg6)
          clear HO46 HF46 hl46 hlp46 SP46
          obtain ⟨gs47, hl47, ho47⟩ := S46.out.own
          have HO47 := hide (ho47.alloc (.cells #[.int .i64 2, .int .i64 3, .int .i64 0, .int .i64 1, .int .i64 8, .int .i64 3, .int .i64 0, .int .i64 1] 32))
          have HF47 := hide (two_lines w46 2 3 0 1 8 3 0 1)
          have hz47 : w.heap.size ≤ w46.heap.size := S46.out.r.gr.size
          clear ho47
          go_wp2_with (at_builtin; refine wpList_append_gates HO47.out HF47.out (.tmp 76) (.tmp 79) rfl rfl rfl rfl (by simp; omega) (by simp; omega) ?_; intro v47 w47 ho6 hg6; have S47 := hide (PD.app (k := 2) (ns := [(2, 3, 0, 1), (8, 3, 0, 1)]) (j := 8 * j + 8) (S46.out.r.alloc (.cells #[.int .i64 2, .int .i64 3, .int .i64 0, .int .i64 1, .int .i64 8, .int .i64 3, .int .i64 0, .int .i64 1] 32)) hl47 HO47.out (Nat.le_refl 2) ho6 hg6 (by omega)); clear ho6 hg6)
          clear HO47 HF47 hl47 S46
          go_roundw
          case rel => exact ⟨v47, j + 1, q - 1, rfl, by go_num, by omega, hide (S47.out.mono (by omega) (by omega))⟩
          case measure => simp [intOf]; omega
        · have e3 : (r3 == 0) = false := by simpa using h3
          clear h3
          go_wp2_with fail
          refine (l20Plain_b R _ _ S3.out.r.rd (by omega)).mono ?_
          rintro e w5 ⟨k0, a0, b0, c0, rfl, _, hr, hg⟩
          have S5 := hide (S3.out.pick hr hg)
          clear hr hg S3
          obtain ⟨gs6, hl6, ho6⟩ := S5.out.own
          have HO6 := hide (ho6.alloc (.cells #[.int .i64 k0, .int .i64 a0, .int .i64 b0, .int .i64 c0] 32))
          have HF6 := hide (one_line w5 k0 a0 b0 c0)
          have hz6 : w.heap.size ≤ w5.heap.size := S5.out.r.gr.size
          clear ho6
          go_wp2_with (at_builtin; refine wpList_append_gates HO6.out HF6.out (.tmp 15) (.tmp 18) rfl rfl rfl rfl (by simp; omega) (by simp; omega) ?_; intro v6 w6 ho6 hg6; have S6 := hide (PD.app (k := 1) (ns := [(k0, a0, b0, c0)]) (j := 8 * j + 1) (S5.out.r.alloc (.cells #[.int .i64 k0, .int .i64 a0, .int .i64 b0, .int .i64 c0] 32)) hl6 HO6.out (Nat.le_refl 1) ho6 hg6 (by omega)); clear ho6 hg6)
          clear HO6 HF6 hl6 S5
          go_roundw
          case rel => exact ⟨v6, j + 1, q - 1, rfl, by go_num, by omega, hide (S6.out.mono (by omega) (by omega))⟩
          case measure => simp [intOf]; omega
    · obtain rfl : q = 0 := by omega
      go_wp2_with fail
      go_ret
      exact ⟨_, rfl, HS.out.mono (by simp only [placesOf]; omega) (by simp only [linesOf]; omega)⟩
set_option maxHeartbeats 8000000 in
theorem part2_b (ih : PartC 1) : PartC 2 := by
  intro R p w h hp
  have S0 := hide (PD.start h)
  clear h
  have IH := hide ih
  clear ih
  show Calls Try.prog 27 #[.pointer (some ⟨R, 0, none⟩), .int .i64 2] w _
  go_enter Try.func27, Try.ntmps27
  go_wp2_with fail
  refine (pick_b R p 2 _ S0.out.r.rd (by omega) (by omega)).mono ?_
  rintro e w1 ⟨r, rfl, a1, b1, _, hr, hg⟩
  have c1 := b1 (by omega)
  have S1 := hide (S0.out.pick hr hg)
  clear hr hg b1 S0
  obtain ⟨K, rfl⟩ := Int.eq_ofNat_of_zero_le a1
  have hK : K ≤ 1 := by omega
  clear a1 c1
  go_wp2_with fail
  go_loopw [5, 6] (fun ov kv wr => ∃ (V : Value) (j q : Nat), V = ov ∧ kv = .int .i64 (q : Nat) ∧ j + q = K + 1 ∧ Hid (PD w R (p + 1 + 78 * j) (36 * j) V wr)) (fun _ kv _ => (intOf kv).toNat)
  case atStart => exact ⟨_, 0, K + 1, rfl, by go_num, by omega, S1⟩
  case round =>
    clear S1
    obtain ⟨V, j, q, rfl, rfl, hjq, HS⟩ := hrel
    by_cases hq0 : 0 < q
    · go_wp2_with fail
      refine (pick_b R _ 3 _ HS.out.r.rd (by omega) (by omega)).mono ?_
      rintro e w2 ⟨r2, rfl, a2, b2, _, hr, hg⟩
      have c2 := b2 (by omega)
      have S2 := hide (HS.out.pick hr hg)
      clear hr hg b2 HS
      by_cases h2 : r2 = 0
      · subst h2
        go_wp2_with fail
        refine (pick_b R _ 4 _ S2.out.r.rd (by omega) (by omega)).mono ?_
        rintro e w3 ⟨r3, rfl, a3, b3, _, hr, hg⟩
        have c3 := b3 (by omega)
        have S3 := hide (S2.out.pick hr hg)
        clear hr hg b3 S2
        obtain ⟨gs4, hl4, ho4⟩ := S3.out.own
        have HO4 := hide (ho4.alloc (.cells #[.int .i64 4, .int .i64 0, .int .i64 0, .int .i64 r3] 32))
        have HF4 := hide (one_line w3 4 0 0 r3)
        have hz4 : w.heap.size ≤ w3.heap.size := S3.out.r.gr.size
        clear ho4
        go_wp2_with (at_builtin; refine wpList_append_gates HO4.out HF4.out (.tmp 28) (.tmp 32) rfl rfl rfl rfl (by simp; omega) (by simp; omega) ?_; intro v4 w4 ho6 hg6; have S4 := hide (PD.app (k := 1) (ns := [(4, 0, 0, r3)]) (j := 36 * j + 1) (S3.out.r.alloc (.cells #[.int .i64 4, .int .i64 0, .int .i64 0, .int .i64 r3] 32)) hl4 HO4.out (Nat.le_refl 1) ho6 hg6 (by omega)); clear ho6 hg6)
        clear HO4 HF4 hl4 S3
        refine (IH.out R _ _ S4.out.r.rd (by omega)).mono ?_
        rintro e wp5 ⟨vp5, rfl, hP5⟩
        have SP5 := hide (S4.out.pick hP5.r.rd hP5.r.gr)
        obtain ⟨gp5, hlp5, hop5⟩ := hP5.own
        obtain ⟨Ap5, cp5, rfl, hgr5⟩ := hop5.gr
        simp only [linesOf, Nat.reduceMul, Nat.reduceAdd] at hlp5
        simp only [placesOf, Nat.reduceMul, Nat.reduceAdd] at SP5
        have HF5 := hide hgr5
        obtain ⟨gs5, hl5, ho5⟩ := SP5.out.own
        have HO5 := hide ho5
        have hz5 : w.heap.size ≤ wp5.heap.size := SP5.out.r.gr.size
        clear hP5 hop5 hgr5 ho5 S4
        go_upto_region 9 with (at_builtin; refine wpList_append_gates HO5.out HF5.out (.tmp 34) (.tmp 38) rfl rfl rfl rfl (by omega) hz5 ?_; intro v5 w5 ho6 hg6; have S5 := hide (PD.app (k := 16) (j := 36 * j + 17) SP5.out.r hl5 HO5.out hlp5 ho6 hg6 (by omega)); clear ho6 hg6)
        clear HO5 HF5 hl5 hlp5 SP5
        obtain ⟨gs6, hl6, ho6⟩ := S5.out.own
        have HO6 := hide (ho6.alloc (.cells #[.int .i64 5, .int .i64 0, .int .i64 0, .int .i64 0] 32))
        have HF6 := hide (one_line w5 5 0 0 0)
        have hz6 : w.heap.size ≤ w5.heap.size := S5.out.r.gr.size
        clear ho6
        go_wp2_with (at_builtin; refine wpList_append_gates HO6.out HF6.out (.tmp 40) (.tmp 42) rfl rfl rfl rfl (by simp; omega) (by simp; omega) ?_; intro v6 w6 ho6 hg6; have S6 := hide (PD.app (k := 1) (ns := [(5, 0, 0, 0)]) (j := 36 * j + 18) (S5.out.r.alloc (.cells #[.int .i64 5, .int .i64 0, .int .i64 0, .int .i64 0] 32)) hl6 HO6.out (Nat.le_refl 1) ho6 hg6 (by omega)); clear ho6 hg6)
        clear HO6 HF6 hl6 S5
        go_roundw
        case rel => exact ⟨v6, j + 1, q - 1, rfl, by go_num, by omega, hide (S6.out.mono (by omega) (by omega))⟩
        case measure => simp [intOf]; omega
      · have e2 : (r2 == 0) = false := by simpa using h2
        clear h2
        go_wp2_with fail
        refine (pick_b R _ 3 _ S2.out.r.rd (by omega) (by omega)).mono ?_
        rintro e w3 ⟨r3, rfl, a3, b3, _, hr, hg⟩
        have c3 := b3 (by omega)
        have S3 := hide (S2.out.pick hr hg)
        clear hr hg b3 S2
        by_cases h3 : r3 = 0
        · subst h3
          go_wp2_with fail
          refine (pick_b R _ 3 _ S3.out.r.rd (by omega) (by omega)).mono ?_
          rintro e w41 ⟨x1, rfl, a41, b41, _, hr, hg⟩
          have c41 := b41 (by omega)
          have S41 := hide (S3.out.pick hr hg)
          clear hr hg b41 S3
          go_wp2_with fail
          refine (pick_b R _ 3 _ S41.out.r.rd (by omega) (by omega)).mono ?_
          rintro e w42 ⟨x2, rfl, a42, b42, _, hr, hg⟩
          have c42 := b42 (by omega)
          have S42 := hide (S41.out.pick hr hg)
          clear hr hg b42 S41
          obtain ⟨gs43, hl43, ho43⟩ := S42.out.own
          have HO43 := hide (ho43.alloc (.cells #[.int .i64 6, .int .i64 x1, .int .i64 0, .int .i64 x2] 32))
          have HF43 := hide (one_line w42 6 x1 0 x2)
          have hz43 : w.heap.size ≤ w42.heap.size := S42.out.r.gr.size
          clear ho43
          go_wp2_with (at_builtin; refine wpList_append_gates HO43.out HF43.out (.tmp 52) (.tmp 58) rfl rfl rfl rfl (by simp; omega) (by simp; omega) ?_; intro v43 w43 ho6 hg6; have S43 := hide (PD.app (k := 1) (ns := [(6, x1, 0, x2)]) (j := 36 * j + 1) (S42.out.r.alloc (.cells #[.int .i64 6, .int .i64 x1, .int .i64 0, .int .i64 x2] 32)) hl43 HO43.out (Nat.le_refl 1) ho6 hg6 (by omega)); clear ho6 hg6)
          clear HO43 HF43 hl43 S42
          refine (IH.out R _ _ S43.out.r.rd (by omega)).mono ?_
          rintro e wp44 ⟨vp44, rfl, hP44⟩
          have SP44 := hide (S43.out.pick hP44.r.rd hP44.r.gr)
          obtain ⟨gp44, hlp44, hop44⟩ := hP44.own
          obtain ⟨Ap44, cp44, rfl, hgr44⟩ := hop44.gr
          simp only [linesOf, Nat.reduceMul, Nat.reduceAdd] at hlp44
          simp only [placesOf, Nat.reduceMul, Nat.reduceAdd] at SP44
          have HF44 := hide hgr44
          obtain ⟨gs44, hl44, ho44⟩ := SP44.out.own
          have HO44 := hide ho44
          have hz44 : w.heap.size ≤ wp44.heap.size := SP44.out.r.gr.size
          clear hP44 hop44 hgr44 ho44 S43
          go_upto_region 13 with (at_builtin; refine wpList_append_gates HO44.out HF44.out (.tmp 60) (.tmp 64) rfl rfl rfl rfl (by omega) hz44 ?_; intro v44 w44 ho6 hg6; have S44 := hide (PD.app (k := 16) (j := 36 * j + 17) SP44.out.r hl44 HO44.out hlp44 ho6 hg6 (by omega)); clear ho6 hg6)
          clear HO44 HF44 hl44 hlp44 SP44
          obtain ⟨gs45, hl45, ho45⟩ := S44.out.own
          have HO45 := hide (ho45.alloc (.cells #[.int .i64 7, .int .i64 0, .int .i64 0, .int .i64 0] 32))
          have HF45 := hide (one_line w44 7 0 0 0)
          have hz45 : w.heap.size ≤ w44.heap.size := S44.out.r.gr.size
          clear ho45
          go_wp2_with (at_builtin; refine wpList_append_gates HO45.out HF45.out (.tmp 66) (.tmp 68) rfl rfl rfl rfl (by simp; omega) (by simp; omega) ?_; intro v45 w45 ho6 hg6; have S45 := hide (PD.app (k := 1) (ns := [(7, 0, 0, 0)]) (j := 36 * j + 18) (S44.out.r.alloc (.cells #[.int .i64 7, .int .i64 0, .int .i64 0, .int .i64 0] 32)) hl45 HO45.out (Nat.le_refl 1) ho6 hg6 (by omega)); clear ho6 hg6)
          clear HO45 HF45 hl45 S44
          refine (IH.out R _ _ S45.out.r.rd (by omega)).mono ?_
          rintro e wp46 ⟨vp46, rfl, hP46⟩
          have SP46 := hide (S45.out.pick hP46.r.rd hP46.r.gr)
          obtain ⟨gp46, hlp46, hop46⟩ := hP46.own
          obtain ⟨Ap46, cp46, rfl, hgr46⟩ := hop46.gr
          simp only [linesOf, Nat.reduceMul, Nat.reduceAdd] at hlp46
          simp only [placesOf, Nat.reduceMul, Nat.reduceAdd] at SP46
          have HF46 := hide hgr46
          obtain ⟨gs46, hl46, ho46⟩ := SP46.out.own
          have HO46 := hide ho46
          have hz46 : w.heap.size ≤ wp46.heap.size := SP46.out.r.gr.size
          clear hP46 hop46 hgr46 ho46 S45
          go_upto_region 15 with (at_builtin; refine wpList_append_gates HO46.out HF46.out (.tmp 70) (.tmp 74) rfl rfl rfl rfl (by omega) hz46 ?_; intro v46 w46 ho6 hg6; have S46 := hide (PD.app (k := 16) (j := 36 * j + 34) SP46.out.r hl46 HO46.out hlp46 ho6 hg6 (by omega)); clear ho6 hg6)
          clear HO46 HF46 hl46 hlp46 SP46
          obtain ⟨gs47, hl47, ho47⟩ := S46.out.own
          have HO47 := hide (ho47.alloc (.cells #[.int .i64 2, .int .i64 3, .int .i64 0, .int .i64 1, .int .i64 8, .int .i64 3, .int .i64 0, .int .i64 1] 32))
          have HF47 := hide (two_lines w46 2 3 0 1 8 3 0 1)
          have hz47 : w.heap.size ≤ w46.heap.size := S46.out.r.gr.size
          clear ho47
          go_wp2_with (at_builtin; refine wpList_append_gates HO47.out HF47.out (.tmp 76) (.tmp 79) rfl rfl rfl rfl (by simp; omega) (by simp; omega) ?_; intro v47 w47 ho6 hg6; have S47 := hide (PD.app (k := 2) (ns := [(2, 3, 0, 1), (8, 3, 0, 1)]) (j := 36 * j + 36) (S46.out.r.alloc (.cells #[.int .i64 2, .int .i64 3, .int .i64 0, .int .i64 1, .int .i64 8, .int .i64 3, .int .i64 0, .int .i64 1] 32)) hl47 HO47.out (Nat.le_refl 2) ho6 hg6 (by omega)); clear ho6 hg6)
          clear HO47 HF47 hl47 S46
          go_roundw
          case rel => exact ⟨v47, j + 1, q - 1, rfl, by go_num, by omega, hide (S47.out.mono (by omega) (by omega))⟩
          case measure => simp [intOf]; omega
        · have e3 : (r3 == 0) = false := by simpa using h3
          clear h3
          go_wp2_with fail
          refine (l20Plain_b R _ _ S3.out.r.rd (by omega)).mono ?_
          rintro e w5 ⟨k0, a0, b0, c0, rfl, _, hr, hg⟩
          have S5 := hide (S3.out.pick hr hg)
          clear hr hg S3
          obtain ⟨gs6, hl6, ho6⟩ := S5.out.own
          have HO6 := hide (ho6.alloc (.cells #[.int .i64 k0, .int .i64 a0, .int .i64 b0, .int .i64 c0] 32))
          have HF6 := hide (one_line w5 k0 a0 b0 c0)
          have hz6 : w.heap.size ≤ w5.heap.size := S5.out.r.gr.size
          clear ho6
          go_wp2_with (at_builtin; refine wpList_append_gates HO6.out HF6.out (.tmp 15) (.tmp 18) rfl rfl rfl rfl (by simp; omega) (by simp; omega) ?_; intro v6 w6 ho6 hg6; have S6 := hide (PD.app (k := 1) (ns := [(k0, a0, b0, c0)]) (j := 36 * j + 1) (S5.out.r.alloc (.cells #[.int .i64 k0, .int .i64 a0, .int .i64 b0, .int .i64 c0] 32)) hl6 HO6.out (Nat.le_refl 1) ho6 hg6 (by omega)); clear ho6 hg6)
          clear HO6 HF6 hl6 S5
          go_roundw
          case rel => exact ⟨v6, j + 1, q - 1, rfl, by go_num, by omega, hide (S6.out.mono (by omega) (by omega))⟩
          case measure => simp [intOf]; omega
    · obtain rfl : q = 0 := by omega
      go_wp2_with fail
      go_ret
      exact ⟨_, rfl, HS.out.mono (by simp only [placesOf]; omega) (by simp only [linesOf]; omega)⟩
end Go.Proofs.Ytacdagdhkmcbiaa
