/-
  The draw of a circuit of which all gates are valid.
  No condition.
-/
import Derived.Test.YteedkpfpljecaaaDrawCirc
import Derived.Test.YteedkpfpljecaaaDrawGateV
namespace Go.Proofs.Yteedkpfpljecaaa
open Go.RowKit Go.Sort base
/- some circuit, all of its gates valid -/
def DrawnCV (w : World) (R P most : Nat) (l : Int) (e : Ending) (w' : World) : Prop := ∃ v gs, e = .returned v ∧ OwnG w' w.heap.size v gs ∧ gs.length ≤ most ∧ gs.all (gateOk l) = true ∧ RG w R P w'
/-- .. and a box of a valid gate -/
structure CBv (w : World) (R P g : Nat) (v : Value) (gs : List G4) (l : Int) (wx : World) : Prop where
  t : CBt w R P g v gs wx
  v : ∃ k a b c : Int, gateQ l k a b c = true ∧ Box4 wx g k a b c
theorem CBv.pick {w wx wy : World} {R P Q g : Nat} {v : Value} {gs : List G4} {l : Int} (h : CBv w R P g v gs l wx) (hr : RdB wy R Q) (hg : wx.grownBy wy (some R)) : CBv w R Q g v gs l wy := by
  have := h.t.lo; have := h.t.s.r.lo
  obtain ⟨k, a, b, c, h1, h2⟩ := h.v
  exact ⟨h.t.pick hr hg, k, a, b, c, h1, h2.grownBy hg (by simp; omega)⟩
theorem CBv.put {w wx : World} {R P g : Nat} {v : Value} {gs : List G4} {l : Int} (h : CBv w R P g v gs l wx) (k a b c : Int) (hq : gateQ l k a b c = true) : CBv w R P g v gs l ((((wx.setCell ⟨g, 0, none⟩ (.int .i64 k)).setCell ⟨g, 1, none⟩ (.int .i64 a)).setCell ⟨g, 2, none⟩ (.int .i64 b)).setCell ⟨g, 3, none⟩ (.int .i64 c)) := by
  obtain ⟨k0, a0, b0, c0, h1, h2⟩ := h.v
  exact ⟨h.t.put k a b c, k, a, b, c, hq, box4_put h2 k a b c⟩
theorem CBv.new {w wx : World} {R P : Nat} {v : Value} {gs : List G4} {l : Int} (h : CSt w R P v gs wx) (k a b c : Int) (hq : gateQ l k a b c = true) : CBv w R P wx.heap.size v gs l (wx.alloc (.cells #[.int .i64 k, .int .i64 a, .int .i64 b, .int .i64 c] 65)) :=
  ⟨CBt.new h k a b c, k, a, b, c, hq, Box4.made wx k a b c _⟩
set_option maxRecDepth 100000 in
set_option maxHeartbeats 8000000 in
theorem l20Circuit_v (R p most : Nat) (l : Int) (w : World) (h : RdB w R p) (hp : p ≤ 80000) (hl : 1 ≤ l ∧ l ≤ 8) (hm : most ≤ 16) :
    Calls Try.prog 43 #[.pointer (some ⟨R, 0, none⟩), .int .i64 l, .int .i64 most, .int .i64 0] w (DrawnCV w R (p + 400) most l) := by
  have S0 : Hid (CSt w R p (.slice (some ⟨w.heap.size, 0, none⟩) 0 0) [] (w.alloc (.cells #[] 65))) := ⟨(RG.start h).alloc _, OwnG.nil0 w _ (Nat.le_refl _)⟩
  obtain ⟨hl0, hl1⟩ := hl
  clear h
  go_enter Try.func43, Try.ntmps43
  go_wp2_with fail
  refine (pick_b R p _ _ S0.out.r.rd (by omega) (by omega)).mono ?_
  rintro e w1 ⟨r, rfl, a1, b1, _, hr, hg⟩
  have c1 := b1 (by omega)
  obtain ⟨K, rfl⟩ := Int.eq_ofNat_of_zero_le a1
  have hK : K ≤ 16 := by omega
  have hKm : K ≤ most := by omega
  have S1 := hide (S0.out.pick hr hg)
  clear hr hg b1 a1 c1 S0
  go_wp2_with fail
  go_loopw [9, 10] (fun ov iv wr => ∃ (j : Nat) (gs : List G4) (v : Value), j ≤ K ∧ iv = .int .i64 j ∧ ov = v ∧ Hid (gs.length = K - j) ∧ Hid (CSt w R (p + 1 + 22 * (K - j)) v gs wr) ∧ Hid (gs.all (gateOk l) = true)) (fun _ iv _ => (intOf iv).toNat)
  case atStart => exact ⟨K, [], _, Nat.le_refl _, rfl, rfl, hide (by simp), hide (S1.out.mono (by omega)), hide rfl⟩
  case round =>
    obtain ⟨j, gs, v, hj, rfl, rfl, HL, HS, HA⟩ := hrel
    by_cases hlt : 0 < j
    · go_wp2_with fail
      refine (l20Gate_v R (p + 1 + 22 * (K - j)) _ _ HS.out.r.rd (by omega) ⟨by omega, by omega⟩).mono ?_
      rintro e w2 ⟨k, a, b, c, rfl, hq, hr, hg⟩
      have hlm : min (max l 1) 8 = l := by omega
      rw [hlm] at hq
      clear hlm
      have S2 := hide (HS.out.pick hr hg)
      have T2 := hide (CBv.new S2.out k a b c hq)
      clear hr hg hq HS S2
      obtain ⟨nn, hnn⟩ : ∃ nn, gs.length = nn := ⟨_, rfl⟩
      have hn16 : nn ≤ 16 := by have := HL.out; omega
      have HL2 := hide (show nn = K - j by rw [← hnn]; exact HL.out)
      obtain ⟨A, cp, hv, _⟩ := T2.out.t.s.own.gr
      rw [hnn] at hv
      subst hv
      have HN := Lib.hid hnn
      clear hnn HL
      by_cases h0 : nn = 0
      · subst h0

        go_upto_region 8 with fail
        refine wp_named fun wz hwz => ?_
        rw [hwz] at T2
        clear hwz
        obtain ⟨k_, a_, b_, c_, hq9, y0, y1, y2, y3⟩ := T2.out.v
        have HA9 := hide (show (gs ++ [(k_, a_, b_, c_)]).all (gateOk l) = true by rw [List.all_append, HA.out]; simp only [List.all_cons, List.all_nil, gateOk, Bool.and_true, Bool.true_and]; exact hq9)
        clear hq9
        go_wp2_with (at_builtin; refine wpList_appendG1 (x0 := k_) (x1 := a_) (x2 := b_) (x3 := c_) T2.out.t.s.own (.tmp 41) (.tmp 43) rfl rfl rfl rfl (by have := HN.out; omega) T2.out.t.s.r.size ?_; intro v9 w9 ho9 hg9; have S9 := hide (T2.out.t.s.app ho9 hg9); clear ho9 hg9)
        go_roundw
        case rel => exact ⟨j - 1, _, v9, by omega, by go_num, rfl, hide (by have := HL2.out; have := HN.out; rw [List.length_append]; simp only [List.length_cons, List.length_nil]; omega), hide (S9.out.mono (by omega)), HA9⟩
        case measure => simp [intOf]; omega
      · have h00 : (0 : Int) < (nn : Int) := by omega
        clear h0
        go_wp2_with fail
        refine (pick_b R _ 4 _ T2.out.t.s.r.rd (by omega) (by omega)).mono ?_
        rintro e w3 ⟨r3, rfl, a3, b3, _, hr, hg⟩
        have c3 := b3 (by omega)
        have T3 := hide (T2.out.pick hr hg)
        clear hr hg b3 T2
        by_cases hr3 : r3 = 0
        · subst hr3
          clear a3 c3
          go_wp2_with fail
          refine (pick_b R _ (nn : Int) _ T3.out.t.s.r.rd (by omega) (by omega)).mono ?_
          rintro e w4 ⟨r4, rfl, a4, b4, _, hr, hg⟩
          have c4 := b4 (by omega)
          obtain ⟨t, rfl⟩ := Int.eq_ofNat_of_zero_le a4
          have T4 := hide (T3.out.pick hr hg)
          clear hr hg b4 T3
          obtain ⟨b5, o5, hA, hb5, hcc⟩ : ∃ b o, A = some ⟨b, o, none⟩ ∧ b < w4.heap.size ∧ ∀ i, i < nn → GAt w4 b (o + i * 4) (gth gs i) := by
            obtain ⟨A', c', hv', hgr⟩ := T4.out.t.s.own.gr
            simp only [Value.slice.injEq] at hv'
            rw [← hv'.1, HN.out] at hgr
            exact hgr.at_ (by omega)
          subst hA
          obtain ⟨g0, g1, g2, g3⟩ := hcc t (by omega)
          obtain ⟨⟨k0, a0_, b0, c0, z0, z1, z2, z3⟩, fz⟩ := T4.out.t.b
          have T5 := hide (T4.out.put (gth gs t).1 (gth gs t).2.1 (gth gs t).2.2.1 (gth gs t).2.2.2 (by have := HA.out; rw [List.all_eq_true] at this; exact this _ (gth_mem (by rw [HN.out]; omega))))
          unfold Free at fz
          clear hcc a4
          go_upto_region 8 with fail
          refine wp_named fun wz hwz => ?_
          rw [hwz] at T5
          clear hwz
          obtain ⟨k_, a_, b_, c_, hq9, y0, y1, y2, y3⟩ := T5.out.v
          have HA9 := hide (show (gs ++ [(k_, a_, b_, c_)]).all (gateOk l) = true by rw [List.all_append, HA.out]; simp only [List.all_cons, List.all_nil, gateOk, Bool.and_true, Bool.true_and]; exact hq9)
          clear hq9
          go_wp2_with (at_builtin; refine wpList_appendG1 (x0 := k_) (x1 := a_) (x2 := b_) (x3 := c_) T5.out.t.s.own (.tmp 41) (.tmp 43) rfl rfl rfl rfl (by have := HN.out; omega) T5.out.t.s.r.size ?_; intro v9 w9 ho9 hg9; have S9 := hide (T5.out.t.s.app ho9 hg9); clear ho9 hg9)
          go_roundw
          case rel => exact ⟨j - 1, _, v9, by omega, by go_num, rfl, hide (by have := HL2.out; have := HN.out; rw [List.length_append]; simp only [List.length_cons, List.length_nil]; omega), hide (S9.out.mono (by omega)), HA9⟩
          case measure => simp [intOf]; omega
        · have e3 : (r3 == 0) = false := by simpa using hr3
          clear hr3
          go_upto_region 8 with fail
          refine wp_named fun wz hwz => ?_
          rw [hwz] at T3
          clear hwz
          obtain ⟨k_, a_, b_, c_, hq9, y0, y1, y2, y3⟩ := T3.out.v
          have HA9 := hide (show (gs ++ [(k_, a_, b_, c_)]).all (gateOk l) = true by rw [List.all_append, HA.out]; simp only [List.all_cons, List.all_nil, gateOk, Bool.and_true, Bool.true_and]; exact hq9)
          clear hq9
          go_wp2_with (at_builtin; refine wpList_appendG1 (x0 := k_) (x1 := a_) (x2 := b_) (x3 := c_) T3.out.t.s.own (.tmp 41) (.tmp 43) rfl rfl rfl rfl (by have := HN.out; omega) T3.out.t.s.r.size ?_; intro v9 w9 ho9 hg9; have S9 := hide (T3.out.t.s.app ho9 hg9); clear ho9 hg9)
          go_roundw
          case rel => exact ⟨j - 1, _, v9, by omega, by go_num, rfl, hide (by have := HL2.out; have := HN.out; rw [List.length_append]; simp only [List.length_cons, List.length_nil]; omega), hide (S9.out.mono (by omega)), HA9⟩
          case measure => simp [intOf]; omega
    · obtain rfl : j = 0 := by omega
      have hn2 : (gs.length : Int) = K := by have := HL.out; omega
      go_wp2_with fail
      refine (odd_zero _ _).mono ?_
      rintro e w' ⟨rfl, rfl⟩
      go_wp2_with fail
      go_ret
      exact ⟨_, gs, rfl, HS.out.own, by have := HL.out; omega, HA.out, HS.out.r.mono (by omega)⟩
end Go.Proofs.Yteedkpfpljecaaa
