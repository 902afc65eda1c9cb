/-
  The walk of the law FnBallsMany: it returns true at every input, and turns nothing that was there.
  No condition.
-/
import Derived.Test.YtmakpjcjccgalaaFieldSame
import Derived.Test.YtmakpjcjccgalaaDrawField
namespace Go.Proofs.Ytmakpjcjccgalaa
open Go.RowKit Go.Sort base

set_option maxRecDepth 100000 in
set_option maxHeartbeats 8000000 in
theorem walk_FnBallsMany (A : Option Addr) (n c : Nat) (zs : List Int) (w : World) (h : IRk .u8 w A n zs) (hz : ∀ z ∈ zs, (Lit.int .u8 z).wf = true) (hc : n ≤ c) :
    Calls Try.prog 3 #[.slice A n c] w fun e w' => e = .returned (.bool true) ∧ Below w.heap.size w w' := by
  have hmax := h.max
  have H := hide h
  have HZ := hide hz
  clear h hz
  by_cases hbig : 1048576 < n
  · go_enter Try.func3, Try.ntmps3
    go_wp2_with fail
    go_ret
    exact ⟨rfl, Below.refl _ _⟩
  have hl : n ≤ 1048576 := by omega
  go_enter Try.func3, Try.ntmps3
  have B0 := hide (Below.refl w.heap.size w)
  go_wp2_with fail
  refine (drawBallsMany_any A n c zs w H.out HZ.out hc).mono ?_
  rintro e w1 ⟨s, Af, nf, cf, sh, bs, rfl, hwf, hn100, hbr, hb⟩
  have hs1 := hb.size
  have B1 := hide (bseq B0.out hb)
  have Rf_1 := hide hbr
  have HW := Lib.hid hwf
  clear hb hbr hwf
  go_wp2_with fail
  refine calls_named fun W2 hW2 => ?_
  have hbW2 : Below w1.heap.size w1 W2 := by rw [← hW2]; exact (Below.refl _ _).alloc (Nat.le_refl _) _
  have hs2 := hbW2.size
  have B2 := hide (bseq B1.out hbW2)
  have Rf_2 := hide (Rf_1.out.below hbW2)
  have Xf_2 := hide (show BoxF W2 25 w1.heap.size (.int .i64 s) (.slice Af nf cf) (.bool sh) from by rw [← hW2]; exact heap_alloc_new _ _)
  clear hW2 hbW2
  cases hv : fldOk s bs
  · have HV := Lib.hid hv
    have HI := Lib.hid (show (if fldOk s bs = true then ((cnt bs : Nat) : Int) else -1) = -1 by rw [hv]; rfl)
    clear hv
    refine (ballsMany_any s Af nf cf sh bs W2 Rf_2.out (by omega) HW.out).mono ?_
    rintro e w3 ⟨rfl, hb⟩
    rw [HI.out]
    have hs3 := hb.size
    have B3 := hide (bseq B2.out hb)
    have Xf_3 := hide (Xf_2.out.below hb)
    have Rf_3 := hide (Rf_2.out.below hb)
    clear hb
    obtain ⟨xf0, xf1, xf2⟩ := Xf_3.out.cells
    have xlf := Xf_3.out.lt
    go_wp2_with fail
    clear xf0 xf1 xf2 xlf
    refine (sBallsMany_any s Af nf cf sh bs w3 Rf_3.out (by omega) HW.out).mono ?_
    rintro e w4 ⟨rfl, hb⟩
    rw [HI.out]
    have hs4 := hb.size
    have B4 := hide (bseq B3.out hb)
    have Xf_4 := hide (Xf_3.out.below hb)
    have Rf_4 := hide (Rf_3.out.below hb)
    clear hb
    obtain ⟨xf0, xf1, xf2⟩ := Xf_4.out.cells
    have xlf := Xf_4.out.lt
    go_wp2_with fail
    clear xf0 xf1 xf2 xlf
    refine (fieldValid_any s Af nf cf sh bs w4 Rf_4.out (by omega) HW.out).mono ?_
    rintro e w5 ⟨rfl, hb⟩
    rw [HV.out]
    have hs5 := hb.size
    have B5 := hide (bseq B4.out hb)
    have Xf_5 := hide (Xf_4.out.below hb)
    have Rf_5 := hide (Rf_4.out.below hb)
    clear hb
    go_wp2_with fail
    refine (alive_any _).mono ?_
    rintro e w' ⟨rfl, rfl⟩
    go_wp2_with fail
    go_ret
    exact ⟨rfl, B5.out⟩
  · obtain ⟨m, hm⟩ : ∃ m, m = cnt bs := ⟨_, rfl⟩
    have hm12 : m ≤ 12 := by obtain ⟨t, _, _, _, h⟩ := fldOk_out hv; omega
    have HI := Lib.hid (show (if fldOk s bs = true then ((cnt bs : Nat) : Int) else -1) = ((m : Nat) : Int) by rw [hv, hm]; rfl)
    have HI1 := Lib.hid (show (if fldOk (outS s bs) (stepL s sh bs) = true then ((cnt (stepL s sh bs) : Nat) : Int) else -1) = ((m : Nat) : Int) by obtain ⟨⟨o1, _, _⟩, ⟨f1, c1⟩, _⟩ := laws_ok (sh := sh) hv; rw [o1, f1, c1, hm]; rfl)
    have HI2 := Lib.hid (show (if fldOk (outS s bs) (backL s sh bs) = true then ((cnt (backL s sh bs) : Nat) : Int) else -1) = ((m : Nat) : Int) by obtain ⟨⟨o1, _, _⟩, _, ⟨f1, c1⟩, _⟩ := laws_ok (sh := sh) hv; rw [o1, f1, c1, hm]; rfl)
    have HI3 := Lib.hid (show (if fldOk (outS s bs) (turnL s bs) = true then ((cnt (turnL s bs) : Nat) : Int) else -1) = ((m : Nat) : Int) by obtain ⟨⟨o1, _, _⟩, _, _, ⟨f1, c1⟩, _⟩ := laws_ok (sh := sh) hv; rw [o1, f1, c1, hm]; rfl)
    have hl1 := (stepL_len s sh bs).1
    have hl2 := (stepL_len s sh bs).2
    have hl3 := turnL_len s bs
    clear hv hm
    have hle : decide ((m : Int) ≤ 12) = true := by rw [decide_eq_true_eq]; omega
    have hne : ((m : Int) != (m : Int)) = false := by simp
    have heq : ((m : Int) == (m : Int)) = true := by simp
    refine (ballsMany_any s Af nf cf sh bs W2 Rf_2.out (by omega) HW.out).mono ?_
    rintro e w3 ⟨rfl, hb⟩
    rw [HI.out]
    have hs3 := hb.size
    have B3 := hide (bseq B2.out hb)
    have Xf_3 := hide (Xf_2.out.below hb)
    have Rf_3 := hide (Rf_2.out.below hb)
    clear hb
    obtain ⟨xf0, xf1, xf2⟩ := Xf_3.out.cells
    have xlf := Xf_3.out.lt
    go_wp2_with fail
    clear xf0 xf1 xf2 xlf
    refine (sBallsMany_any s Af nf cf sh bs w3 Rf_3.out (by omega) HW.out).mono ?_
    rintro e w4 ⟨rfl, hb⟩
    rw [HI.out]
    have hs4 := hb.size
    have B4 := hide (bseq B3.out hb)
    have Xf_4 := hide (Xf_3.out.below hb)
    have Rf_4 := hide (Rf_3.out.below hb)
    clear hb
    obtain ⟨xf0, xf1, xf2⟩ := Xf_4.out.cells
    have xlf := Xf_4.out.lt
    go_wp2_with fail
    clear xf0 xf1 xf2 xlf
    refine (steps_ok_any s Af nf cf sh bs w4 Rf_4.out (by omega) HW.out).mono ?_
    rintro e w5 ⟨Ax1, nx1, cx1, rfl, ho, hb⟩
    have hs5 := hb.size
    have B5 := hide (bseq B4.out hb)
    have Xf_5 := hide (Xf_4.out.below hb)
    have Rf_5 := hide (Rf_4.out.below hb)
    have Ox1_5 := hide ho
    have Lx1 := hide ho.lt
    have Nx1 := Lib.hid ho.br.len
    clear hb ho
    go_wp2_with fail
    refine (ballsMany_any (outS s bs) Ax1 nx1 cx1 (outN s sh bs) (stepL s sh bs) w5 Ox1_5.out.br (by have := Nx1.out; omega) wf_outS).mono ?_
    rintro e w6 ⟨rfl, hb⟩
    rw [HI1.out]
    have hs6 := hb.size
    have B6 := hide (bseq B5.out hb)
    have Xf_6 := hide (Xf_5.out.below hb)
    have Ox1_6 := hide (Ox1_5.out.below hb)
    have Rf_6 := hide (Rf_5.out.below hb)
    clear hb
    obtain ⟨xf0, xf1, xf2⟩ := Xf_6.out.cells
    have xlf := Xf_6.out.lt
    go_wp2_with fail
    clear xf0 xf1 xf2 xlf
    refine (backs_ok_any s Af nf cf sh bs w6 Rf_6.out (by omega) HW.out).mono ?_
    rintro e w7 ⟨Ax2, nx2, cx2, rfl, ho, hb⟩
    have hs7 := hb.size
    have B7 := hide (bseq B6.out hb)
    have Xf_7 := hide (Xf_6.out.below hb)
    have Ox1_7 := hide (Ox1_6.out.below hb)
    have Rf_7 := hide (Rf_6.out.below hb)
    have Ox2_7 := hide ho
    have Lx2 := hide ho.lt
    have Nx2 := Lib.hid ho.br.len
    clear hb ho
    go_wp2_with fail
    refine (ballsMany_any (outS s bs) Ax2 nx2 cx2 (outN s sh bs) (backL s sh bs) w7 Ox2_7.out.br (by have := Nx2.out; omega) wf_outS).mono ?_
    rintro e w8 ⟨rfl, hb⟩
    rw [HI2.out]
    have hs8 := hb.size
    have B8 := hide (bseq B7.out hb)
    have Xf_8 := hide (Xf_7.out.below hb)
    have Ox1_8 := hide (Ox1_7.out.below hb)
    have Ox2_8 := hide (Ox2_7.out.below hb)
    have Rf_8 := hide (Rf_7.out.below hb)
    clear hb
    obtain ⟨xf0, xf1, xf2⟩ := Xf_8.out.cells
    have xlf := Xf_8.out.lt
    go_wp2_with fail
    clear xf0 xf1 xf2 xlf
    refine (turns_any s Af nf cf sh bs w8 Rf_8.out (by omega) HW.out).mono ?_
    rintro e w9 ⟨Ax3, nx3, cx3, rfl, ho, hb⟩
    have hs9 := hb.size
    have B9 := hide (bseq B8.out hb)
    have Xf_9 := hide (Xf_8.out.below hb)
    have Ox1_9 := hide (Ox1_8.out.below hb)
    have Ox2_9 := hide (Ox2_8.out.below hb)
    have Rf_9 := hide (Rf_8.out.below hb)
    have Ox3_9 := hide ho
    have Lx3 := hide ho.lt
    have Nx3 := Lib.hid ho.br.len
    clear hb ho
    go_wp2_with fail
    refine (ballsMany_any (outS s bs) Ax3 nx3 cx3 (outK s sh bs) (turnL s bs) w9 Ox3_9.out.br (by have := Nx3.out; omega) wf_outS).mono ?_
    rintro e w10 ⟨rfl, hb⟩
    rw [HI3.out]
    have hs10 := hb.size
    have B10 := hide (bseq B9.out hb)
    have Xf_10 := hide (Xf_9.out.below hb)
    have Ox1_10 := hide (Ox1_9.out.below hb)
    have Ox2_10 := hide (Ox2_9.out.below hb)
    have Ox3_10 := hide (Ox3_9.out.below hb)
    have Rf_10 := hide (Rf_9.out.below hb)
    clear hb
    go_wp2_with fail
    go_ret
    exact ⟨rfl, B10.out⟩
end Go.Proofs.Ytmakpjcjccgalaa
