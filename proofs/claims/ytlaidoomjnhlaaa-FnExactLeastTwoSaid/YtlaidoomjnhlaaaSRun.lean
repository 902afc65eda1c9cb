/-
  The word that a gate leads a word to, by the reference.
  No condition.
-/
import Derived.Test.YtlaidoomjnhlaaaRun2
namespace Go.Proofs.Ytlaidoomjnhlaaa
open Go.RowKit Go.Sort base
theorem bt_val {x a : Nat} {v : Nat} (h : bt x a = v) : ((bt x a : Nat) : Int) = (v : Int) := by rw [h]
set_option maxHeartbeats 4000000 in
theorem sGateRun_0 (l : Int) (a b c x : Nat) (hg : gateQ l 0 a b c = true) (hv : wv l x = true) (ha : a ≤ 7) (hb : b ≤ 7) (hc : c ≤ 7) (hx : x < 256) (w : World) :
    Calls Try.prog 11 #[.int .i64 l, .agg #[.int .i64 0, .int .i64 a, .int .i64 b, .int .i64 c], .int .i64 x] w fun e w' => e = .returned (.int .i64 (runG 0 a b c x : Nat)) ∧ Below w.heap.size w w' := by
  have HB0 := hide (show Below w.heap.size w (w.alloc (.cells #[.int .i64 0, .int .i64 a, .int .i64 b, .int .i64 c] 33)) by go_grown)
  have HX0 := hide (Box4.made w 0 a b c 33)
  have HV := Lib.hid hv
  have HG := Lib.hid hg
  clear hg hv
  have HQ := Lib.hid (show runG 0 a b c x = x ^^^ 2 ^ a by simp [runG])
  go_enter Try.func11, Try.ntmps11
  go_wp2_with fail
  refine (sWordValid_b true _ _ HV.out _).mono ?_
  rintro e w' ⟨rfl, rfl⟩
  go_wp2_with fail
  refine (sGateValid_b true _ _ _ _ _ HG.out _).mono ?_
  rintro e w1 ⟨rfl, hb1⟩
  have HB1 := hide (HB0.out.trans (hb1.mono HB0.out.size))
  obtain ⟨c0, c1, c2, c3⟩ := HX0.out.below hb1
  clear hb1
  go_wp2_with fail
  refine (l1Bit_any x a hx ha _).mono ?_
  rintro e w' ⟨rfl, rfl⟩
  go_wp2_with fail
  refine (l1Bit_any x b hx hb _).mono ?_
  rintro e w' ⟨rfl, rfl⟩
  go_wp2_with fail
  refine (l1Bit_any x c hx hc _).mono ?_
  rintro e w' ⟨rfl, rfl⟩
  go_wp2_with fail
  refine (l1Turn_any x a hx ha _).mono ?_
  rintro e w' ⟨rfl, rfl⟩
  go_wp2_with fail
  go_ret
  exact ⟨by rw [HQ.out]; rfl, HB1.out⟩
set_option maxHeartbeats 4000000 in
theorem sGateRun_1 (l : Int) (a b c x : Nat) (hg : gateQ l 1 a b c = true) (hv : wv l x = true) (ha : a ≤ 7) (hb : b ≤ 7) (hc : c ≤ 7) (hx : x < 256) (w : World) :
    Calls Try.prog 11 #[.int .i64 l, .agg #[.int .i64 1, .int .i64 a, .int .i64 b, .int .i64 c], .int .i64 x] w fun e w' => e = .returned (.int .i64 (runG 1 a b c x : Nat)) ∧ Below w.heap.size w w' := by
  have HB0 := hide (show Below w.heap.size w (w.alloc (.cells #[.int .i64 1, .int .i64 a, .int .i64 b, .int .i64 c] 33)) by go_grown)
  have HX0 := hide (Box4.made w 1 a b c 33)
  have HV := Lib.hid hv
  have HG := Lib.hid hg
  clear hg hv
  rcases bt_01 x a with ha0 | ha0
  · have Va := Lib.hid ha0
    clear ha0
    have HQ := Lib.hid (show runG 1 a b c x = x by simp [runG, Va.out])
    go_enter Try.func11, Try.ntmps11
    go_wp2_with fail
    refine (sWordValid_b true _ _ HV.out _).mono ?_
    rintro e w' ⟨rfl, rfl⟩
    go_wp2_with fail
    refine (sGateValid_b true _ _ _ _ _ HG.out _).mono ?_
    rintro e w1 ⟨rfl, hb1⟩
    have HB1 := hide (HB0.out.trans (hb1.mono HB0.out.size))
    obtain ⟨c0, c1, c2, c3⟩ := HX0.out.below hb1
    clear hb1
    go_wp2_with fail
    refine (l1Bit_b 0 x a hx ha (by rw [Va.out]; rfl) _).mono ?_
    rintro e w' ⟨rfl, rfl⟩
    go_wp2_with fail
    refine (l1Bit_any x b hx hb _).mono ?_
    rintro e w' ⟨rfl, rfl⟩
    go_wp2_with fail
    refine (l1Bit_any x c hx hc _).mono ?_
    rintro e w' ⟨rfl, rfl⟩
    go_wp2_with fail
    go_ret
    exact ⟨by rw [HQ.out]; rfl, HB1.out⟩
  · have Va := Lib.hid ha0
    clear ha0
    have HQ := Lib.hid (show runG 1 a b c x = x ^^^ 2 ^ b by simp [runG, Va.out])
    go_enter Try.func11, Try.ntmps11
    go_wp2_with fail
    refine (sWordValid_b true _ _ HV.out _).mono ?_
    rintro e w' ⟨rfl, rfl⟩
    go_wp2_with fail
    refine (sGateValid_b true _ _ _ _ _ HG.out _).mono ?_
    rintro e w1 ⟨rfl, hb1⟩
    have HB1 := hide (HB0.out.trans (hb1.mono HB0.out.size))
    obtain ⟨c0, c1, c2, c3⟩ := HX0.out.below hb1
    clear hb1
    go_wp2_with fail
    refine (l1Bit_b 1 x a hx ha (by rw [Va.out]; rfl) _).mono ?_
    rintro e w' ⟨rfl, rfl⟩
    go_wp2_with fail
    refine (l1Bit_any x b hx hb _).mono ?_
    rintro e w' ⟨rfl, rfl⟩
    go_wp2_with fail
    refine (l1Bit_any x c hx hc _).mono ?_
    rintro e w' ⟨rfl, rfl⟩
    go_wp2_with fail
    refine (l1Turn_any x b hx hb _).mono ?_
    rintro e w' ⟨rfl, rfl⟩
    go_wp2_with fail
    go_ret
    exact ⟨by rw [HQ.out]; rfl, HB1.out⟩
set_option maxHeartbeats 4000000 in
theorem sGateRun_2 (l : Int) (a b c x : Nat) (hg : gateQ l 2 a b c = true) (hv : wv l x = true) (ha : a ≤ 7) (hb : b ≤ 7) (hc : c ≤ 7) (hx : x < 256) (w : World) :
    Calls Try.prog 11 #[.int .i64 l, .agg #[.int .i64 2, .int .i64 a, .int .i64 b, .int .i64 c], .int .i64 x] w fun e w' => e = .returned (.int .i64 (runG 2 a b c x : Nat)) ∧ Below w.heap.size w w' := by
  have HB0 := hide (show Below w.heap.size w (w.alloc (.cells #[.int .i64 2, .int .i64 a, .int .i64 b, .int .i64 c] 33)) by go_grown)
  have HX0 := hide (Box4.made w 2 a b c 33)
  have HV := Lib.hid hv
  have HG := Lib.hid hg
  clear hg hv
  rcases bt_01 x a with ha0 | ha0
  · have Va := Lib.hid ha0
    clear ha0
    rcases bt_01 x b with hb0 | hb0
    · have Vb := Lib.hid hb0
      clear hb0
      have HQ := Lib.hid (show runG 2 a b c x = x by simp [runG, Va.out, Vb.out])
      go_enter Try.func11, Try.ntmps11
      go_wp2_with fail
      refine (sWordValid_b true _ _ HV.out _).mono ?_
      rintro e w' ⟨rfl, rfl⟩
      go_wp2_with fail
      refine (sGateValid_b true _ _ _ _ _ HG.out _).mono ?_
      rintro e w1 ⟨rfl, hb1⟩
      have HB1 := hide (HB0.out.trans (hb1.mono HB0.out.size))
      obtain ⟨c0, c1, c2, c3⟩ := HX0.out.below hb1
      clear hb1
      go_wp2_with fail
      refine (l1Bit_b 0 x a hx ha (by rw [Va.out]; rfl) _).mono ?_
      rintro e w' ⟨rfl, rfl⟩
      go_wp2_with fail
      refine (l1Bit_b 0 x b hx hb (by rw [Vb.out]; rfl) _).mono ?_
      rintro e w' ⟨rfl, rfl⟩
      go_wp2_with fail
      refine (l1Bit_any x c hx hc _).mono ?_
      rintro e w' ⟨rfl, rfl⟩
      go_wp2_with fail
      go_ret
      exact ⟨by rw [HQ.out]; rfl, HB1.out⟩
    · have Vb := Lib.hid hb0
      clear hb0
      have HQ := Lib.hid (show runG 2 a b c x = x by simp [runG, Va.out, Vb.out])
      go_enter Try.func11, Try.ntmps11
      go_wp2_with fail
      refine (sWordValid_b true _ _ HV.out _).mono ?_
      rintro e w' ⟨rfl, rfl⟩
      go_wp2_with fail
      refine (sGateValid_b true _ _ _ _ _ HG.out _).mono ?_
      rintro e w1 ⟨rfl, hb1⟩
      have HB1 := hide (HB0.out.trans (hb1.mono HB0.out.size))
      obtain ⟨c0, c1, c2, c3⟩ := HX0.out.below hb1
      clear hb1
      go_wp2_with fail
      refine (l1Bit_b 0 x a hx ha (by rw [Va.out]; rfl) _).mono ?_
      rintro e w' ⟨rfl, rfl⟩
      go_wp2_with fail
      refine (l1Bit_b 1 x b hx hb (by rw [Vb.out]; rfl) _).mono ?_
      rintro e w' ⟨rfl, rfl⟩
      go_wp2_with fail
      refine (l1Bit_any x c hx hc _).mono ?_
      rintro e w' ⟨rfl, rfl⟩
      go_wp2_with fail
      go_ret
      exact ⟨by rw [HQ.out]; rfl, HB1.out⟩
  · have Va := Lib.hid ha0
    clear ha0
    rcases bt_01 x b with hb0 | hb0
    · have Vb := Lib.hid hb0
      clear hb0
      have HQ := Lib.hid (show runG 2 a b c x = x by simp [runG, Va.out, Vb.out])
      go_enter Try.func11, Try.ntmps11
      go_wp2_with fail
      refine (sWordValid_b true _ _ HV.out _).mono ?_
      rintro e w' ⟨rfl, rfl⟩
      go_wp2_with fail
      refine (sGateValid_b true _ _ _ _ _ HG.out _).mono ?_
      rintro e w1 ⟨rfl, hb1⟩
      have HB1 := hide (HB0.out.trans (hb1.mono HB0.out.size))
      obtain ⟨c0, c1, c2, c3⟩ := HX0.out.below hb1
      clear hb1
      go_wp2_with fail
      refine (l1Bit_b 1 x a hx ha (by rw [Va.out]; rfl) _).mono ?_
      rintro e w' ⟨rfl, rfl⟩
      go_wp2_with fail
      refine (l1Bit_b 0 x b hx hb (by rw [Vb.out]; rfl) _).mono ?_
      rintro e w' ⟨rfl, rfl⟩
      go_wp2_with fail
      refine (l1Bit_any x c hx hc _).mono ?_
      rintro e w' ⟨rfl, rfl⟩
      go_wp2_with fail
      go_ret
      exact ⟨by rw [HQ.out]; rfl, HB1.out⟩
    · have Vb := Lib.hid hb0
      clear hb0
      have HQ := Lib.hid (show runG 2 a b c x = x ^^^ 2 ^ c by simp [runG, Va.out, Vb.out])
      go_enter Try.func11, Try.ntmps11
      go_wp2_with fail
      refine (sWordValid_b true _ _ HV.out _).mono ?_
      rintro e w' ⟨rfl, rfl⟩
      go_wp2_with fail
      refine (sGateValid_b true _ _ _ _ _ HG.out _).mono ?_
      rintro e w1 ⟨rfl, hb1⟩
      have HB1 := hide (HB0.out.trans (hb1.mono HB0.out.size))
      obtain ⟨c0, c1, c2, c3⟩ := HX0.out.below hb1
      clear hb1
      go_wp2_with fail
      refine (l1Bit_b 1 x a hx ha (by rw [Va.out]; rfl) _).mono ?_
      rintro e w' ⟨rfl, rfl⟩
      go_wp2_with fail
      refine (l1Bit_b 1 x b hx hb (by rw [Vb.out]; rfl) _).mono ?_
      rintro e w' ⟨rfl, rfl⟩
      go_wp2_with fail
      refine (l1Bit_any x c hx hc _).mono ?_
      rintro e w' ⟨rfl, rfl⟩
      go_wp2_with fail
      refine (l1Turn_any x c hx hc _).mono ?_
      rintro e w' ⟨rfl, rfl⟩
      go_wp2_with fail
      go_ret
      exact ⟨by rw [HQ.out]; rfl, HB1.out⟩
set_option maxHeartbeats 4000000 in
theorem sGateRun_3 (l : Int) (a b c x : Nat) (hg : gateQ l 3 a b c = true) (hv : wv l x = true) (ha : a ≤ 7) (hb : b ≤ 7) (hc : c ≤ 7) (hx : x < 256) (w : World) :
    Calls Try.prog 11 #[.int .i64 l, .agg #[.int .i64 3, .int .i64 a, .int .i64 b, .int .i64 c], .int .i64 x] w fun e w' => e = .returned (.int .i64 (runG 3 a b c x : Nat)) ∧ Below w.heap.size w w' := by
  have HB0 := hide (show Below w.heap.size w (w.alloc (.cells #[.int .i64 3, .int .i64 a, .int .i64 b, .int .i64 c] 33)) by go_grown)
  have HX0 := hide (Box4.made w 3 a b c 33)
  have HV := Lib.hid hv
  have HG := Lib.hid hg
  clear hg hv
  rcases bt_01 x a with ha0 | ha0
  · have Va := Lib.hid ha0
    clear ha0
    rcases bt_01 x b with hb0 | hb0
    · have Vb := Lib.hid hb0
      clear hb0
      have HQ := Lib.hid (show runG 3 a b c x = x by simp [runG, Va.out, Vb.out])
      go_enter Try.func11, Try.ntmps11
      go_wp2_with fail
      refine (sWordValid_b true _ _ HV.out _).mono ?_
      rintro e w' ⟨rfl, rfl⟩
      go_wp2_with fail
      refine (sGateValid_b true _ _ _ _ _ HG.out _).mono ?_
      rintro e w1 ⟨rfl, hb1⟩
      have HB1 := hide (HB0.out.trans (hb1.mono HB0.out.size))
      obtain ⟨c0, c1, c2, c3⟩ := HX0.out.below hb1
      clear hb1
      go_wp2_with fail
      refine (l1Bit_b 0 x a hx ha (by rw [Va.out]; rfl) _).mono ?_
      rintro e w' ⟨rfl, rfl⟩
      go_wp2_with fail
      refine (l1Bit_b 0 x b hx hb (by rw [Vb.out]; rfl) _).mono ?_
      rintro e w' ⟨rfl, rfl⟩
      go_wp2_with fail
      refine (l1Bit_any x c hx hc _).mono ?_
      rintro e w' ⟨rfl, rfl⟩
      go_wp2_with fail
      go_ret
      exact ⟨by rw [HQ.out]; rfl, HB1.out⟩
    · have Vb := Lib.hid hb0
      clear hb0
      have HQ := Lib.hid (show runG 3 a b c x = x ^^^ 2 ^ a ^^^ 2 ^ b by simp [runG, Va.out, Vb.out])
      go_enter Try.func11, Try.ntmps11
      go_wp2_with fail
      refine (sWordValid_b true _ _ HV.out _).mono ?_
      rintro e w' ⟨rfl, rfl⟩
      go_wp2_with fail
      refine (sGateValid_b true _ _ _ _ _ HG.out _).mono ?_
      rintro e w1 ⟨rfl, hb1⟩
      have HB1 := hide (HB0.out.trans (hb1.mono HB0.out.size))
      obtain ⟨c0, c1, c2, c3⟩ := HX0.out.below hb1
      clear hb1
      go_wp2_with fail
      refine (l1Bit_b 0 x a hx ha (by rw [Va.out]; rfl) _).mono ?_
      rintro e w' ⟨rfl, rfl⟩
      go_wp2_with fail
      refine (l1Bit_b 1 x b hx hb (by rw [Vb.out]; rfl) _).mono ?_
      rintro e w' ⟨rfl, rfl⟩
      go_wp2_with fail
      refine (l1Bit_any x c hx hc _).mono ?_
      rintro e w' ⟨rfl, rfl⟩
      go_wp2_with fail
      have hx2 := xor_lt8 hx (two_pow_lt8 (show a < 8 by omega))
      go_quiet ((go_at_call 19; exact quiet_eq (l1Turn_any _ _ (by assumption) (by assumption) _)))
      go_wp2_with fail
      go_ret
      exact ⟨by rw [HQ.out]; rfl, below_drewN HB1.out _⟩
  · have Va := Lib.hid ha0
    clear ha0
    rcases bt_01 x b with hb0 | hb0
    · have Vb := Lib.hid hb0
      clear hb0
      have HQ := Lib.hid (show runG 3 a b c x = x ^^^ 2 ^ a ^^^ 2 ^ b by simp [runG, Va.out, Vb.out])
      go_enter Try.func11, Try.ntmps11
      go_wp2_with fail
      refine (sWordValid_b true _ _ HV.out _).mono ?_
      rintro e w' ⟨rfl, rfl⟩
      go_wp2_with fail
      refine (sGateValid_b true _ _ _ _ _ HG.out _).mono ?_
      rintro e w1 ⟨rfl, hb1⟩
      have HB1 := hide (HB0.out.trans (hb1.mono HB0.out.size))
      obtain ⟨c0, c1, c2, c3⟩ := HX0.out.below hb1
      clear hb1
      go_wp2_with fail
      refine (l1Bit_b 1 x a hx ha (by rw [Va.out]; rfl) _).mono ?_
      rintro e w' ⟨rfl, rfl⟩
      go_wp2_with fail
      refine (l1Bit_b 0 x b hx hb (by rw [Vb.out]; rfl) _).mono ?_
      rintro e w' ⟨rfl, rfl⟩
      go_wp2_with fail
      refine (l1Bit_any x c hx hc _).mono ?_
      rintro e w' ⟨rfl, rfl⟩
      go_wp2_with fail
      have hx2 := xor_lt8 hx (two_pow_lt8 (show a < 8 by omega))
      go_quiet ((go_at_call 19; exact quiet_eq (l1Turn_any _ _ (by assumption) (by assumption) _)))
      go_wp2_with fail
      go_ret
      exact ⟨by rw [HQ.out]; rfl, below_drewN HB1.out _⟩
    · have Vb := Lib.hid hb0
      clear hb0
      have HQ := Lib.hid (show runG 3 a b c x = x by simp [runG, Va.out, Vb.out])
      go_enter Try.func11, Try.ntmps11
      go_wp2_with fail
      refine (sWordValid_b true _ _ HV.out _).mono ?_
      rintro e w' ⟨rfl, rfl⟩
      go_wp2_with fail
      refine (sGateValid_b true _ _ _ _ _ HG.out _).mono ?_
      rintro e w1 ⟨rfl, hb1⟩
      have HB1 := hide (HB0.out.trans (hb1.mono HB0.out.size))
      obtain ⟨c0, c1, c2, c3⟩ := HX0.out.below hb1
      clear hb1
      go_wp2_with fail
      refine (l1Bit_b 1 x a hx ha (by rw [Va.out]; rfl) _).mono ?_
      rintro e w' ⟨rfl, rfl⟩
      go_wp2_with fail
      refine (l1Bit_b 1 x b hx hb (by rw [Vb.out]; rfl) _).mono ?_
      rintro e w' ⟨rfl, rfl⟩
      go_wp2_with fail
      refine (l1Bit_any x c hx hc _).mono ?_
      rintro e w' ⟨rfl, rfl⟩
      go_wp2_with fail
      go_ret
      exact ⟨by rw [HQ.out]; rfl, HB1.out⟩
set_option maxHeartbeats 4000000 in
theorem sGateRun_4 (l : Int) (a b c x : Nat) (hg : gateQ l 4 a b c = true) (hv : wv l x = true) (ha : a ≤ 7) (hb : b ≤ 7) (hc : c ≤ 7) (hx : x < 256) (w : World) :
    Calls Try.prog 11 #[.int .i64 l, .agg #[.int .i64 4, .int .i64 a, .int .i64 b, .int .i64 c], .int .i64 x] w fun e w' => e = .returned (.int .i64 (runG 4 a b c x : Nat)) ∧ Below w.heap.size w w' := by
  have HB0 := hide (show Below w.heap.size w (w.alloc (.cells #[.int .i64 4, .int .i64 a, .int .i64 b, .int .i64 c] 33)) by go_grown)
  have HX0 := hide (Box4.made w 4 a b c 33)
  have HV := Lib.hid hv
  have HG := Lib.hid hg
  clear hg hv
  rcases bt_01 x a with ha0 | ha0
  · have Va := Lib.hid ha0
    clear ha0
    rcases bt_01 x b with hb0 | hb0
    · have Vb := Lib.hid hb0
      clear hb0
      rcases bt_01 x c with hc0 | hc0
      · have Vc := Lib.hid hc0
        clear hc0
        have HQ := Lib.hid (show runG 4 a b c x = x by simp [runG, Va.out, Vb.out, Vc.out])
        go_enter Try.func11, Try.ntmps11
        go_wp2_with fail
        refine (sWordValid_b true _ _ HV.out _).mono ?_
        rintro e w' ⟨rfl, rfl⟩
        go_wp2_with fail
        refine (sGateValid_b true _ _ _ _ _ HG.out _).mono ?_
        rintro e w1 ⟨rfl, hb1⟩
        have HB1 := hide (HB0.out.trans (hb1.mono HB0.out.size))
        obtain ⟨c0, c1, c2, c3⟩ := HX0.out.below hb1
        clear hb1
        go_wp2_with fail
        refine (l1Bit_b 0 x a hx ha (by rw [Va.out]; rfl) _).mono ?_
        rintro e w' ⟨rfl, rfl⟩
        go_wp2_with fail
        refine (l1Bit_b 0 x b hx hb (by rw [Vb.out]; rfl) _).mono ?_
        rintro e w' ⟨rfl, rfl⟩
        go_wp2_with fail
        refine (l1Bit_b 0 x c hx hc (by rw [Vc.out]; rfl) _).mono ?_
        rintro e w' ⟨rfl, rfl⟩
        go_wp2_with fail
        go_ret
        exact ⟨by rw [HQ.out]; rfl, HB1.out⟩
      · have Vc := Lib.hid hc0
        clear hc0
        have HQ := Lib.hid (show runG 4 a b c x = x by simp [runG, Va.out, Vb.out, Vc.out])
        go_enter Try.func11, Try.ntmps11
        go_wp2_with fail
        refine (sWordValid_b true _ _ HV.out _).mono ?_
        rintro e w' ⟨rfl, rfl⟩
        go_wp2_with fail
        refine (sGateValid_b true _ _ _ _ _ HG.out _).mono ?_
        rintro e w1 ⟨rfl, hb1⟩
        have HB1 := hide (HB0.out.trans (hb1.mono HB0.out.size))
        obtain ⟨c0, c1, c2, c3⟩ := HX0.out.below hb1
        clear hb1
        go_wp2_with fail
        refine (l1Bit_b 0 x a hx ha (by rw [Va.out]; rfl) _).mono ?_
        rintro e w' ⟨rfl, rfl⟩
        go_wp2_with fail
        refine (l1Bit_b 0 x b hx hb (by rw [Vb.out]; rfl) _).mono ?_
        rintro e w' ⟨rfl, rfl⟩
        go_wp2_with fail
        refine (l1Bit_b 1 x c hx hc (by rw [Vc.out]; rfl) _).mono ?_
        rintro e w' ⟨rfl, rfl⟩
        go_wp2_with fail
        go_ret
        exact ⟨by rw [HQ.out]; rfl, HB1.out⟩
    · have Vb := Lib.hid hb0
      clear hb0
      rcases bt_01 x c with hc0 | hc0
      · have Vc := Lib.hid hc0
        clear hc0
        have HQ := Lib.hid (show runG 4 a b c x = x by simp [runG, Va.out, Vb.out, Vc.out])
        go_enter Try.func11, Try.ntmps11
        go_wp2_with fail
        refine (sWordValid_b true _ _ HV.out _).mono ?_
        rintro e w' ⟨rfl, rfl⟩
        go_wp2_with fail
        refine (sGateValid_b true _ _ _ _ _ HG.out _).mono ?_
        rintro e w1 ⟨rfl, hb1⟩
        have HB1 := hide (HB0.out.trans (hb1.mono HB0.out.size))
        obtain ⟨c0, c1, c2, c3⟩ := HX0.out.below hb1
        clear hb1
        go_wp2_with fail
        refine (l1Bit_b 0 x a hx ha (by rw [Va.out]; rfl) _).mono ?_
        rintro e w' ⟨rfl, rfl⟩
        go_wp2_with fail
        refine (l1Bit_b 1 x b hx hb (by rw [Vb.out]; rfl) _).mono ?_
        rintro e w' ⟨rfl, rfl⟩
        go_wp2_with fail
        refine (l1Bit_b 0 x c hx hc (by rw [Vc.out]; rfl) _).mono ?_
        rintro e w' ⟨rfl, rfl⟩
        go_wp2_with fail
        go_ret
        exact ⟨by rw [HQ.out]; rfl, HB1.out⟩
      · have Vc := Lib.hid hc0
        clear hc0
        have HQ := Lib.hid (show runG 4 a b c x = x by simp [runG, Va.out, Vb.out, Vc.out])
        go_enter Try.func11, Try.ntmps11
        go_wp2_with fail
        refine (sWordValid_b true _ _ HV.out _).mono ?_
        rintro e w' ⟨rfl, rfl⟩
        go_wp2_with fail
        refine (sGateValid_b true _ _ _ _ _ HG.out _).mono ?_
        rintro e w1 ⟨rfl, hb1⟩
        have HB1 := hide (HB0.out.trans (hb1.mono HB0.out.size))
        obtain ⟨c0, c1, c2, c3⟩ := HX0.out.below hb1
        clear hb1
        go_wp2_with fail
        refine (l1Bit_b 0 x a hx ha (by rw [Va.out]; rfl) _).mono ?_
        rintro e w' ⟨rfl, rfl⟩
        go_wp2_with fail
        refine (l1Bit_b 1 x b hx hb (by rw [Vb.out]; rfl) _).mono ?_
        rintro e w' ⟨rfl, rfl⟩
        go_wp2_with fail
        refine (l1Bit_b 1 x c hx hc (by rw [Vc.out]; rfl) _).mono ?_
        rintro e w' ⟨rfl, rfl⟩
        go_wp2_with fail
        go_ret
        exact ⟨by rw [HQ.out]; rfl, HB1.out⟩
  · have Va := Lib.hid ha0
    clear ha0
    rcases bt_01 x b with hb0 | hb0
    · have Vb := Lib.hid hb0
      clear hb0
      rcases bt_01 x c with hc0 | hc0
      · have Vc := Lib.hid hc0
        clear hc0
        have HQ := Lib.hid (show runG 4 a b c x = x by simp [runG, Va.out, Vb.out, Vc.out])
        go_enter Try.func11, Try.ntmps11
        go_wp2_with fail
        refine (sWordValid_b true _ _ HV.out _).mono ?_
        rintro e w' ⟨rfl, rfl⟩
        go_wp2_with fail
        refine (sGateValid_b true _ _ _ _ _ HG.out _).mono ?_
        rintro e w1 ⟨rfl, hb1⟩
        have HB1 := hide (HB0.out.trans (hb1.mono HB0.out.size))
        obtain ⟨c0, c1, c2, c3⟩ := HX0.out.below hb1
        clear hb1
        go_wp2_with fail
        refine (l1Bit_b 1 x a hx ha (by rw [Va.out]; rfl) _).mono ?_
        rintro e w' ⟨rfl, rfl⟩
        go_wp2_with fail
        refine (l1Bit_b 0 x b hx hb (by rw [Vb.out]; rfl) _).mono ?_
        rintro e w' ⟨rfl, rfl⟩
        go_wp2_with fail
        refine (l1Bit_b 0 x c hx hc (by rw [Vc.out]; rfl) _).mono ?_
        rintro e w' ⟨rfl, rfl⟩
        go_wp2_with fail
        go_ret
        exact ⟨by rw [HQ.out]; rfl, HB1.out⟩
      · have Vc := Lib.hid hc0
        clear hc0
        have HQ := Lib.hid (show runG 4 a b c x = x ^^^ 2 ^ b ^^^ 2 ^ c by simp [runG, Va.out, Vb.out, Vc.out])
        go_enter Try.func11, Try.ntmps11
        go_wp2_with fail
        refine (sWordValid_b true _ _ HV.out _).mono ?_
        rintro e w' ⟨rfl, rfl⟩
        go_wp2_with fail
        refine (sGateValid_b true _ _ _ _ _ HG.out _).mono ?_
        rintro e w1 ⟨rfl, hb1⟩
        have HB1 := hide (HB0.out.trans (hb1.mono HB0.out.size))
        obtain ⟨c0, c1, c2, c3⟩ := HX0.out.below hb1
        clear hb1
        go_wp2_with fail
        refine (l1Bit_b 1 x a hx ha (by rw [Va.out]; rfl) _).mono ?_
        rintro e w' ⟨rfl, rfl⟩
        go_wp2_with fail
        refine (l1Bit_b 0 x b hx hb (by rw [Vb.out]; rfl) _).mono ?_
        rintro e w' ⟨rfl, rfl⟩
        go_wp2_with fail
        refine (l1Bit_b 1 x c hx hc (by rw [Vc.out]; rfl) _).mono ?_
        rintro e w' ⟨rfl, rfl⟩
        go_wp2_with fail
        have hx2 := xor_lt8 hx (two_pow_lt8 (show b < 8 by omega))
        go_quiet ((go_at_call 19; exact quiet_eq (l1Turn_any _ _ (by assumption) (by assumption) _)))
        go_wp2_with fail
        go_ret
        exact ⟨by rw [HQ.out]; rfl, below_drewN HB1.out _⟩
    · have Vb := Lib.hid hb0
      clear hb0
      rcases bt_01 x c with hc0 | hc0
      · have Vc := Lib.hid hc0
        clear hc0
        have HQ := Lib.hid (show runG 4 a b c x = x ^^^ 2 ^ b ^^^ 2 ^ c by simp [runG, Va.out, Vb.out, Vc.out])
        go_enter Try.func11, Try.ntmps11
        go_wp2_with fail
        refine (sWordValid_b true _ _ HV.out _).mono ?_
        rintro e w' ⟨rfl, rfl⟩
        go_wp2_with fail
        refine (sGateValid_b true _ _ _ _ _ HG.out _).mono ?_
        rintro e w1 ⟨rfl, hb1⟩
        have HB1 := hide (HB0.out.trans (hb1.mono HB0.out.size))
        obtain ⟨c0, c1, c2, c3⟩ := HX0.out.below hb1
        clear hb1
        go_wp2_with fail
        refine (l1Bit_b 1 x a hx ha (by rw [Va.out]; rfl) _).mono ?_
        rintro e w' ⟨rfl, rfl⟩
        go_wp2_with fail
        refine (l1Bit_b 1 x b hx hb (by rw [Vb.out]; rfl) _).mono ?_
        rintro e w' ⟨rfl, rfl⟩
        go_wp2_with fail
        refine (l1Bit_b 0 x c hx hc (by rw [Vc.out]; rfl) _).mono ?_
        rintro e w' ⟨rfl, rfl⟩
        go_wp2_with fail
        have hx2 := xor_lt8 hx (two_pow_lt8 (show b < 8 by omega))
        go_quiet ((go_at_call 19; exact quiet_eq (l1Turn_any _ _ (by assumption) (by assumption) _)))
        go_wp2_with fail
        go_ret
        exact ⟨by rw [HQ.out]; rfl, below_drewN HB1.out _⟩
      · have Vc := Lib.hid hc0
        clear hc0
        have HQ := Lib.hid (show runG 4 a b c x = x by simp [runG, Va.out, Vb.out, Vc.out])
        go_enter Try.func11, Try.ntmps11
        go_wp2_with fail
        refine (sWordValid_b true _ _ HV.out _).mono ?_
        rintro e w' ⟨rfl, rfl⟩
        go_wp2_with fail
        refine (sGateValid_b true _ _ _ _ _ HG.out _).mono ?_
        rintro e w1 ⟨rfl, hb1⟩
        have HB1 := hide (HB0.out.trans (hb1.mono HB0.out.size))
        obtain ⟨c0, c1, c2, c3⟩ := HX0.out.below hb1
        clear hb1
        go_wp2_with fail
        refine (l1Bit_b 1 x a hx ha (by rw [Va.out]; rfl) _).mono ?_
        rintro e w' ⟨rfl, rfl⟩
        go_wp2_with fail
        refine (l1Bit_b 1 x b hx hb (by rw [Vb.out]; rfl) _).mono ?_
        rintro e w' ⟨rfl, rfl⟩
        go_wp2_with fail
        refine (l1Bit_b 1 x c hx hc (by rw [Vc.out]; rfl) _).mono ?_
        rintro e w' ⟨rfl, rfl⟩
        go_wp2_with fail
        go_ret
        exact ⟨by rw [HQ.out]; rfl, HB1.out⟩
set_option maxHeartbeats 16000000 in
theorem sGateRun_any (l k a b c x : Int) (w : World) :
    Calls Try.prog 11 #[.int .i64 l, .agg #[.int .i64 k, .int .i64 a, .int .i64 b, .int .i64 c], .int .i64 x] w fun e w' => e = .returned (.int .i64 (gateRun l k a b c x)) ∧ Below w.heap.size w w' := by
  have HB0 := hide (show Below w.heap.size w (w.alloc (.cells #[.int .i64 k, .int .i64 a, .int .i64 b, .int .i64 c] 33)) by go_grown)
  have HX0 := hide (Box4.made w k a b c 33)
  cases hv : wv l x
  · have HV := Lib.hid hv
    clear hv
    go_enter Try.func11, Try.ntmps11
    go_wp2_with fail
    refine (sWordValid_b false _ _ HV.out _).mono ?_
    rintro e w' ⟨rfl, rfl⟩
    go_wp2_with fail
    go_ret
    exact ⟨by rw [gateRun_no' HV.out]; rfl, HB0.out⟩
  · have HV := Lib.hid hv
    cases hg : gateQ l k a b c
    · have HG := Lib.hid hg
      clear hg hv
      go_enter Try.func11, Try.ntmps11
      go_wp2_with fail
      refine (sWordValid_b true _ _ HV.out _).mono ?_
      rintro e w' ⟨rfl, rfl⟩
      go_wp2_with fail
      refine (sGateValid_b false _ _ _ _ _ HG.out _).mono ?_
      rintro e w1 ⟨rfl, hb1⟩
      have HB1 := hide (HB0.out.trans (hb1.mono HB0.out.size))
      clear hb1
      go_wp2_with fail
      go_ret
      exact ⟨by rw [gateRun_no HG.out]; rfl, HB1.out⟩
    · obtain ⟨a, b, c, x, rfl, rfl, rfl, rfl, ha, hb, hc, hx⟩ := nats hg hv
      have HK := gateQ_kind hg
      rw [gateRun_ok hg hv]
      rcases kind_cases HK with rfl | rfl | rfl | rfl | rfl
      · exact sGateRun_0 l a b c x hg hv ha hb hc hx w
      · exact sGateRun_1 l a b c x hg hv ha hb hc hx w
      · exact sGateRun_2 l a b c x hg hv ha hb hc hx w
      · exact sGateRun_3 l a b c x hg hv ha hb hc hx w
      · exact sGateRun_4 l a b c x hg hv ha hb hc hx w
end Go.Proofs.Ytlaidoomjnhlaaa
