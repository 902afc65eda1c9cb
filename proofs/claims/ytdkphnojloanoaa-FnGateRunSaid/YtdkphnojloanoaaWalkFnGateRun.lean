/-
  The walk of the law FnGateRun: it returns true at every input, and turns nothing that was there.
  No condition.
-/
import Derived.Test.YtdkphnojloanoaaDrawGates2
import Derived.Test.YtdkphnojloanoaaGateLaw3
import Derived.Test.YtdkphnojloanoaaMoves
namespace Go.Proofs.Ytdkphnojloanoaa
open Go.RowKit Go.Sort base
theorem gateRun_b (v : Int) (l k a b c x : Int) (h : gateRun l k a b c x = v) (w : World) :
    Calls Try.prog 22 #[.int .i64 l, .agg #[.int .i64 k, .int .i64 a, .int .i64 b, .int .i64 c], .int .i64 x] w fun e w' => e = .returned (.int .i64 v) ∧ Below w.heap.size w w' := by
  subst h; exact gateRun_any l k a b c x w
/-- what the walk needs of a word, its image and the words below 2 ^ n -/
structure RunF (n : Nat) (k : Int) (a b c x y P : Nat) : Prop where
  w : wrap64 (2 ^ n) = (P : Int)
  p : P ≤ 256
  v : ∀ j : Nat, wv (n : Int) (j : Int) = decide (j < P)
  vy : wv (n : Int) (y : Int) = true
  ry : gateRun n k a b c x = (y : Int)
  rx : gateRun n k a b c y = (x : Int)
  near : ones (x ^^^ y) ≤ 2
  other : ∀ j z : Nat, j < P → ¬ j = x → runG k a b c j = z → z ≠ y
theorem run_facts {n a b c : Nat} {k x : Int} (hn1 : 1 ≤ n) (hn8 : n ≤ 8) (ha : a < n) (hb : b < n) (hd : c < n) (hg : gateQ n k a b c = true) (hv : wv n x = true) : ∃ x' y P : Nat, x = (x' : Int) ∧ RunF n k a b c x' y P := by
  obtain ⟨hx0, hx1⟩ := wv_lt hv
  obtain ⟨x, rfl⟩ := Int.eq_ofNat_of_zero_le hx0
  have hxP : x < 2 ^ n := by rw [wv_nat hn1 hn8] at hv; simpa using hv
  have hyP := runG_lt (k := k) ha hb hd hxP
  have hP := pow_le8 hn8
  have hvy : wv n (runG k a b c x : Nat) = true := by rw [wv_nat hn1 hn8]; simpa using hyP
  have hx256 : x < 256 := Nat.lt_of_lt_of_le hxP hP
  refine ⟨x, runG k a b c x, 2 ^ n, rfl, wrap_pow8 hn8, hP, fun j => wv_nat hn1 hn8, hvy, gateRun_ok hg hv, ?_, near_all hg hx256, fun j z hj hne hz e => hne ?_⟩
  · rw [gateRun_ok hg hvy, undo_all hg hx256]
  · have h1 := undo_all hg (Nat.lt_of_lt_of_le hj hP)
    rw [hz, e, undo_all hg hx256] at h1
    exact h1.symm
set_option maxRecDepth 100000 in
set_option maxHeartbeats 8000000 in
theorem walk_FnGateRun (A : Option Addr) (n c : Nat) (zs : List Int) (w : World) (h : IRk .u8 w A n zs) (hz : ∀ z ∈ zs, (Lit.int .u8 z).wf = true) (hc : n ≤ c) :
    Calls Try.prog 8 #[.slice A n c] w fun e w' => e = .returned (.bool true) ∧ Below w.heap.size w w' := by
  have hmax := h.max
  by_cases hbig : 1048576 < n
  · clear h hz
    go_enter Try.func8, Try.ntmps8
    go_wp2_with fail
    go_ret
    exact ⟨rfl, Below.refl _ _⟩
  have H := hide (drawGateRun_b A n c zs w h hz hc)
  clear h hz
  go_enter Try.func8, Try.ntmps8
  go_wp2_with fail
  refine H.out.mono ?_
  rintro e w1 ⟨l, k, a, b, d, x, rfl, hl, hb1⟩
  have hs1 := hb1.size
  have X1 := hide (Box4.made w1 k a b d 33)
  have B1 := hide (hb1.alloc hs1 (.cells #[.int .i64 k, .int .i64 a, .int .i64 b, .int .i64 d] 33))
  clear hb1 hl
  by_cases hgv : gateQ l k a b d = true ∧ wv l x = true
  · obtain ⟨hg, hv⟩ := hgv
    obtain ⟨m, a, b, d, rfl, rfl, rfl, rfl, hn1, hn8, ha, hb, hd⟩ := natsG hg
    obtain ⟨x, y, P, rfl, hF⟩ := run_facts hn1 hn8 ha hb hd hg hv
    have hw := hF.w
    have hP := hF.p
    have HG := Lib.hid hg
    have HF := hide hF
    have HV := hide hF.v
    have HVy := Lib.hid hF.vy
    have HVx := Lib.hid hv
    have HY := Lib.hid hF.ry
    have HX2 := Lib.hid hF.rx
    have HN := hide hF.near
    clear hF hg hv ha hb hd
    have e1 : ((y : Int) != (y : Int)) = false := by simp
    go_wp2_with fail
    refine (gateRun_b y _ _ _ _ _ _ HY.out _).mono ?_
    rintro e w2 ⟨rfl, hb⟩
    have X2 := hide (X1.out.below hb)
    have B2 := hide (B1.out.trans (hb.mono B1.out.size))
    clear hb
    obtain ⟨xc0, xc1, xc2, xc3⟩ := X2.out
    go_wp2_with fail
    clear xc0 xc1 xc2 xc3
    refine (sGateRun_any _ _ _ _ _ _ _).mono ?_
    rintro e w3 ⟨rfl, hb⟩
    rw [HY.out]
    have X3 := hide (X2.out.below hb)
    have B3 := hide (B2.out.trans (hb.mono B2.out.size))
    clear hb
    go_wp2_with fail
    go_loopw [7] (fun iv wr => ∃ j : Nat, j ≤ P ∧ iv = .int .i64 j ∧ Hid (Below w.heap.size w wr) ∧ Hid (Box4 wr w1.heap.size k a b d)) (fun iv _ => P - (intOf iv).toNat)
    case atStart => exact ⟨0, by omega, rfl, B3.out, X3.out⟩
    case round =>
      obtain ⟨j, hj, rfl, HB, HX⟩ := hrel
      by_cases hlt : j < P
      · by_cases hjx : j = x
        · subst hjx
          have e2 : ((j : Int) != (j : Int)) = false := by simp
          go_wp2_with fail
          go_roundw
          case rel => exact ⟨j + 1, by omega, by go_num, HB, HX⟩
          case measure => simp [intOf]; omega
        · have e2 : ((j : Int) != (x : Int)) = true := by simp; omega
          obtain ⟨z, hz⟩ : ∃ z, runG k a b d j = z := ⟨_, rfl⟩
          have hzy := HF.out.other j z hlt hjx hz
          have e3 : ((z : Int) == (y : Int)) = false := by simp; omega
          have HZ := Lib.hid (show gateRun m k a b d j = (z : Int) by rw [gateRun_ok HG.out (by rw [HV.out]; simpa using hlt), hz])
          clear hz hzy hjx
          obtain ⟨c0, c1, c2, c3⟩ := HX.out
          go_wp2_with fail
          refine (gateRun_b z _ _ _ _ _ _ HZ.out _).mono ?_
          rintro e w9 ⟨rfl, hb9⟩
          have HB9 := hide (bseq HB.out hb9)
          have HX9 := hide (HX.out.below hb9)
          clear hb9 c0 c1 c2 c3
          go_wp2_with fail
          go_roundw
          case rel => exact ⟨j + 1, by omega, by go_num, HB9, HX9⟩
          case measure => simp [intOf]; omega
      · have e2 : ((x : Int) == (x : Int)) = true := by simp
        obtain ⟨N, hN⟩ : ∃ N, ones (x ^^^ y) = N := ⟨_, rfl⟩
        have HD := hide (differ_ok m x y HVx.out HVy.out)
        have hN2 := HN.out
        rw [hN] at HD hN2
        clear hN
        go_wp2_with fail
        refine (wordValid_b true _ _ HVy.out _).mono ?_
        rintro e w' ⟨rfl, rfl⟩
        obtain ⟨c0, c1, c2, c3⟩ := HX.out
        go_wp2_with fail
        refine (gateRun_b x _ _ _ _ _ _ HX2.out _).mono ?_
        rintro e w9 ⟨rfl, hb9⟩
        have HB9 := hide (bseq HB.out hb9)
        clear hb9 c0 c1 c2 c3
        go_wp2_with fail
        refine (HD.out _).mono ?_
        rintro e w' ⟨rfl, rfl⟩
        go_wp2_with fail
        go_ret
        exact ⟨by simp; try omega, HB9.out⟩
  · have HY := Lib.hid (show gateRun l k a b d x = -1 by rw [gateRun, if_neg hgv])
    clear hgv
    go_wp2_with fail
    refine (gateRun_b (-1) _ _ _ _ _ _ HY.out _).mono ?_
    rintro e w2 ⟨rfl, hb⟩
    have X2 := hide (X1.out.below hb)
    have B2 := hide (B1.out.trans (hb.mono B1.out.size))
    clear hb
    obtain ⟨xc0, xc1, xc2, xc3⟩ := X2.out
    go_wp2_with fail
    clear xc0 xc1 xc2 xc3
    refine (sGateRun_any _ _ _ _ _ _ _).mono ?_
    rintro e w3 ⟨rfl, hb⟩
    rw [HY.out]
    have X3 := hide (X2.out.below hb)
    have B3 := hide (B2.out.trans (hb.mono B2.out.size))
    clear hb
    go_wp2_with fail
    refine (alive_any _).mono ?_
    rintro e w' ⟨rfl, rfl⟩
    go_wp2_with fail
    go_ret
    exact ⟨by first | rfl | simp | (simp; omega), B3.out⟩
end Go.Proofs.Ytdkphnojloanoaa
