/-
  The walk of the law FnGateMoves: it returns true at every input, and turns nothing that was there.
  No condition.
-/
import Derived.Test.YtdkphnojloanoaaDrawGates
import Derived.Test.YtdkphnojloanoaaGateLaw2
import Derived.Test.YtdkphnojloanoaaMoves
namespace Go.Proofs.Ytdkphnojloanoaa
open Go.RowKit Go.Sort base
theorem gateMoves_b (v : Int) (l k a b c : Int) (h : gateMoves l k a b c = v) (w : World) :
    Calls Try.prog 27 #[.int .i64 l, .agg #[.int .i64 k, .int .i64 a, .int .i64 b, .int .i64 c]] w fun e w' => e = .returned (.int .i64 v) ∧ Below w.heap.size w w' := by subst h; exact gateMoves_any l k a b c w
theorem sGateMoves_b (v : Int) (l k a b c : Int) (h : gateMoves l k a b c = v) (w : World) :
    Calls Try.prog 28 #[.int .i64 l, .agg #[.int .i64 k, .int .i64 a, .int .i64 b, .int .i64 c]] w fun e w' => e = .returned (.int .i64 v) ∧ Below w.heap.size w w' := by subst h; exact sGateMoves_any l k a b c w
theorem gateMoves_is {n a b c : Nat} {k : Int} (h : gateQ n k a b c = true) : gateMoves n k a b c = (moved n k : Nat) := by
  rw [gateMoves_ok h, show movesTo k a b c (2 ^ n) = movesN k a b c (2 ^ n) from rfl, moves_all h]
set_option maxRecDepth 100000 in
set_option maxHeartbeats 8000000 in
theorem walk_FnGateMoves (A : Option Addr) (n c : Nat) (zs : List Int) (w : World) (h : IRk .u8 w A n zs) (hz : ∀ z ∈ zs, (Lit.int .u8 z).wf = true) (hc : n ≤ c) :
    Calls Try.prog 6 #[.slice A n c] w fun e w' => e = .returned (.bool true) ∧ Below w.heap.size w w' := by
  have hmax := h.max
  by_cases hbig : 1048576 < n
  · clear h hz
    go_enter Try.func6, Try.ntmps6
    go_wp2_with fail
    go_ret
    exact ⟨rfl, Below.refl _ _⟩
  have H := hide (drawGateMoves_b A n c zs w h hz hc)
  clear h hz
  go_enter Try.func6, Try.ntmps6
  go_wp2_with fail
  refine H.out.mono ?_
  rintro e w1 ⟨l, k, a, b, d, rfl, hl, hb1⟩
  have hs1 := hb1.size
  have X1 := hide (Box4.made w1 k a b d 33)
  have B1 := hide (hb1.alloc hs1 (.cells #[.int .i64 k, .int .i64 a, .int .i64 b, .int .i64 d] 33))
  clear hb1 hl
  cases hg : gateQ l k a b d
  · have HM := Lib.hid (gateMoves_no hg)
    clear hg
    go_wp2_with fail
    refine (gateMoves_b (-1) l k a b d HM.out _).mono ?_
    rintro e w2 ⟨rfl, hb⟩
    have X2 := hide (X1.out.below hb)
    have B2 := hide (B1.out.trans (hb.mono B1.out.size))
    clear hb
    obtain ⟨xc0, xc1, xc2, xc3⟩ := X2.out
    go_wp2_with fail
    clear xc0 xc1 xc2 xc3
    refine (sGateMoves_b (-1) l k a b d HM.out _).mono ?_
    rintro e w3 ⟨rfl, hb⟩
    have X3 := hide (X2.out.below hb)
    have B3 := hide (B2.out.trans (hb.mono B2.out.size))
    clear hb
    go_wp2_with fail
    refine (alive_any _).mono ?_
    rintro e w' ⟨rfl, rfl⟩
    go_wp2_with fail
    go_ret
    exact ⟨by first | rfl | simp | (simp; omega), B3.out⟩
  · have HK := Lib.hid (gateQ_kind hg)
    obtain ⟨m, a, b, d, rfl, rfl, rfl, rfl, hn1, hn8, ha, hb, hd⟩ := natsG hg
    have HM := Lib.hid (gateMoves_is hg)
    have hw := wrap_pow8 hn8
    have hP := pow_le8 hn8
    clear hg ha hb hd
    obtain ⟨P, hPP⟩ : ∃ P : Nat, 2 ^ m = P := ⟨_, rfl⟩
    unfold moved at HM
    rw [hPP] at hw hP HM
    clear hPP
    rcases kind_cases HK.out with rfl | rfl | rfl | rfl | rfl
    · have HV := Lib.hid (show gateMoves m 0 a b d = (P : Int) by rw [HM.out]; rfl)
      clear HM HK
      have e1 : ((P : Int) != (P : Int)) = false := by simp
      have e2 : ¬ ((P : Int) < 0) := by omega
      go_wp2_with fail
      refine (gateMoves_b (P : Int) _ _ _ _ _ HV.out _).mono ?_
      rintro e w2 ⟨rfl, hb⟩
      have X2 := hide (X1.out.below hb)
      have B2 := hide (B1.out.trans (hb.mono B1.out.size))
      clear hb
      obtain ⟨xc0, xc1, xc2, xc3⟩ := X2.out
      go_wp2_with fail
      clear xc0 xc1 xc2 xc3
      refine (sGateMoves_b (P : Int) _ _ _ _ _ HV.out _).mono ?_
      rintro e w3 ⟨rfl, hb⟩
      have X3 := hide (X2.out.below hb)
      have B3 := hide (B2.out.trans (hb.mono B2.out.size))
      clear hb
      obtain ⟨xc0, xc1, xc2, xc3⟩ := X3.out
      have hlt3 := X3.out.lt
      go_wp2_with fail
      go_ret
      exact ⟨by simp, by first | exact B3.out | exact B3.out.alloc B3.out.size _⟩
    · have HV := Lib.hid (show gateMoves m 1 a b d = ((P / 2 : Nat) : Int) by rw [HM.out]; rfl)
      clear HM HK
      have e1 : (((P / 2 : Nat) : Int) != ((P / 2 : Nat) : Int)) = false := by simp
      have e2 : ¬ (((P / 2 : Nat) : Int) < 0) := by omega
      go_wp2_with fail
      refine (gateMoves_b (P / 2 : Nat) _ _ _ _ _ HV.out _).mono ?_
      rintro e w2 ⟨rfl, hb⟩
      have X2 := hide (X1.out.below hb)
      have B2 := hide (B1.out.trans (hb.mono B1.out.size))
      clear hb
      obtain ⟨xc0, xc1, xc2, xc3⟩ := X2.out
      go_wp2_with fail
      clear xc0 xc1 xc2 xc3
      refine (sGateMoves_b (P / 2 : Nat) _ _ _ _ _ HV.out _).mono ?_
      rintro e w3 ⟨rfl, hb⟩
      have X3 := hide (X2.out.below hb)
      have B3 := hide (B2.out.trans (hb.mono B2.out.size))
      clear hb
      obtain ⟨xc0, xc1, xc2, xc3⟩ := X3.out
      have hlt3 := X3.out.lt
      go_wp2_with fail
      go_ret
      exact ⟨by simp, by first | exact B3.out | exact B3.out.alloc B3.out.size _⟩
    · have HV := Lib.hid (show gateMoves m 2 a b d = ((P / 4 : Nat) : Int) by rw [HM.out]; rfl)
      clear HM HK
      have e1 : (((P / 4 : Nat) : Int) != ((P / 4 : Nat) : Int)) = false := by simp
      have e2 : ¬ (((P / 4 : Nat) : Int) < 0) := by omega
      go_wp2_with fail
      refine (gateMoves_b (P / 4 : Nat) _ _ _ _ _ HV.out _).mono ?_
      rintro e w2 ⟨rfl, hb⟩
      have X2 := hide (X1.out.below hb)
      have B2 := hide (B1.out.trans (hb.mono B1.out.size))
      clear hb
      obtain ⟨xc0, xc1, xc2, xc3⟩ := X2.out
      go_wp2_with fail
      clear xc0 xc1 xc2 xc3
      refine (sGateMoves_b (P / 4 : Nat) _ _ _ _ _ HV.out _).mono ?_
      rintro e w3 ⟨rfl, hb⟩
      have X3 := hide (X2.out.below hb)
      have B3 := hide (B2.out.trans (hb.mono B2.out.size))
      clear hb
      obtain ⟨xc0, xc1, xc2, xc3⟩ := X3.out
      have hlt3 := X3.out.lt
      go_wp2_with fail
      go_ret
      exact ⟨by simp, by first | exact B3.out | exact B3.out.alloc B3.out.size _⟩
    · have HV := Lib.hid (show gateMoves m 3 a b d = ((P / 2 : Nat) : Int) by rw [HM.out]; rfl)
      clear HM HK
      have e1 : (((P / 2 : Nat) : Int) != ((P / 2 : Nat) : Int)) = false := by simp
      have e2 : ¬ (((P / 2 : Nat) : Int) < 0) := by omega
      go_wp2_with fail
      refine (gateMoves_b (P / 2 : Nat) _ _ _ _ _ HV.out _).mono ?_
      rintro e w2 ⟨rfl, hb⟩
      have X2 := hide (X1.out.below hb)
      have B2 := hide (B1.out.trans (hb.mono B1.out.size))
      clear hb
      obtain ⟨xc0, xc1, xc2, xc3⟩ := X2.out
      go_wp2_with fail
      clear xc0 xc1 xc2 xc3
      refine (sGateMoves_b (P / 2 : Nat) _ _ _ _ _ HV.out _).mono ?_
      rintro e w3 ⟨rfl, hb⟩
      have X3 := hide (X2.out.below hb)
      have B3 := hide (B2.out.trans (hb.mono B2.out.size))
      clear hb
      obtain ⟨xc0, xc1, xc2, xc3⟩ := X3.out
      have hlt3 := X3.out.lt
      go_wp2_with fail
      go_ret
      exact ⟨by simp, by first | exact B3.out | exact B3.out.alloc B3.out.size _⟩
    · have HV := Lib.hid (show gateMoves m 4 a b d = ((P / 4 : Nat) : Int) by rw [HM.out]; rfl)
      clear HM HK
      have e1 : (((P / 4 : Nat) : Int) != ((P / 4 : Nat) : Int)) = false := by simp
      have e2 : ¬ (((P / 4 : Nat) : Int) < 0) := by omega
      go_wp2_with fail
      refine (gateMoves_b (P / 4 : Nat) _ _ _ _ _ HV.out _).mono ?_
      rintro e w2 ⟨rfl, hb⟩
      have X2 := hide (X1.out.below hb)
      have B2 := hide (B1.out.trans (hb.mono B1.out.size))
      clear hb
      obtain ⟨xc0, xc1, xc2, xc3⟩ := X2.out
      go_wp2_with fail
      clear xc0 xc1 xc2 xc3
      refine (sGateMoves_b (P / 4 : Nat) _ _ _ _ _ HV.out _).mono ?_
      rintro e w3 ⟨rfl, hb⟩
      have X3 := hide (X2.out.below hb)
      have B3 := hide (B2.out.trans (hb.mono B2.out.size))
      clear hb
      obtain ⟨xc0, xc1, xc2, xc3⟩ := X3.out
      have hlt3 := X3.out.lt
      go_wp2_with fail
      go_ret
      exact ⟨by simp, by first | exact B3.out | exact B3.out.alloc B3.out.size _⟩
end Go.Proofs.Ytdkphnojloanoaa
