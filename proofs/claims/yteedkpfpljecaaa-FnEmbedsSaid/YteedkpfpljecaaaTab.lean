/-
  The table of a circuit, by the program and by the reference.
  No condition.
-/
import Derived.Test.YteedkpfpljecaaaCirc2
import Derived.Test.YteedkpfpljecaaaMoves
namespace Go.Proofs.Yteedkpfpljecaaa
open Go.RowKit Go.Sort base
def circF (gs : List G4) (x : Nat) : Int := (circN gs x : Nat)
def circTab (l : Int) (gs : List G4) : List Int := if circQ l gs = true then tab (2 ^ l.toNat) (circF gs) else []
theorem circTab_no {l : Int} {gs : List G4} (h : circQ l gs = false) : circTab l gs = [] := by unfold circTab; rw [if_neg (by rw [h]; simp)]
theorem circTab_ok {l : Int} {gs : List G4} (h : circQ l gs = true) : circTab l gs = tab (2 ^ l.toNat) (circF gs) := by unfold circTab; rw [if_pos h]
theorem circTab_len (l : Int) (gs : List G4) : (circTab l gs).length ≤ 256 := by
  cases h : circQ l gs
  · rw [circTab_no h]; simp
  · rw [circTab_ok h, tab_len]; exact pow8 (circQ_out h).1
set_option maxHeartbeats 4000000 in
theorem sTab_no (l : Int) (A : Option Addr) (n c : Nat) (gs : List G4) (w : World) (h : GR w A n gs) (hq : circQ l gs = false) :
    Calls Try.prog 42 #[.int .i64 l, .slice A n c] w (RInts w []) := by
  have HR0 := hide h
  have HQ := Lib.hid hq
  clear h hq
  have O0 := hide (Own.nil0 w w.heap.size (Nat.le_refl _))
  have B0 := hide (show Below w.heap.size w (w.alloc (.cells #[] 3)) by go_grown)
  have HR1 := hide (HR0.out.below B0.out)
  rcases (show l < 0 ∨ l = 0 ∨ (1 ≤ l ∧ l ≤ 8) ∨ 9 ≤ l by omega) with hl | hl | hl | hl
  · skip
    go_enter Try.func42, Try.ntmps42
    go_wp2_with fail
    go_loopw [5, 6] (fun vv iv wr => vv = .slice (some ⟨w.heap.size, 0, none⟩) 0 0 ∧ iv = .int .i64 0 ∧ wr = w.alloc (.cells #[] 3)) (fun _ _ _ => 0)
    case atStart => exact ⟨rfl, rfl, rfl⟩
    case round =>
      obtain ⟨rfl, rfl, rfl⟩ := hrel
      go_wp2_with fail
      refine (sCircuitValid_b false _ A n c gs _ HR1.out HQ.out).mono ?_
      rintro e w2 ⟨rfl, hb2⟩
      have B2 := hide (B0.out.trans (hb2.mono B0.out.size))
      have O2 := hide (O0.out.below hb2)
      clear hb2
      go_wp2_with fail
      go_ret
      exact ⟨⟨_, rfl, O2.out⟩, B2.out⟩
  · subst hl
    go_enter Try.func42, Try.ntmps42
    go_wp2_with fail
    go_loopw [5, 6] (fun vv iv wr => vv = .slice (some ⟨w.heap.size, 0, none⟩) 0 0 ∧ iv = .int .i64 0 ∧ wr = w.alloc (.cells #[] 3)) (fun _ _ _ => 0)
    case atStart => exact ⟨rfl, rfl, rfl⟩
    case round =>
      obtain ⟨rfl, rfl, rfl⟩ := hrel
      go_wp2_with fail
      refine (sCircuitValid_b false _ A n c gs _ HR1.out HQ.out).mono ?_
      rintro e w2 ⟨rfl, hb2⟩
      have B2 := hide (B0.out.trans (hb2.mono B0.out.size))
      have O2 := hide (O0.out.below hb2)
      clear hb2
      go_wp2_with fail
      go_ret
      exact ⟨⟨_, rfl, O2.out⟩, B2.out⟩
  · obtain ⟨m, rfl⟩ := Int.eq_ofNat_of_zero_le (show 0 ≤ l by omega)
    have hm1 : 1 ≤ m := by omega
    have hm8 : m ≤ 8 := by omega
    have hw := wrap_pow8 hm8
    have hpos : 0 < 2 ^ m := Nat.two_pow_pos m
    obtain ⟨P, hP⟩ : ∃ P : Nat, 2 ^ m = P := ⟨_, rfl⟩
    rw [hP] at hw hpos
    clear hP hl
    go_enter Try.func42, Try.ntmps42
    go_wp2_with fail
    go_loopw [5, 6] (fun vv iv wr => vv = .slice (some ⟨w.heap.size, 0, none⟩) 0 0 ∧ iv = .int .i64 0 ∧ wr = w.alloc (.cells #[] 3)) (fun _ _ _ => 0)
    case atStart => exact ⟨rfl, rfl, rfl⟩
    case round =>
      obtain ⟨rfl, rfl, rfl⟩ := hrel
      go_wp2_with fail
      refine (sCircuitValid_b false _ A n c gs _ HR1.out HQ.out).mono ?_
      rintro e w2 ⟨rfl, hb2⟩
      have B2 := hide (B0.out.trans (hb2.mono B0.out.size))
      have O2 := hide (O0.out.below hb2)
      clear hb2
      go_wp2_with fail
      go_ret
      exact ⟨⟨_, rfl, O2.out⟩, B2.out⟩
  · have h256 : wrap64 256 = 256 := by decide +kernel
    go_enter Try.func42, Try.ntmps42
    go_wp2_with fail
    go_loopw [5, 6] (fun vv iv wr => vv = .slice (some ⟨w.heap.size, 0, none⟩) 0 0 ∧ iv = .int .i64 0 ∧ wr = w.alloc (.cells #[] 3)) (fun _ _ _ => 0)
    case atStart => exact ⟨rfl, rfl, rfl⟩
    case round =>
      obtain ⟨rfl, rfl, rfl⟩ := hrel
      go_wp2_with fail
      refine (sCircuitValid_b false _ A n c gs _ HR1.out HQ.out).mono ?_
      rintro e w2 ⟨rfl, hb2⟩
      have B2 := hide (B0.out.trans (hb2.mono B0.out.size))
      have O2 := hide (O0.out.below hb2)
      clear hb2
      go_wp2_with fail
      go_ret
      exact ⟨⟨_, rfl, O2.out⟩, B2.out⟩
set_option maxHeartbeats 4000000 in
theorem sTab_ok (l : Int) (A : Option Addr) (n c : Nat) (gs : List G4) (w : World) (h : GR w A n gs) (hq : circQ l gs = true) :
    Calls Try.prog 42 #[.int .i64 l, .slice A n c] w (RInts w (tab (2 ^ l.toNat) (circF gs))) := by
  obtain ⟨q1, q2, q3⟩ := circQ_out hq
  obtain ⟨hl1, hl2⟩ := lnOk_iff.1 q1
  obtain ⟨m, rfl⟩ := Int.eq_ofNat_of_zero_le (show 0 ≤ l by omega)
  have hm1 : 1 ≤ m := by omega
  have hm8 : m ≤ 8 := by omega
  have HR0 := hide h
  have HQ := Lib.hid hq
  have HL := Lib.hid q1
  have HA := Lib.hid q3
  have hw := wrap_pow8 hm8
  have hP8 := pow_le8 hm8
  have HX := hide (show ∀ x : Nat, x < 2 ^ m → x < 2 ^ ((m : Int)).toNat by intro x hx; simpa using hx)
  have HPe := Lib.hid (show 2 ^ ((m : Int)).toNat = 2 ^ m by simp)
  obtain ⟨P, hP⟩ : ∃ P : Nat, 2 ^ m = P := ⟨_, rfl⟩
  rw [hP] at hw hP8 HX HPe
  clear h hq q1 q2 q3 hl1 hl2 hP
  rw [HPe.out]
  have O0 := hide (Own.nil0 w w.heap.size (Nat.le_refl _))
  have B0 := hide (show Below w.heap.size w (w.alloc (.cells #[] 3)) by go_grown)
  go_enter Try.func42, Try.ntmps42
  go_wp2_with fail
  go_loopw [5, 6] (fun vv iv wr => ∃ (V : Value) (j : Nat), V = vv ∧ j ≤ P ∧ iv = .int .i64 j ∧ Hid (Own wr w.heap.size vv (tab j (circF gs))) ∧ Hid (Below w.heap.size w wr)) (fun _ iv _ => P - (intOf iv).toNat)
  case atStart => exact ⟨_, 0, rfl, by omega, rfl, O0.out, B0.out⟩
  case round =>
    obtain ⟨V, j, rfl, hj, rfl, HO, HB⟩ := hrel
    by_cases hlt : j < P
    · go_wp2_with fail
      refine (sCircuitValid_b true _ A n c gs _ (HR0.out.below HB.out) HQ.out).mono ?_
      rintro e w2 ⟨rfl, hb2⟩
      have B2 := hide (bseq HB.out hb2)
      have O2 := hide (HO.out.below hb2)
      clear hb2
      go_wp2_with fail
      refine (l2Run_any _ A n c gs j _ (HR0.out.below B2.out) HL.out HA.out (HX.out j hlt)).mono ?_
      rintro e w3 ⟨rfl, hb3⟩
      have B3 := hide (bseq B2.out hb3)
      have O3 := hide (O2.out.below hb3)
      have hs3 := B3.out.size
      clear hb3
      have HT := Lib.hid (tab_succ j (circF gs))
      have HTL := Lib.hid (tab_len j (circF gs))
      go_wp2_with (at_builtin; refine wpList_append1 O3.out (.tmp 21) (.tmp 26) (by rfl) rfl rfl rfl (by rw [HTL.out]; omega) hs3 ?_; intro v4 w4 ho4 hb4 _ _)
      go_roundw
      case rel => exact ⟨_, j + 1, rfl, by omega, by go_num, by rw [HT.out]; exact ho4, B3.out.trans hb4⟩
      case measure => simp [intOf]; omega
    · obtain rfl : j = P := by omega
      go_wp2_with fail
      go_ret
      exact ⟨⟨_, rfl, HO.out⟩, HB.out⟩
theorem sTab_any (l : Int) (A : Option Addr) (n c : Nat) (gs : List G4) (w : World) (h : GR w A n gs) :
    Calls Try.prog 42 #[.int .i64 l, .slice A n c] w (RInts w (circTab l gs)) := by
  cases hq : circQ l gs
  · rw [circTab_no hq]; exact sTab_no l A n c gs w h hq
  · rw [circTab_ok hq]; exact sTab_ok l A n c gs w h hq
end Go.Proofs.Yteedkpfpljecaaa
