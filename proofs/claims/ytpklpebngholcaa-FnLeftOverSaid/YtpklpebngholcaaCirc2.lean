/-
  Circuits by the program: which are valid; what one makes of a word.
  No condition.
-/
import Derived.Test.YtpklpebngholcaaCirc
namespace Go.Proofs.Ytpklpebngholcaa
open Go.RowKit Go.Sort base
def badGate (l : Int) (g : G4) : Bool := !gateOk l g
theorem any_take_succ_g {gs : List G4} {k : Nat} (p : G4 → Bool) (h : k < gs.length) : (gs.take (k + 1)).any p = ((gs.take k).any p || p (gth gs k)) := by
  rw [take_succ_gth h]; simp
theorem any_of_gth {gs : List G4} {k : Nat} (p : G4 → Bool) (h : k < gs.length) (hp : p (gth gs k) = true) : gs.any p = true := by
  rw [List.any_eq_true]; exact ⟨gth gs k, gth_mem h, hp⟩
set_option maxHeartbeats 4000000 in
theorem runAll_any (l : Int) (A : Option Addr) (n c : Nat) (gs : List G4) (x : Nat) (w : World) (h : GR w A n gs) (ha : gs.all (gateOk l) = true) (hx : x < 2 ^ l.toNat) :
    Calls Try.prog 31 #[.slice A n c, .int .i64 x] w fun e w' => e = .returned (.int .i64 (circN gs x : Nat)) ∧ Below w.heap.size w w' := by
  have HR0 := hide h
  have hmax := h.max
  have HLen := Lib.hid h.len
  have HAll := Lib.hid ha
  have HX := hide hx
  clear h ha hx
  go_enter Try.func31, Try.ntmps31
  go_wp2_with fail
  go_loopw [1, 9] (fun xv iv wr => ∃ (j y : Nat), j ≤ n ∧ iv = .int .i64 j ∧ xv = .int .i64 y ∧ Hid (y = circN (gs.take j) x) ∧ Hid (Below w.heap.size w wr)) (fun _ iv _ => n - (intOf iv).toNat)
  case atStart => exact ⟨0, x, by omega, rfl, rfl, rfl, Below.refl _ _⟩
  case round =>
    obtain ⟨j, y, hj, rfl, rfl, HY, HB⟩ := hrel
    have HR := hide (HR0.out.below HB.out)
    by_cases hlt : j < n
    · obtain ⟨b, o, rfl, hbl, hcc⟩ := HR.out.at_ (by omega)
      obtain ⟨g0, g1, g2, g3⟩ := hcc j hlt
      clear hcc
      have hall := HAll.out
      have HOk := Lib.hid (show gateOk l (gth gs j) = true by rw [List.all_eq_true] at hall; exact hall _ (gth_mem (by rw [HLen.out]; exact hlt)))
      have HTk := Lib.hid (show (gs.take j).all (gateOk l) = true by rw [List.all_eq_true] at hall ⊢; exact fun g hg => hall g (List.mem_of_mem_take hg))
      have HYl := hide (show y < 2 ^ l.toNat by rw [HY.out]; exact circN_lt _ _ HTk.out HX.out)
      obtain ⟨z, hz⟩ : ∃ z : Nat, runG (gth gs j).1 (gth gs j).2.1.toNat (gth gs j).2.2.1.toNat (gth gs j).2.2.2.toNat y = z := ⟨_, rfl⟩
      have HZ := Lib.hid hz
      have HS := Lib.hid (show z = circN (gs.take (j + 1)) x by rw [take_succ_gth (by rw [HLen.out]; exact hlt), circN_snoc, ← HY.out, hz])
      clear hall hz
      have hs := HB.out.size
      go_wp2_with fail
      refine calls_named fun u hu => ?_
      have HBu := hide (show Below w.heap.size w u by rw [← hu]; exact HB.out.alloc hs _)
      clear hu
      refine (run_i z l _ _ _ _ y HOk.out HYl.out HZ.out _).mono ?_
      rintro e w1 ⟨rfl, hb1⟩
      have HB1 := hide (bseq HBu.out hb1)
      clear hb1 g0 g1 g2 g3
      go_wp2_with fail
      go_roundw
      case rel => exact ⟨j + 1, z, by omega, by go_num, rfl, HS.out, HB1.out⟩
      case measure => simp [intOf]; omega
    · obtain rfl : j = n := by omega
      have HE := Lib.hid (show y = circN gs x by have := HY.out; rwa [List.take_of_length_le (by rw [HLen.out]; omega)] at this)
      go_wp2_with fail
      go_ret
      exact ⟨by rw [← HE.out]; rfl, HB.out⟩
end Go.Proofs.Ytpklpebngholcaa
