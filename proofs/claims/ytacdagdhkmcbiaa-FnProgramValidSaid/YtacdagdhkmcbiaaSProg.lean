/-
  ProgramValid of the reference.
  No condition.
-/
import Derived.Test.YtacdagdhkmcbiaaSOpen
namespace Go.Proofs.Ytacdagdhkmcbiaa
open Go.RowKit Go.Sort base
theorem allOk_succ {gs : List G4} {k : Nat} (h : k < gs.length) : (gs.take (k + 1)).all lineOk = ((gs.take k).all lineOk && lineOk (gth gs k)) := by
  rw [take_succ_gth h]; simp
theorem allOk_no {gs : List G4} {k : Nat} (hk : k < gs.length) (h : lineOk (gth gs k) = false) : gs.all lineOk = false := by
  rw [List.all_eq_false]; exact ⟨gth gs k, gth_mem hk, by simp [h]⟩
theorem progQ_no {gs : List G4} (h : gs.all lineOk = false) : progQ gs = false := by unfold progQ; rw [h]; simp
set_option maxRecDepth 100000 in
set_option maxHeartbeats 8000000 in
theorem sProgramValid_any (A : Option Addr) (n c : Nat) (gs : List G4) (w : World) (h : GR w A n gs) (hn : n ≤ 1048600) :
    Calls Try.prog 6 #[.slice A n c] w fun e w' => e = .returned (.bool (progQ gs)) ∧ Below w.heap.size w w' := by
  have H := hide h
  have HL := Lib.hid h.len
  clear h
  go_enter Try.func6, Try.ntmps6
  go_wp2_with fail
  go_loopw [3] (fun kv wr => ∃ j : Nat, kv = .int .i64 j ∧ j ≤ n ∧ Hid ((gs.take j).all lineOk = true) ∧ Hid (Below w.heap.size w wr)) (fun kv _ => n - (intOf kv).toNat)
  case atStart => exact ⟨0, rfl, by omega, rfl, Below.refl _ _⟩
  case round =>
    obtain ⟨j, rfl, hj, HA, HB⟩ := hrel
    by_cases hlt : j < n
    · have HR := hide (H.out.below HB.out)
      obtain ⟨b, o, rfl, hbl, hcc⟩ := HR.out.at_ (by omega)
      obtain ⟨g0, g1, g2, g3⟩ := hcc j hlt
      clear hcc
      cases hv : lineOk (gth gs j)
      all_goals
        have HV := Lib.hid (show lineQ (gth gs j).1 (gth gs j).2.1 (gth gs j).2.2.1 (gth gs j).2.2.2 = _ from hv)
        have HS := Lib.hid (allOk_succ (k := j) (gs := gs) (by rw [HL.out]; exact hlt))
        clear hv
        go_wp2_with fail
        refine (sLineValid_b _ _ _ _ _ HV.out _).mono ?_
        rintro e w1 ⟨rfl, hb1⟩
        have HB1 := hide (bseq HB.out hb1)
        clear hb1 g0 g1 g2 g3
        go_wp2_with fail
      · go_ret
        exact ⟨by rw [progQ_no (allOk_no (k := j) (by rw [HL.out]; exact hlt) HV.out)]; rfl, HB1.out⟩
      · go_roundw
        case rel => exact ⟨j + 1, by go_num, by omega, hide (by rw [HS.out, HA.out]; exact HV.out), HB1⟩
        case measure => simp [intOf]; omega
    · obtain rfl : j = n := by omega
      have HAll := Lib.hid (show gs.all lineOk = true by have := HA.out; rwa [List.take_of_length_le (by rw [HL.out]; exact Nat.le_refl _)] at this)
      go_wp2_with fail
      refine (l9Open_any A j c gs wr (H.out.below HB.out) hn).mono ?_
      rintro e w2 ⟨A2, m2, c2, b2, rfl, hm2, hq, hb2⟩
      have HB2 := hide (bseq HB.out hb2)
      have HQ := Lib.hid (show progQ gs = ((b2 && decide (m2 = 0)) && decide (j ≤ 16)) by unfold progQ; rw [HAll.out, HL.out, hq, Bool.and_true, Bool.and_comm])
      clear hq hb2
      cases b2
      · go_wp2_with fail
        go_ret
        exact ⟨by rw [HQ.out]; rfl, HB2.out⟩
      · by_cases hm0 : m2 = 0
        · have e0 : ((m2 : Int) == 0) = true := by rw [hm0]; rfl
          have e1 : decide ((j : Int) ≤ 16) = decide (j ≤ 16) := by rw [decide_eq_decide]; omega
          have HQ2 := Lib.hid (show progQ gs = decide (j ≤ 16) by rw [HQ.out, hm0]; rfl)
          clear hm0
          cases hj16 : decide (j ≤ 16)
          all_goals
            rw [hj16] at e1 HQ2
            clear hj16
            go_wp2_with fail
            go_ret
            exact ⟨by rw [HQ2.out]; rfl, HB2.out⟩
        · have e0 : ((m2 : Int) == 0) = false := by simp; omega
          have HQ2 := Lib.hid (show progQ gs = false by rw [HQ.out]; simp [hm0])
          clear hm0
          go_wp2_with fail
          go_ret
          exact ⟨by rw [HQ2.out]; rfl, HB2.out⟩
end Go.Proofs.Ytacdagdhkmcbiaa
