/-
  The walk of the law FnExactCircuitRun: it returns true at every input, and turns nothing that was there.
  No condition.
-/
import Derived.Test.YtefndlmbidiodaaCircLaw
namespace Go.Proofs.Ytefndlmbidiodaa
open Go.RowKit Go.Sort base
set_option maxHeartbeats 4000000 in
theorem walk_FnExactCircuitRun (l : Int) (A : Option Addr) (n c : Nat) (gs : List G4) (x : Int) (w : World) (_ : (Lit.int .i64 l).wf = true) (h : GR w A n gs) (_ : n ≤ c) (_ : (Lit.int .i64 x).wf = true) :
    Calls Try.prog 6 #[.int .i64 l, .slice A n c, .int .i64 x] w fun e w' => e = .returned (.bool true) ∧ Below w.heap.size w w' := by
  have HR0 := hide h
  have hmax := h.max
  have hlen := Lib.hid h.len
  clear h
  obtain ⟨v, hv⟩ : ∃ v, circRun l gs x = v := ⟨_, rfl⟩
  have HS := hide (fun A n c W h => sCircuitRun_any l A n c gs x W h)
  have HI := hide (fun A n c W h => circuitRun_any l A n c gs x W h)
  rw [hv] at HS HI
  clear hv
  have e1 : (v != v) = false := by simp
  have HZ := hide (szGateS_any A n c 1048576 w (by omega) hmax)
  by_cases hbig : 1048576 < n
  · have hz : (if (1048576 : Int) < n then -1 else 1048576 - (n : Int)) = -1 := by rw [if_pos (by omega)]
    rw [hz] at HZ
    clear hz
    go_enter Try.func6, Try.ntmps6
    go_wp2_with fail
    refine HZ.out.mono ?_
    rintro e w' ⟨rfl, rfl⟩
    go_wp2_with fail
    go_ret
    exact ⟨rfl, Below.refl _ _⟩
  · have hz : (if (1048576 : Int) < n then -1 else 1048576 - (n : Int)) = 1048576 - (n : Int) := by rw [if_neg (by omega)]
    rw [hz] at HZ
    clear hz
    go_enter Try.func6, Try.ntmps6
    go_wp2_with fail
    refine HZ.out.mono ?_
    rintro e w' ⟨rfl, rfl⟩
    go_wp2_with fail
    refine (toGateS_any A n c gs _ HR0.out (by omega)).mono ?_
    rintro e w1 ⟨⟨g1, rfl, hg1, hl1⟩, hb1⟩
    have R1 := hide (hl1.gr hlen.out (by omega))
    have B1 := hide hb1
    clear hl1 hb1
    go_wp2_with fail
    refine (HS.out _ _ _ _ R1.out).mono ?_
    rintro e w2 ⟨rfl, hb2⟩
    have B2 := hide (bseq B1.out hb2)
    clear hb2
    go_wp2_with fail
    refine (toGateS_any A n c gs _ (HR0.out.below B2.out) (by omega)).mono ?_
    rintro e w3 ⟨⟨g2, rfl, hg2, hl2⟩, hb3⟩
    have R2 := hide (hl2.gr hlen.out (by omega))
    have B3 := hide (bseq B2.out hb3)
    clear hl2 hb3
    go_wp2_with fail
    refine (HI.out _ _ _ _ R2.out).mono ?_
    rintro e w4 ⟨rfl, hb4⟩
    have R2' := hide (R2.out.below hb4)
    have B4 := hide (bseq B3.out hb4)
    clear hb4
    go_wp2_with fail
    refine (toGateS_any A n c gs _ (HR0.out.below B4.out) (by omega)).mono ?_
    rintro e w5 ⟨⟨g3, rfl, hg3, hl3⟩, hb5⟩
    have R3 := hide (hl3.gr hlen.out (by omega))
    have R2'' := hide (R2'.out.below hb5)
    have B5 := hide (bseq B4.out hb5)
    clear hl3 hb5
    go_wp2_with fail
    refine (eqGateS_same _ _ n n n gs _ R2''.out R3.out).mono ?_
    rintro e w6 ⟨rfl, hb6⟩
    have B6 := hide (bseq B5.out hb6)
    clear hb6
    go_wp2_with fail
    go_ret
    exact ⟨rfl, B6.out⟩
end Go.Proofs.Ytefndlmbidiodaa
