/-
  The walk of the law FnExactProgramValid: it returns true at every input, and turns nothing that was there.
  No condition.
-/
import Derived.Test.YtacdagdhkmcbiaaIProg
namespace Go.Proofs.Ytacdagdhkmcbiaa
open Go.RowKit Go.Sort base
set_option maxHeartbeats 4000000 in
theorem walk_FnExactProgramValid (A : Option Addr) (n c : Nat) (gs : List G4) (w : World) (h : GR w A n gs) (_ : n ≤ c) :
    Calls Try.prog 3 #[.slice A n c] w fun e w' => e = .returned (.bool true) ∧ Below w.heap.size w w' := by
  have HR0 := hide h
  have hmax := h.max
  have hlen := Lib.hid h.len
  clear h
  have HS := hide (fun A n c W h hn => sProgramValid_any A n c gs W h hn)
  have HI := hide (fun A n c W h => programValid_any A n c gs W h)
  obtain ⟨q, hq⟩ : ∃ q, progQ gs = q := ⟨_, rfl⟩
  rw [hq] at HS HI
  clear hq
  have HZ := hide (szLineS_any A n c 1048576 w (by omega) hmax)
  by_cases hbig : 1048576 < n
  · have hz : (if (1048576 : Int) < n then -1 else 1048576 - (n : Int)) = -1 := by rw [if_pos (by omega)]
    rw [hz] at HZ
    clear hz
    go_enter Try.func3, Try.ntmps3
    go_wp2_with fail
    refine HZ.out.mono ?_
    rintro e w' ⟨rfl, rfl⟩
    go_wp2_with fail
    go_ret
    exact ⟨rfl, Below.refl _ _⟩
  have hz : (if (1048576 : Int) < n then -1 else 1048576 - (n : Int)) = 1048576 - (n : Int) := by rw [if_neg (by omega)]
  rw [hz] at HZ
  clear hz
  cases q
  · go_enter Try.func3, Try.ntmps3
    go_wp2_with fail
    refine HZ.out.mono ?_
    rintro e w' ⟨rfl, rfl⟩
    have B0 := hide (Below.refl w.heap.size w)
    go_wp2_with fail
    refine (toLineS_any A n c gs _ (HR0.out.below B0.out) (by omega)).mono ?_
    rintro e w1 ⟨⟨ga, rfl, loa, hl⟩, hb1⟩
    have B1 := hide (bseq B0.out hb1)
    have Ra := hide (hl.gr hlen.out (by omega))
    clear hl hb1
    go_wp2_with fail
    refine (HS.out _ _ _ _ Ra.out (by omega)).mono ?_
    rintro e w2 ⟨rfl, hb2⟩
    have B2 := hide (bseq B1.out hb2)
    clear hb2
    go_wp2_with fail
    refine (toLineS_any A n c gs _ (HR0.out.below B2.out) (by omega)).mono ?_
    rintro e w3 ⟨⟨gb, rfl, lob, hl⟩, hb3⟩
    have B3 := hide (bseq B2.out hb3)
    have Rb := hide (hl.gr hlen.out (by omega))
    clear hl hb3
    go_wp2_with fail
    refine (HI.out _ _ _ _ Rb.out).mono ?_
    rintro e w4 ⟨rfl, hb4⟩
    have B4 := hide (bseq B3.out hb4)
    have Rb_4 := hide (Rb.out.below hb4)
    clear hb4
    go_wp2_with fail
    refine (toLineS_any A n c gs _ (HR0.out.below B4.out) (by omega)).mono ?_
    rintro e w6 ⟨⟨gd, rfl, lod, hl⟩, hb6⟩
    have B6 := hide (bseq B4.out hb6)
    have Rb_6 := hide (Rb_4.out.below hb6)
    have Rd := hide (hl.gr hlen.out (by omega))
    clear hl hb6
    go_wp2_with fail
    refine (eqLineS_same _ _ n n n gs _ Rb_6.out Rd.out).mono ?_
    rintro e w7 ⟨rfl, hb7⟩
    have B7 := hide (bseq B6.out hb7)
    clear hb7
    go_wp2_with fail
    go_ret
    exact ⟨rfl, B7.out⟩
  · go_enter Try.func3, Try.ntmps3
    go_wp2_with fail
    refine HZ.out.mono ?_
    rintro e w' ⟨rfl, rfl⟩
    have B0 := hide (Below.refl w.heap.size w)
    go_wp2_with fail
    refine (toLineS_any A n c gs _ (HR0.out.below B0.out) (by omega)).mono ?_
    rintro e w1 ⟨⟨ga, rfl, loa, hl⟩, hb1⟩
    have B1 := hide (bseq B0.out hb1)
    have Ra := hide (hl.gr hlen.out (by omega))
    clear hl hb1
    go_wp2_with fail
    refine (HS.out _ _ _ _ Ra.out (by omega)).mono ?_
    rintro e w2 ⟨rfl, hb2⟩
    have B2 := hide (bseq B1.out hb2)
    clear hb2
    go_wp2_with fail
    refine (toLineS_any A n c gs _ (HR0.out.below B2.out) (by omega)).mono ?_
    rintro e w3 ⟨⟨gb, rfl, lob, hl⟩, hb3⟩
    have B3 := hide (bseq B2.out hb3)
    have Rb := hide (hl.gr hlen.out (by omega))
    clear hl hb3
    go_wp2_with fail
    refine (HI.out _ _ _ _ Rb.out).mono ?_
    rintro e w4 ⟨rfl, hb4⟩
    have B4 := hide (bseq B3.out hb4)
    have Rb_4 := hide (Rb.out.below hb4)
    clear hb4
    go_wp2_with fail
    refine (toLineS_any A n c gs _ (HR0.out.below B4.out) (by omega)).mono ?_
    rintro e w6 ⟨⟨gd, rfl, lod, hl⟩, hb6⟩
    have B6 := hide (bseq B4.out hb6)
    have Rb_6 := hide (Rb_4.out.below hb6)
    have Rd := hide (hl.gr hlen.out (by omega))
    clear hl hb6
    go_wp2_with fail
    refine (eqLineS_same _ _ n n n gs _ Rb_6.out Rd.out).mono ?_
    rintro e w7 ⟨rfl, hb7⟩
    have B7 := hide (bseq B6.out hb7)
    clear hb7
    go_wp2_with fail
    go_ret
    exact ⟨rfl, B7.out⟩
end Go.Proofs.Ytacdagdhkmcbiaa
