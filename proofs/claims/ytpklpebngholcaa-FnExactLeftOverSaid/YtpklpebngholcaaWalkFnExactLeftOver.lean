/-
  The walk of the law FnExactLeftOver: it returns true at every input, and turns nothing that was there.
  No condition.
-/
import Derived.Test.YtpklpebngholcaaSLeft
namespace Go.Proofs.Ytpklpebngholcaa
open Go.RowKit Go.Sort base
set_option maxHeartbeats 4000000 in
theorem walk_FnExactLeftOver (i : Int) (A : Option Addr) (n c : Nat) (fs : List S3) (w : World) (_ : (Lit.int .i64 i).wf = true) (h : SR w A n fs) (_ : n ≤ c) :
    Calls Try.prog 5 #[.int .i64 i, .slice A n c] w fun e w' => e = .returned (.bool true) ∧ Below w.heap.size w w' := by
  have HR0 := hide h
  have hmax := h.max
  have hlen := Lib.hid h.len
  clear h
  obtain ⟨T, hT⟩ : ∃ T, leftOver i fs = T := ⟨_, rfl⟩
  have HS := hide (fun A n c W h => sLeftOver_any i A n c fs W h)
  have HI := hide (fun A n c W h => leftOver_any i A n c fs W h)
  rw [hT] at HS HI
  clear hT
  have e1 : (T != T) = false := by simp
  have HZ := hide (szStepS_any A n c 1048576 w (by omega) hmax)
  by_cases hbig : 1048576 < n
  · have hz : (if (1048576 : Int) < n then -1 else 1048576 - (n : Int)) = -1 := by rw [if_pos (by omega)]
    rw [hz] at HZ
    clear hz
    go_enter Try.func5, Try.ntmps5
    go_wp2_with fail
    refine HZ.out.mono ?_
    rintro e w' ⟨rfl, rfl⟩
    go_wp2_with fail
    go_ret
    exact ⟨rfl, Below.refl _ _⟩
  have hz : (if (1048576 : Int) < n then -1 else 1048576 - (n : Int)) = 1048576 - (n : Int) := by rw [if_neg (by omega)]
  rw [hz] at HZ
  clear hz
  go_enter Try.func5, Try.ntmps5
  go_wp2_with fail
  refine HZ.out.mono ?_
  rintro e w' ⟨rfl, rfl⟩
  have B0 := hide (Below.refl w.heap.size w)
  go_wp2_with fail
  refine (toStepS_any A n c fs _ (HR0.out.below B0.out) (by omega)).mono ?_
  rintro e w1 ⟨⟨ga, rfl, _, hl⟩, hb1⟩
  have B1 := hide (bseq B0.out hb1)
  have Ra := hide (hl.sr hlen.out (by omega))
  clear hl hb1
  go_wp2_with fail
  refine (HS.out _ _ _ _ Ra.out).mono ?_
  rintro e w2 ⟨rfl, hb2⟩
  have B2 := hide (bseq B1.out hb2)
  clear hb2
  go_wp2_with fail
  refine (toStepS_any A n c fs _ (HR0.out.below B2.out) (by omega)).mono ?_
  rintro e w3 ⟨⟨gb, rfl, _, hl⟩, hb3⟩
  have B3 := hide (bseq B2.out hb3)
  have Rb := hide (hl.sr hlen.out (by omega))
  clear hl hb3
  go_wp2_with fail
  refine (HI.out _ _ _ _ Rb.out).mono ?_
  rintro e w4 ⟨rfl, hb4⟩
  have B4 := hide (bseq B3.out hb4)
  have Rb_4 := hide (Rb.out.below hb4)
  clear hb4
  go_wp2_with fail
  refine (toStepS_any A n c fs _ (HR0.out.below B4.out) (by omega)).mono ?_
  rintro e w5 ⟨⟨gd, rfl, _, hl⟩, hb5⟩
  have B5 := hide (bseq B4.out hb5)
  have Rb_5 := hide (Rb_4.out.below hb5)
  have Rd := hide (hl.sr hlen.out (by omega))
  clear hl hb5
  go_wp2_with fail
  refine (eqStepS_same _ _ n n n fs _ Rb_5.out Rd.out).mono ?_
  rintro e w6 ⟨rfl, hb6⟩
  have B6 := hide (bseq B5.out hb6)
  clear hb6
  go_wp2_with fail
  go_ret
  exact ⟨rfl, B6.out⟩
end Go.Proofs.Ytpklpebngholcaa
