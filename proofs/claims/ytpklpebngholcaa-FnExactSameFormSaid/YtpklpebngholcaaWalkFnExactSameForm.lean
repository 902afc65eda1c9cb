/-
  The walk of the law FnExactSameForm: it returns true at every input, and turns nothing that was there.
  No condition.
-/
import Derived.Test.YtpklpebngholcaaSameForm
namespace Go.Proofs.Ytpklpebngholcaa
open Go.RowKit Go.Sort base
set_option maxHeartbeats 4000000 in
theorem walk_FnExactSameForm (l : Int) (A : Option Addr) (n c : Nat) (a : List S3) (B : Option Addr) (m d : Nat) (b : List S3) (w : World) (_ : (Lit.int .i64 l).wf = true) (ha : SR w A n a) (_ : n ≤ c) (hb : SR w B m b) (_ : m ≤ d) :
    Calls Try.prog 3 #[.int .i64 l, .slice A n c, .slice B m d] w fun e w' => e = .returned (.bool true) ∧ Below w.heap.size w w' := by
  have HA0 := hide ha
  have HB0 := hide hb
  have hmaxa := ha.max
  have hmaxb := hb.max
  have hlena := Lib.hid ha.len
  have hlenb := Lib.hid hb.len
  clear ha hb
  obtain ⟨v, hv⟩ : ∃ v, sameF l a b = v := ⟨_, rfl⟩
  have HS := hide (fun A B n c m d W h k => sSameForm_any l A B n c m d a b W h k)
  have HI := hide (fun A B n c m d W h k => sameForm_any l A B n c m d a b W h k)
  rw [hv] at HS HI
  clear hv
  have e1 : (v != v) = false := by simp
  have HZ := hide (szStepS_any A n c 1048576 w (by omega) hmaxa)
  by_cases hbig : 1048576 < n
  · have hz : (if (1048576 : Int) < n then -1 else 1048576 - (n : Int)) = -1 := by rw [if_pos (by omega)]
    rw [hz] at HZ
    clear hz
    go_enter Try.func3, Try.ntmps3
    go_wp2_with fail
    refine HZ.out.mono ?_
    rintro e w' ⟨rfl, rfl⟩
    go_wp2_with fail
    go_ret
    exact ⟨rfl, Below.refl _ _⟩
  have hz : (if (1048576 : Int) < n then -1 else 1048576 - (n : Int)) = 1048576 - (n : Int) := by rw [if_neg (by omega)]
  rw [hz] at HZ
  clear hz
  have HZ2 := hide (szStepS_any B m d (1048576 - (n : Int)) w (by omega) hmaxb)
  by_cases hbig2 : 1048576 < n + m
  · have hz : (if (1048576 - (n : Int)) < m then -1 else 1048576 - (n : Int) - m) = -1 := by rw [if_pos (by omega)]
    rw [hz] at HZ2
    clear hz
    go_enter Try.func3, Try.ntmps3
    go_wp2_with fail
    refine HZ.out.mono ?_
    rintro e w' ⟨rfl, rfl⟩
    go_wp2_with fail
    refine HZ2.out.mono ?_
    rintro e w' ⟨rfl, rfl⟩
    go_wp2_with fail
    go_ret
    exact ⟨rfl, Below.refl _ _⟩
  have hz : (if (1048576 - (n : Int)) < m then -1 else 1048576 - (n : Int) - m) = 1048576 - (n : Int) - m := by rw [if_neg (by omega)]
  rw [hz] at HZ2
  clear hz
  have hn : n ≤ 1048576 := by omega
  have hm : m ≤ 1048576 := by omega
  go_enter Try.func3, Try.ntmps3
  go_wp2_with fail
  refine HZ.out.mono ?_
  rintro e w' ⟨rfl, rfl⟩
  go_wp2_with fail
  refine HZ2.out.mono ?_
  rintro e w' ⟨rfl, rfl⟩
  have B0 := hide (Below.refl w.heap.size w)
  go_wp2_with fail
  refine (toStepS_any A n c a _ (HA0.out.below B0.out) (by omega)).mono ?_
  rintro e w1 ⟨⟨ga1, rfl, _, hl⟩, hb1⟩
  have B1 := hide (bseq B0.out hb1)
  have Ra1 := hide (hl.sr hlena.out (by omega))
  clear hl
  clear hb1
  go_wp2_with fail
  refine (toStepS_any B m d b _ (HB0.out.below B1.out) (by omega)).mono ?_
  rintro e w2 ⟨⟨gb1, rfl, _, hl⟩, hb2⟩
  have B2 := hide (bseq B1.out hb2)
  have Ra1_2 := hide (Ra1.out.below hb2)
  have Rb1 := hide (hl.sr hlenb.out (by omega))
  clear hl
  clear hb2
  go_wp2_with fail
  refine (HS.out _ _ _ _ _ _ _ Ra1_2.out Rb1.out).mono ?_
  rintro e w3 ⟨rfl, hb3⟩
  have B3 := hide (bseq B2.out hb3)
  have Ra1_3 := hide (Ra1_2.out.below hb3)
  have Rb1_3 := hide (Rb1.out.below hb3)
  clear hb3
  go_wp2_with fail
  refine (toStepS_any A n c a _ (HA0.out.below B3.out) (by omega)).mono ?_
  rintro e w4 ⟨⟨ga2, rfl, _, hl⟩, hb4⟩
  have B4 := hide (bseq B3.out hb4)
  have Ra1_4 := hide (Ra1_3.out.below hb4)
  have Rb1_4 := hide (Rb1_3.out.below hb4)
  have Ra2 := hide (hl.sr hlena.out (by omega))
  clear hl
  clear hb4
  go_wp2_with fail
  refine (toStepS_any B m d b _ (HB0.out.below B4.out) (by omega)).mono ?_
  rintro e w5 ⟨⟨gb2, rfl, _, hl⟩, hb5⟩
  have B5 := hide (bseq B4.out hb5)
  have Ra1_5 := hide (Ra1_4.out.below hb5)
  have Rb1_5 := hide (Rb1_4.out.below hb5)
  have Ra2_5 := hide (Ra2.out.below hb5)
  have Rb2 := hide (hl.sr hlenb.out (by omega))
  clear hl
  clear hb5
  go_wp2_with fail
  refine (HI.out _ _ _ _ _ _ _ Ra2_5.out Rb2.out).mono ?_
  rintro e w6 ⟨rfl, hb6⟩
  have B6 := hide (bseq B5.out hb6)
  have Ra1_6 := hide (Ra1_5.out.below hb6)
  have Rb1_6 := hide (Rb1_5.out.below hb6)
  have Ra2_6 := hide (Ra2_5.out.below hb6)
  have Rb2_6 := hide (Rb2.out.below hb6)
  clear hb6
  go_wp2_with fail
  refine (toStepS_any A n c a _ (HA0.out.below B6.out) (by omega)).mono ?_
  rintro e w7 ⟨⟨ga3, rfl, _, hl⟩, hb7⟩
  have B7 := hide (bseq B6.out hb7)
  have Ra1_7 := hide (Ra1_6.out.below hb7)
  have Rb1_7 := hide (Rb1_6.out.below hb7)
  have Ra2_7 := hide (Ra2_6.out.below hb7)
  have Rb2_7 := hide (Rb2_6.out.below hb7)
  have Ra3 := hide (hl.sr hlena.out (by omega))
  clear hl
  clear hb7
  go_wp2_with fail
  refine (eqStepS_same _ _ n n n a _ Ra2_7.out Ra3.out).mono ?_
  rintro e w8 ⟨rfl, hb8⟩
  have B8 := hide (bseq B7.out hb8)
  have Ra1_8 := hide (Ra1_7.out.below hb8)
  have Rb1_8 := hide (Rb1_7.out.below hb8)
  have Ra2_8 := hide (Ra2_7.out.below hb8)
  have Rb2_8 := hide (Rb2_7.out.below hb8)
  have Ra3_8 := hide (Ra3.out.below hb8)
  clear hb8
  go_wp2_with fail
  refine (toStepS_any B m d b _ (HB0.out.below B8.out) (by omega)).mono ?_
  rintro e w9 ⟨⟨gb3, rfl, _, hl⟩, hb9⟩
  have B9 := hide (bseq B8.out hb9)
  have Ra1_9 := hide (Ra1_8.out.below hb9)
  have Rb1_9 := hide (Rb1_8.out.below hb9)
  have Ra2_9 := hide (Ra2_8.out.below hb9)
  have Rb2_9 := hide (Rb2_8.out.below hb9)
  have Ra3_9 := hide (Ra3_8.out.below hb9)
  have Rb3 := hide (hl.sr hlenb.out (by omega))
  clear hl
  clear hb9
  go_wp2_with fail
  refine (eqStepS_same _ _ m m m b _ Rb2_9.out Rb3.out).mono ?_
  rintro e w10 ⟨rfl, hb10⟩
  have B10 := hide (bseq B9.out hb10)
  have Ra1_10 := hide (Ra1_9.out.below hb10)
  have Rb1_10 := hide (Rb1_9.out.below hb10)
  have Ra2_10 := hide (Ra2_9.out.below hb10)
  have Rb2_10 := hide (Rb2_9.out.below hb10)
  have Ra3_10 := hide (Ra3_9.out.below hb10)
  have Rb3_10 := hide (Rb3.out.below hb10)
  clear hb10
  go_wp2_with fail
  go_ret
  exact ⟨rfl, B10.out⟩
end Go.Proofs.Ytpklpebngholcaa
