/-
  The walk of the law FnCircuitJoin: it returns true at every input, and turns nothing that was there.
  No condition.
-/
import Derived.Test.YtdkphnojloanoaaJoinA
import Derived.Test.YtdkphnojloanoaaJoinB
import Derived.Test.YtdkphnojloanoaaJoinC
import Derived.Test.YtdkphnojloanoaaWeight
namespace Go.Proofs.Ytdkphnojloanoaa
open Go.RowKit Go.Sort base
theorem circN_append (a b : List G4) (x : Nat) : circN (a ++ b) x = circN b (circN a x) := by simp [circN, List.foldl_append]
theorem costL_le : ∀ gs : List G4, 0 ≤ costL gs ∧ costL gs ≤ 7 * gs.length
  | [] => by simp [costL]
  | g :: gs => by
    have h := costL_le gs
    have k := kCost_le g.1
    simp only [costL, List.map_cons, List.sum_cons, List.length_cons] at h ⊢
    omega
theorem circQ_append {l : Int} {a b : List G4} (ha : circQ l a = true) (hb : circQ l b = true) (hl : a.length + b.length ≤ 24) : circQ l (a ++ b) = true := by
  obtain ⟨h1, _, h3⟩ := circQ_out ha
  obtain ⟨_, _, h6⟩ := circQ_out hb
  simp only [circQ, h1, List.length_append, List.all_append, h3, h6, Bool.and_true, Bool.true_and]
  simpa using hl
theorem joinQ_out {l : Int} {a b : List G4} (h : joinQ l a b = true) : circQ l a = true ∧ circQ l b = true ∧ a.length + b.length ≤ 24 := by
  simp only [joinQ, Bool.and_eq_true, decide_eq_true_eq] at h
  exact ⟨h.1.1, h.1.2, h.2⟩
structure JoinF (n P : Nat) (a b : List G4) : Prop where
  w : wrap64 (2 ^ n) = (P : Int)
  p : P ≤ 256
  run : ∀ j, j < P → ∃ y z : Nat, circRun n a j = (y : Int) ∧ circRun n b y = (z : Int) ∧ circRun n (a ++ b) j = (z : Int)
theorem join_facts {n : Nat} {a b : List G4} (h1 : 1 ≤ n) (h8 : n ≤ 8) (h : joinQ n a b = true) : ∃ P, JoinF n P a b := by
  obtain ⟨ha, hb, hl⟩ := joinQ_out h
  have hv : ∀ j : Nat, j < 2 ^ n → wv (n : Int) (j : Int) = true := fun j hj => by rw [wv_nat h1 h8]; simpa using hj
  refine ⟨2 ^ n, wrap_pow8 h8, pow_le8 h8, fun j hj => ⟨circN a j, circN b (circN a j), circRun_ok ha (hv j hj), ?_, ?_⟩⟩
  · refine circRun_ok hb (hv _ ?_)
    have := circN_lt (l := (n : Int)) a j (circQ_out ha).2.2 (by simpa using hj)
    simpa using this
  · rw [circRun_ok (circQ_append ha hb hl) (hv j hj), circN_append]
theorem circRun_v (v : Int) (l : Int) (A : Option Addr) (n c : Nat) (gs : List G4) (x : Int) (w : World) (h : GR w A n gs) (hv : circRun l gs x = v) :
    Calls Try.prog 15 #[.int .i64 l, .slice A n c, .int .i64 x] w fun e w' => e = .returned (.int .i64 v) ∧ Below w.heap.size w w' := by subst hv; exact circuitRun_any l A n c gs x w h
theorem cost_v (v : Int) (l : Int) (A : Option Addr) (n c : Nat) (gs : List G4) (w : World) (h : GR w A n gs) (hq : circQ l gs = true) (hv : costL gs = v) :
    Calls Try.prog 39 #[.int .i64 l, .slice A n c] w fun e w' => e = .returned (.int .i64 v) ∧ Below w.heap.size w w' := by subst hv; exact cost_any l A n c gs w h hq
set_option maxRecDepth 100000 in
set_option maxHeartbeats 8000000 in
theorem walk_FnCircuitJoin (A : Option Addr) (n c : Nat) (zs : List Int) (w : World) (h : IRk .u8 w A n zs) (hz : ∀ z ∈ zs, (Lit.int .u8 z).wf = true) (hc : n ≤ c) :
    Calls Try.prog 9 #[.slice A n c] w fun e w' => e = .returned (.bool true) ∧ Below w.heap.size w w' := by
  have hmax := h.max
  by_cases hbig : 1048576 < n
  · clear h hz
    go_enter Try.func9, Try.ntmps9
    go_wp2_with fail
    go_ret
    exact ⟨rfl, Below.refl _ _⟩
  have H := hide (drawJoin_b A n c zs w h hz hc)
  clear h hz
  go_enter Try.func9, Try.ntmps9
  go_wp2_with fail
  refine H.out.mono ?_
  rintro e w1 ⟨l, X, Y, nx, cx, ny, cy, a, b, rfl, hl, gx, gy, hx25, hy25, hb1⟩
  have B1 := hide hb1
  have HL9 := hide hl
  have GX := hide gx
  have GY := hide gy
  clear hb1 hl gx gy
  go_wp2_with fail
  refine (join_any l X Y nx cx ny cy a b _ GX.out GY.out hx25 hy25).mono ?_
  rintro e w2 ⟨A2, k2, c2, rfl, hg2, hb2⟩
  have G2 := hide hg2
  have B2 := hide (bseq B1.out hb2)
  have GX2 := hide (GX.out.below hb2)
  have GY2 := hide (GY.out.below hb2)
  have HK2 := Lib.hid hg2.len
  clear hg2 hb2
  go_wp2_with fail
  refine (sJoin_any l X Y nx cx ny cy a b _ GX2.out GY2.out hx25 hy25).mono ?_
  rintro e w3 ⟨A3, k3, c3, rfl, hg3, hb3⟩
  obtain rfl : k3 = k2 := by have := HK2.out; have := hg3.len; omega
  have G3 := hide hg3
  have G2' := hide (G2.out.below hb3)
  have B3 := hide (bseq B2.out hb3)
  have GX3 := hide (GX2.out.below hb3)
  have GY3 := hide (GY2.out.below hb3)
  clear hg3 hb3
  go_wp2_with fail
  refine (sameGates_same _ _ _ _ _ (joinG l a b) _ G2'.out G3.out).mono ?_
  rintro e w4 ⟨rfl, q4, hq4⟩
  have hb4 : Below w3.heap.size w3 w4 := by rw [hq4]; exact below_drewN (Below.refl _ _) _
  have G4' := hide (G2'.out.below hb4)
  have B4 := hide (bseq B3.out hb4)
  have GX4 := hide (GX3.out.below hb4)
  have GY4 := hide (GY3.out.below hb4)
  clear hq4 hb4 H B1 B2 B3 GX GY GX2 GY2 GX3 GY3 G2 G2' G3
  cases hq : joinQ l a b
  · obtain rfl : k3 = 0 := by have := HK2.out; rw [joinG_no hq] at this; exact this.symm
    clear hq
    go_wp2_with fail
    refine (alive_any _).mono ?_
    rintro e w' ⟨rfl, rfl⟩
    go_wp2_with fail
    go_ret
    exact ⟨rfl, B4.out⟩
  · obtain ⟨qa, qb, qn⟩ := joinQ_out hq
    obtain ⟨hlo, _, _⟩ := circQ_out qa
    obtain ⟨h1, h8⟩ := lnOk_iff.1 hlo
    obtain ⟨m, rfl⟩ := Int.eq_ofNat_of_zero_le (show 0 ≤ l by omega)
    have hm1 : 1 ≤ m := by omega
    have hm8 : m ≤ 8 := by omega
    obtain ⟨P, hF⟩ := join_facts hm1 hm8 hq
    have hw := hF.w
    have hP := hF.p
    have HF := hide hF
    have HQA := Lib.hid qa
    have HQB := Lib.hid qb
    have HQN := Lib.hid (circQ_append qa qb qn)
    have HJ := Lib.hid (joinG_ok hq)
    obtain ⟨ca, hca⟩ : ∃ ca, costL a = ca := ⟨_, rfl⟩
    obtain ⟨cb, hcb⟩ : ∃ cb, costL b = cb := ⟨_, rfl⟩
    have HCA := Lib.hid hca
    have HCB := Lib.hid hcb
    have HCN := Lib.hid (show costL (a ++ b) = ca + cb by rw [costL_append, hca, hcb])
    have hba : 0 ≤ ca ∧ ca ≤ 168 := by have := costL_le a; omega
    have hbb : 0 ≤ cb ∧ cb ≤ 168 := by have := costL_le b; omega
    obtain ⟨ha0, ha1⟩ := hba
    obtain ⟨hb0, hb1⟩ := hbb
    rw [HJ.out] at G4'
    clear hF hq qa qb qn hlo h1 h8 hca hcb HL9
    go_wp2_with fail
    go_loopw [10] (fun iv wr => ∃ j : Nat, j ≤ P ∧ iv = .int .i64 j ∧ Hid (Below w4.heap.size w4 wr)) (fun iv _ => P - (intOf iv).toNat)
    case atStart => exact ⟨0, by omega, rfl, Below.refl _ _⟩
    case round =>
      obtain ⟨j, hj, rfl, HB⟩ := hrel
      by_cases hlt : j < P
      · obtain ⟨y, z, hy, hz, hyz⟩ := HF.out.run j hlt
        have HY := Lib.hid hy
        have HZ := Lib.hid hz
        have HYZ := Lib.hid hyz
        have e1 : ((z : Int) != (z : Int)) = false := by simp
        clear hy hz hyz
        go_wp2_with fail
        refine (circRun_v z m _ _ _ _ (j : Int) _ (G4'.out.below HB.out) HYZ.out).mono ?_
        rintro e w7 ⟨rfl, hb7⟩
        have B7 := hide (bseq HB.out hb7)
        clear hb7
        go_wp2_with fail
        refine (circRun_v y m _ _ _ _ (j : Int) _ (GX4.out.below B7.out) HY.out).mono ?_
        rintro e w8 ⟨rfl, hb8⟩
        have B8 := hide (bseq B7.out hb8)
        clear hb8
        go_wp2_with fail
        refine (circRun_v z m _ _ _ _ (y : Int) _ (GY4.out.below B8.out) HZ.out).mono ?_
        rintro e w9 ⟨rfl, hb9⟩
        have B9 := hide (bseq B8.out hb9)
        clear hb9
        go_wp2_with fail
        go_roundw
        case rel => exact ⟨j + 1, by omega, by go_num, B9.out⟩
        case measure => simp [intOf]; omega
      · obtain rfl : j = P := by omega
        go_wp2_with fail
        refine (cost_v (ca + cb) m _ _ _ _ _ (G4'.out.below HB.out) HQN.out HCN.out).mono ?_
        rintro e w7 ⟨rfl, hb7⟩
        have B7 := hide (bseq HB.out hb7)
        clear hb7
        go_wp2_with fail
        refine (cost_v ca m _ _ _ _ _ (GX4.out.below B7.out) HQA.out HCA.out).mono ?_
        rintro e w8 ⟨rfl, hb8⟩
        have B8 := hide (bseq B7.out hb8)
        clear hb8
        go_wp2_with fail
        refine (cost_v cb m _ _ _ _ _ (GY4.out.below B8.out) HQB.out HCB.out).mono ?_
        rintro e w9 ⟨rfl, hb9⟩
        have B9 := hide (bseq B8.out hb9)
        clear hb9
        go_wp2_with fail
        go_ret
        exact ⟨by simp, bseq B4.out B9.out⟩
end Go.Proofs.Ytdkphnojloanoaa
