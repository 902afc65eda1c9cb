/-
  The walk of the law FnRipple: it returns true at every input, and turns nothing that was there.
  No condition.
-/
import Derived.Test.YtdkphnojloanoaaDrawCirc
import Derived.Test.YtdkphnojloanoaaCirc2
import Derived.Test.YtdkphnojloanoaaWeight
import Derived.Test.YtdkphnojloanoaaMoves
namespace Go.Proofs.Ytdkphnojloanoaa
open Go.RowKit Go.Sort base
def ripG (m : Nat) : List G4 := (List.range m).map fun k : Nat => ((1 : Int), (k : Int), (k : Int) + 1, (0 : Int))
theorem ripG_succ (m : Nat) : ripG (m + 1) = ripG m ++ [(1, (m : Int), (m : Int) + 1, 0)] := by simp [ripG, List.range_succ]
theorem ripG_len (m : Nat) : (ripG m).length = m := by simp [ripG]
def rip (l : Int) : List G4 := if lnOk l = true then ripG (l - 1).toNat else []
def ripB (n : Nat) : Bool := circQ n (ripG (n - 1)) && (List.range (2 ^ n)).all fun j => bt (circN (ripG (n - 1)) j) (n - 1) == ones j % 2 && bt (circN (ripG (n - 1)) j) 0 == bt j 0
theorem rip_all : (List.range 9).all (fun n => n == 0 || ripB n) = true := by decide +kernel
theorem rip_at {n : Nat} (h1 : 1 ≤ n) (h8 : n ≤ 8) : circQ n (ripG (n - 1)) = true ∧ ∀ j, j < 2 ^ n → bt (circN (ripG (n - 1)) j) (n - 1) = ones j % 2 ∧ bt (circN (ripG (n - 1)) j) 0 = bt j 0 := by
  have h := rip_all
  rw [List.all_eq_true] at h
  have h2 := h n (by simp; omega)
  have hn0 : (n == 0) = false := by simp; omega
  simp only [hn0, Bool.false_or, ripB, Bool.and_eq_true, List.all_eq_true, List.mem_range, beq_iff_eq] at h2
  exact ⟨h2.1, fun j hj => h2.2 j hj⟩
def RGates (w : World) (gs : List G4) (e : Ending) (w' : World) : Prop := (∃ v, e = .returned v ∧ OwnG w' w.heap.size v gs) ∧ Below w.heap.size w w'
theorem OwnG.nil_ (w : World) (base : Nat) : OwnG w base (.slice none 0 0) [] := World.ownsRow_nil _ _ _ _
theorem wpList_make0_gates {ops : Array Oper} {rest : List Oper} {o : Oper} {a : Act} {Q : Exit → Act → World → Prop} {w : World} (base n : Nat) (hg : o.guard = none) (l c : Operand) (hop : o.op = Op.makeSlice 24 l c)
    (hl : a.eval l = .int .i64 0) (C : Int) (hc : a.eval c = .int .i64 C) (hC : C = (n : Int)) (hn : n ≤ 1000) (hb : base ≤ w.heap.size)
    (hK : ∀ w', OwnG w' base (.slice (some ⟨w.heap.size, 0, none⟩) 0 n) [] → Below base w w' → wpList Try.prog ops Q rest (a.put o.dst (.slice (some ⟨w.heap.size, 0, none⟩) 0 n)) w') :
    wpList Try.prog ops Q (o :: rest) a w := by
  obtain ⟨i0, hi, hz0, hz1, hz2⟩ := info_parts gate_info'
  exact wpList_make_own _ hg l c 24 hop base 33 i0 _ 4 Try.underlying24 hi hz0 hz1 _ _ _ n hl hc hC (by rw [hz2]; omega) (by unfold maxLen; omega) hb
    fun w' h1 h2 => hK w' h1 ((Below.refl _ _).grown h2 hb (by simp))
set_option maxHeartbeats 4000000 in
theorem ripple_any (l : Int) (w : World) : Calls Try.prog 11 #[.int .i64 l] w (RGates w (rip l)) := by
  cases hl : lnOk l
  · have HR := Lib.hid (show rip l = [] by simp [rip, hl])
    have HL := Lib.hid hl
    clear hl
    go_enter Try.func11, Try.ntmps11
    go_wp2_with fail
    refine (linesOk_b false _ HL.out _).mono ?_
    rintro e w' ⟨rfl, rfl⟩
    go_wp2_with fail
    go_ret
    exact ⟨⟨_, rfl, by rw [HR.out]; exact OwnG.nil_ _ _⟩, Below.refl _ _⟩
  · obtain ⟨h1, h8⟩ := lnOk_iff.1 hl
    obtain ⟨m, hm⟩ := Int.eq_ofNat_of_zero_le (show 0 ≤ l - 1 by omega)
    obtain rfl : l = (m : Int) + 1 := by omega
    have HR := Lib.hid (show rip ((m : Int) + 1) = ripG m by rw [rip, if_pos hl]; congr 1; omega)
    have HL := Lib.hid hl
    have hm7 : m ≤ 7 := by omega
    have hsub : (m : Int) + 1 - 1 = m := by omega
    clear hl hm h1 h8
    go_enter Try.func11, Try.ntmps11
    go_wp2_with fail
    refine (linesOk_b true _ HL.out _).mono ?_
    rintro e w' ⟨rfl, rfl⟩
    go_wp2_with (at_make; refine wpList_make0_gates w.heap.size m rfl _ _ rfl rfl _ rfl (by omega) (by omega) (Nat.le_refl _) ?_; intro w1 ho1 hb1; have O1 := hide ho1; have B1 := hide hb1; clear ho1 hb1)
    go_loopw [3, 13] (fun vv iv wr => ∃ (j : Nat) (v : Value), j ≤ m ∧ iv = .int .i64 j ∧ vv = v ∧ Hid (OwnG wr w.heap.size v (ripG j)) ∧ Hid (Below w.heap.size w wr)) (fun _ iv _ => m - (intOf iv).toNat)
    case atStart => exact ⟨0, _, by omega, rfl, rfl, O1, B1⟩
    case round =>
      obtain ⟨j, v, hj, rfl, rfl, HO, HB⟩ := hrel
      by_cases hlt : j < m
      · have hsz := HB.out.size
        go_wp2_with (at_builtin; refine wpList_appendG1 (x0 := 1) (x1 := j) (x2 := j + 1) (x3 := 0) HO.out (.tmp 16) (.tmp 21) rfl rfl rfl rfl (by rw [ripG_len]; omega) hsz ?_; intro v9 w9 ho9 hg9; have O9 := hide (show OwnG w9 w.heap.size v9 (ripG (j + 1)) by rw [ripG_succ]; exact ho9); have B9 := hide (HB.out.grown hg9 hsz (fun k hk => (HO.out.lt k hk).1)); clear ho9 hg9)
        go_roundw
        case rel => exact ⟨j + 1, v9, by omega, by go_num, rfl, O9, B9⟩
        case measure => simp [intOf]; omega
      · obtain rfl : j = m := by omega
        go_wp2_with fail
        go_ret
        exact ⟨⟨_, rfl, by rw [HR.out]; exact HO.out⟩, HB.out⟩
set_option maxHeartbeats 4000000 in
theorem sRipple_any (l : Int) (w : World) (hl9 : -1 ≤ l ∧ l ≤ 9) : Calls Try.prog 13 #[.int .i64 l] w (RGates w (rip l)) := by
  have O1 := hide (OwnG.nil0 w w.heap.size (Nat.le_refl _))
  have B1 := hide (show Below w.heap.size w (w.alloc (.cells #[] 33)) by go_grown)
  obtain ⟨hla, hlb⟩ := hl9
  cases hl : lnOk l
  · have HR := Lib.hid (show rip l = [] by simp [rip, hl])
    have HL' := Lib.hid (show (decide (1 ≤ l) && decide (l ≤ 8)) = false from hl)
    have hcase : l < 1 ∨ l = 9 := by simp only [lnOk, Bool.and_eq_false_iff, decide_eq_false_iff_not] at hl; omega
    clear hl
    rcases hcase with hc | hc
    · have hc2 : ¬ (1 : Int) < l := by omega
      go_enter Try.func13, Try.ntmps13
      go_wp2_with fail
      go_loopw [3, 4] (fun vv iv wr => vv = .slice (some ⟨w.heap.size, 0, none⟩) 0 0 ∧ iv = .int .i64 0 ∧ wr = w.alloc (.cells #[] 33)) (fun _ _ _ => 0)
      case atStart => exact ⟨rfl, rfl, rfl⟩
      case round =>
        obtain ⟨rfl, rfl, rfl⟩ := hrel
        go_wp2_with fail
        go_ret
        exact ⟨⟨_, rfl, by rw [HR.out]; exact O1.out⟩, B1.out⟩
    · subst hc
      go_enter Try.func13, Try.ntmps13
      go_wp2_with fail
      go_loopw [3, 4] (fun vv iv wr => vv = .slice (some ⟨w.heap.size, 0, none⟩) 0 0 ∧ iv = .int .i64 0 ∧ wr = w.alloc (.cells #[] 33)) (fun _ _ _ => 0)
      case atStart => exact ⟨rfl, rfl, rfl⟩
      case round =>
        obtain ⟨rfl, rfl, rfl⟩ := hrel
        go_wp2_with fail
        refine (l1In_b false _ _ _ HL'.out _).mono ?_
        rintro e w' ⟨rfl, rfl⟩
        go_wp2_with fail
        go_ret
        exact ⟨⟨_, rfl, by rw [HR.out]; exact O1.out⟩, B1.out⟩
  · obtain ⟨h1, h8⟩ := lnOk_iff.1 hl
    obtain ⟨m, hm⟩ := Int.eq_ofNat_of_zero_le (show 0 ≤ l - 1 by omega)
    obtain rfl : l = (m : Int) + 1 := by omega
    have HR := Lib.hid (show rip ((m : Int) + 1) = ripG m by rw [rip, if_pos hl]; congr 1; omega)
    have HL' := Lib.hid (show (decide (1 ≤ (m : Int) + 1) && decide ((m : Int) + 1 ≤ 8)) = true from hl)
    have hm7 : m ≤ 7 := by omega
    clear hl hm h1 h8 hla hlb
    go_enter Try.func13, Try.ntmps13
    go_wp2_with fail
    go_loopw [3, 4] (fun vv iv wr => ∃ (j : Nat) (v : Value), j ≤ m ∧ iv = .int .i64 j ∧ vv = v ∧ Hid (OwnG wr w.heap.size v (ripG j)) ∧ Hid (Below w.heap.size w wr)) (fun _ iv _ => m - (intOf iv).toNat)
    case atStart => exact ⟨0, _, by omega, rfl, rfl, O1, B1⟩
    case round =>
      obtain ⟨j, v, hj, rfl, rfl, HO, HB⟩ := hrel
      by_cases hlt : j < m
      · have hsz := HB.out.size
        have hlt2 : (j : Int) + 1 < (m : Int) + 1 := by omega
        go_wp2_with fail
        refine (l1In_b true _ _ _ HL'.out _).mono ?_
        rintro e w' ⟨rfl, rfl⟩
        go_wp2_with (at_builtin; refine wpList_appendG1 (x0 := 1) (x1 := j) (x2 := j + 1) (x3 := 0) HO.out (.tmp 16) (.tmp 21) rfl rfl rfl rfl (by rw [ripG_len]; omega) hsz ?_; intro v9 w9 ho9 hg9; have O9 := hide (show OwnG w9 w.heap.size v9 (ripG (j + 1)) by rw [ripG_succ]; exact ho9); have B9 := hide (HB.out.grown hg9 hsz (fun k hk => (HO.out.lt k hk).1)); clear ho9 hg9)
        go_roundw
        case rel => exact ⟨j + 1, v9, by omega, by go_num, rfl, O9, B9⟩
        case measure => simp [intOf]; omega
      · obtain rfl : j = m := by omega
        have hlt2 : ¬ (j : Int) + 1 < (j : Int) + 1 := by omega
        go_wp2_with fail
        go_ret
        exact ⟨⟨_, rfl, by rw [HR.out]; exact HO.out⟩, HB.out⟩
set_option maxHeartbeats 4000000 in
theorem sameGates_same (A B : Option Addr) (n c d : Nat) (gs : List G4) (w : World) (hx : GR w A n gs) (hy : GR w B n gs) :
    Calls Try.prog 12 #[.slice A n c, .slice B n d] w fun e w' => e = .returned (.bool true) ∧ ∃ q, w' = w.drewN q := by
  have HX0 := hide hx
  have HY0 := hide hy
  have hmax := hx.max
  have hnn : ((n : Int) != (n : Int)) = false := by simp
  clear hx hy
  go_enter Try.func12, Try.ntmps12
  go_wp2_with fail
  go_loopw [5] (fun iv wr => ∃ j q : Nat, j ≤ n ∧ iv = .int .i64 j ∧ wr = w.drewN q) (fun iv _ => n - (intOf iv).toNat)
  case atStart => exact ⟨0, 0, by omega, rfl, rfl⟩
  case round =>
    obtain ⟨j, q, hj, rfl, rfl⟩ := hrel
    by_cases hlt : j < n
    · obtain ⟨b, o, rfl, hbl, hcc⟩ := HX0.out.at_ (by omega)
      obtain ⟨b', o', rfl, hbl', hcc'⟩ := HY0.out.at_ (by omega)
      obtain ⟨⟨k, a, b2, c2⟩, hg⟩ : ∃ g, gth gs j = g := ⟨_, rfl⟩
      obtain ⟨g0, g1, g2, g3⟩ := hcc j hlt
      obtain ⟨q0, q1, q2, q3⟩ := hcc' j hlt
      rw [hg] at g0 g1 g2 g3 q0 q1 q2 q3
      simp only at g0 g1 g2 g3 q0 q1 q2 q3
      clear hcc hcc' hg
      go_wp2_with fail
      go_quiet (fail)
      go_wp2_with fail
      go_roundw
      case rel => exact ⟨j + 1, _, by omega, by go_num, rfl⟩
      case measure => simp [intOf]; omega
    · obtain rfl : j = n := by omega
      go_wp2_with fail
      go_ret
      exact ⟨rfl, q, rfl⟩
structure RipF (n P : Nat) (gs : List G4) : Prop where
  w : wrap64 (2 ^ n) = (P : Int)
  p : P ≤ 256
  run : ∀ j, j < P → ∃ y : Nat, circRun n gs j = (y : Int) ∧ wv n (j : Int) = true ∧ wv n (y : Int) = true ∧ bt y (n - 1) = ones j % 2 ∧ bt y 0 = bt j 0
theorem rip_facts {n : Nat} (h1 : 1 ≤ n) (h8 : n ≤ 8) : ∃ P, RipF n P (ripG (n - 1)) := by
  obtain ⟨hq, hr⟩ := rip_at h1 h8
  have hv : ∀ j : Nat, j < 2 ^ n → wv (n : Int) (j : Int) = true := fun j hj => by rw [wv_nat h1 h8]; simpa using hj
  refine ⟨2 ^ n, wrap_pow8 h8, pow_le8 h8, fun j hj => ⟨circN (ripG (n - 1)) j, circRun_ok hq (hv j hj), hv j hj, ?_, (hr j hj).1, (hr j hj).2⟩⟩
  have := circN_lt (l := (n : Int)) (ripG (n - 1)) j (circQ_out hq).2.2 (by simpa using hj)
  exact hv _ (by simpa using this)
theorem circuitRun_v (v : Int) (l : Int) (A : Option Addr) (n c : Nat) (gs : List G4) (x : Int) (w : World) (h : GR w A n gs) (hv : circRun l gs x = v) :
    Calls Try.prog 15 #[.int .i64 l, .slice A n c, .int .i64 x] w fun e w' => e = .returned (.int .i64 v) ∧ Below w.heap.size w w' := by subst hv; exact circuitRun_any l A n c gs x w h
set_option maxRecDepth 100000 in
set_option maxHeartbeats 8000000 in
theorem walk_FnRipple (A : Option Addr) (n c : Nat) (zs : List Int) (w : World) (h : IRk .u8 w A n zs) (hz : ∀ z ∈ zs, (Lit.int .u8 z).wf = true) (hc : n ≤ c) :
    Calls Try.prog 3 #[.slice A n c] w fun e w' => e = .returned (.bool true) ∧ Below w.heap.size w w' := by
  have hmax := h.max
  by_cases hbig : 1048576 < n
  · clear h hz
    go_enter Try.func3, Try.ntmps3
    go_wp2_with fail
    go_ret
    exact ⟨rfl, Below.refl _ _⟩
  have H := hide (drawRipple_b A n c zs w h hz hc)
  clear h hz
  go_enter Try.func3, Try.ntmps3
  go_wp2_with fail
  refine H.out.mono ?_
  rintro e w1 ⟨l, rfl, hl, hb1⟩
  have B1 := hide hb1
  have HL9 := hide hl
  clear hb1 hl
  go_wp2_with fail
  refine (ripple_any l _).mono ?_
  rintro e w2 ⟨⟨v2, rfl, ho2⟩, hb2⟩
  obtain ⟨A2, c2, rfl, hg2⟩ := ho2.gr
  have G2 := hide hg2
  have B2 := hide (bseq B1.out hb2)
  clear ho2 hg2 hb2
  go_wp2_with fail
  refine (sRipple_any l _ HL9.out).mono ?_
  rintro e w3 ⟨⟨v3, rfl, ho3⟩, hb3⟩
  obtain ⟨A3, c3, rfl, hg3⟩ := ho3.gr
  have G3 := hide hg3
  have G2' := hide (G2.out.below hb3)
  have B3 := hide (bseq B2.out hb3)
  clear ho3 hg3 hb3
  go_wp2_with fail
  refine (sameGates_same _ _ _ _ _ (rip l) _ G2'.out G3.out).mono ?_
  rintro e w4 ⟨rfl, q4, hq4⟩
  have hb4 : Below w3.heap.size w3 w4 := by rw [hq4]; exact below_drewN (Below.refl _ _) _
  have G4' := hide (G2'.out.below hb4)
  have B4 := hide (bseq B3.out hb4)
  clear hq4 hb4
  cases hlo : lnOk l
  · have HN := Lib.hid (show (rip l).length = 0 by simp [rip, hlo])
    have hcase : l < 1 ∨ ((¬ l < 1) ∧ 8 < l) := by simp only [lnOk, Bool.and_eq_false_iff, decide_eq_false_iff_not] at hlo; omega
    obtain ⟨N, hN⟩ : ∃ N, (rip l).length = N := ⟨_, rfl⟩
    rw [hN] at HN ⊢
    obtain rfl := HN.out
    clear hlo hN
    rcases hcase with hc1 | ⟨hc1, hc2⟩
    all_goals
      go_wp2_with fail
      refine (alive_any _).mono ?_
      rintro e w' ⟨rfl, rfl⟩
      go_wp2_with fail
      go_ret
      exact ⟨rfl, B4.out⟩
  · obtain ⟨h1, h8⟩ := lnOk_iff.1 hlo
    obtain ⟨m, rfl⟩ := Int.eq_ofNat_of_zero_le (show 0 ≤ l by omega)
    have hm1 : 1 ≤ m := by omega
    have hm8 : m ≤ 8 := by omega
    obtain ⟨P, hF⟩ := rip_facts hm1 hm8
    have hre : rip (m : Int) = ripG (m - 1) := by rw [rip, if_pos hlo]; congr 1; omega
    have hw := hF.w
    have hP := hF.p
    have HF := hide hF
    rw [hre] at G4' ⊢
    rw [ripG_len] at G4' ⊢
    have hm2 : ((m - 1 : Nat) : Int) = (m : Int) - 1 := by omega
    clear hF hre hlo h1 h8
    have HM2 := Lib.hid hm2
    clear hm2
    go_wp2_with fail
    go_loopw [5] (fun iv wr => ∃ j : Nat, j ≤ P ∧ iv = .int .i64 j ∧ Hid (Below w4.heap.size w4 wr)) (fun iv _ => P - (intOf iv).toNat)
    case atStart => exact ⟨0, by omega, rfl, Below.refl _ _⟩
    case round =>
      obtain ⟨j, hj, rfl, HB⟩ := hrel
      by_cases hlt : j < P
      · obtain ⟨y, hy, hvj, hvy, hb1, hb2⟩ := HF.out.run j hlt
        have HY := Lib.hid hy
        have HVJ := Lib.hid hvj
        have HVY := Lib.hid hvy
        have HWJ := Lib.hid (show weight m (j : Int) = (ones j : Nat) by rw [weight, if_pos hvj]; rfl)
        have HB1 := Lib.hid hb1
        have HB2 := Lib.hid hb2
        have HMZ := HM2.out
        have HBY := hide (bitOf_ok m y (m - 1) hvy (by omega) )
        have HBY0 := hide (bitOf_ok m y 0 hvy (by omega))
        have HBJ0 := hide (bitOf_ok m j 0 hvj (by omega))
        rw [HMZ, hb1] at HBY
        rw [hb2] at HBY0
        obtain ⟨u, hu⟩ : ∃ u, ones j = u := ⟨_, rfl⟩
        obtain ⟨v0, hv0⟩ : ∃ v0, bt j 0 = v0 := ⟨_, rfl⟩
        rw [hu] at HBY HWJ
        rw [hv0] at HBY0 HBJ0
        have hu8 : u ≤ 8 := by rw [← hu]; exact ones_le j
        have e1 : (((u % 2 : Nat) : Int) != (u : Int) % 2) = false := by simp
        have e2 : ((v0 : Int) != (v0 : Int)) = false := by simp
        have GW := hide (G4'.out.below HB.out)
        clear hy hvj hvy hb1 hb2 HMZ hu hv0
        go_wp2_with fail
        refine (circuitRun_v y m _ _ _ _ (j : Int) _ GW.out HY.out).mono ?_
        rintro e w9 ⟨rfl, hb9⟩
        have HB9 := hide (bseq HB.out hb9)
        clear hb9
        go_wp2_with fail
        refine (HBY.out _).mono ?_
        rintro e w' ⟨rfl, rfl⟩
        go_wp2_with fail
        refine (weight_b _ _ _ HWJ.out _).mono ?_
        rintro e w' ⟨rfl, rfl⟩
        go_wp2_with fail
        refine (HBY0.out _).mono ?_
        rintro e w' ⟨rfl, rfl⟩
        go_wp2_with fail
        refine (HBJ0.out _).mono ?_
        rintro e w' ⟨rfl, rfl⟩
        go_wp2_with fail
        go_roundw
        case rel => exact ⟨j + 1, by omega, by go_num, HB9.out⟩
        case measure => simp [intOf]; omega
      · obtain rfl : j = P := by omega
        go_wp2_with fail
        go_ret
        exact ⟨by rw [HM2.out]; simp, bseq B4.out HB.out⟩
end Go.Proofs.Ytdkphnojloanoaa
