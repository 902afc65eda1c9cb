/-
  Circuits by the program: which are valid; what one makes of a word.
  No condition.
-/
import Derived.Test.YtdkphnojloanoaaCirc
namespace Go.Proofs.Ytdkphnojloanoaa
open Go.RowKit Go.Sort base
def badGate (l : Int) (g : G4) : Bool := !gateOk l g
theorem any_take_succ_g {gs : List G4} {k : Nat} (p : G4 → Bool) (h : k < gs.length) : (gs.take (k + 1)).any p = ((gs.take k).any p || p (gth gs k)) := by
  rw [take_succ_gth h]; simp
theorem any_of_gth {gs : List G4} {k : Nat} (p : G4 → Bool) (h : k < gs.length) (hp : p (gth gs k) = true) : gs.any p = true := by
  rw [List.any_eq_true]; exact ⟨gth gs k, gth_mem h, hp⟩
set_option maxHeartbeats 1000000 in
theorem badGate_any (l : Int) (g : G4) (B : Nat) (w : World) (hb : w.cell? ⟨B, 0, none⟩ = some (.int .i64 l)) :
    Calls Try.prog 71 (#[.agg #[.int .i64 g.1, .int .i64 g.2.1, .int .i64 g.2.2.1, .int .i64 g.2.2.2]] ++ #[.pointer (some ⟨B, 0, none⟩)]) w fun e w' => e = .returned (.bool (badGate l g)) ∧ Below w.heap.size w w' := by
  obtain ⟨k, a, b, c⟩ := g
  show Calls Try.prog 71 #[.agg #[.int .i64 k, .int .i64 a, .int .i64 b, .int .i64 c], .pointer (some ⟨B, 0, none⟩)] w _
  have hlt : B < w.heap.size := World.block_lt_of_cell? w _ hb
  have HB0 := hide (show Below w.heap.size w (w.alloc (.cells #[.int .i64 k, .int .i64 a, .int .i64 b, .int .i64 c] 33)) by go_grown)
  obtain ⟨v, hv⟩ : ∃ v, gateQ l k a b c = v := ⟨_, rfl⟩
  have HV := Lib.hid hv
  have HW := Lib.hid (show badGate l (k, a, b, c) = !v by rw [badGate, gateOk, hv])
  clear hv
  go_enter Try.func71, Try.ntmps71
  go_wp2_with fail
  refine (gateValid_b v _ _ _ _ _ HV.out _).mono ?_
  rintro e w1 ⟨rfl, hb1⟩
  have HB1 := hide (HB0.out.trans (hb1.mono HB0.out.size))
  clear hb1
  go_wp2_with fail
  go_ret
  exact ⟨by rw [HW.out]; rfl, HB1.out⟩

set_option maxHeartbeats 1000000 in
theorem indexGate_any (l : Int) (B : Nat) (A : Option Addr) (n c : Nat) (gs : List G4) (w : World) (h : GR w A n gs) (hb : w.cell? ⟨B, 0, none⟩ = some (.int .i64 l)) :
    Calls Try.prog 77 #[.slice A n c, .func (.func 71) #[] #[.pointer (some ⟨B, 0, none⟩)]] w fun e w' => (∃ r : Int, e = .returned (.int .i64 r) ∧ decide (0 ≤ r) = gs.any (badGate l)) ∧ Below w.heap.size w w' := by
  have hcf : ∀ (args : Array Value) (w : World), (callFunc 71 args).run Try.prog w = .ok (.enter 71 args) w := fun _ _ => by kernel_rfl
  have HR0 := hide h
  have HC := hide hb
  have hlt : B < w.heap.size := World.block_lt_of_cell? w _ hb
  have hmax := h.max
  have HLen := Lib.hid h.len
  clear h hb
  go_enter Try.func77, Try.ntmps77
  go_wp2
  go_loopw [8] (fun iv wr => ∃ j : Nat, j ≤ n ∧ iv = .int .i64 j ∧ Hid ((gs.take j).any (badGate l) = false) ∧ Hid (Below w.heap.size w wr)) (fun iv _ => n - (intOf iv).toNat)
  case atStart => exact ⟨0, by omega, rfl, rfl, Below.refl _ _⟩
  case round =>
    obtain ⟨j, hj, rfl, HN, HB⟩ := hrel
    have HR := hide (HR0.out.below HB.out)
    have HC' := hide (show wr.cell? ⟨B, 0, none⟩ = some (.int .i64 l) from (HB.out.cell (p := ⟨B, 0, none⟩) hlt).trans HC.out)
    by_cases hlt2 : j < n
    · obtain ⟨b, o, rfl, hbl, hcc⟩ := HR.out.at_ (by omega)
      obtain ⟨g0, g1, g2, g3⟩ := hcc j hlt2
      clear hcc
      have HT := Lib.hid (any_take_succ_g (k := j) (badGate l) (by rw [HLen.out]; exact hlt2))
      cases hp : badGate l (gth gs j)
      · have HP := Lib.hid hp
        clear hp
        go_wp2_with fail
        refine (badGate_any l (gth gs j) B _ HC'.out).mono ?_
        rintro e w1 ⟨he, hb1⟩
        rw [HP.out] at he
        subst he
        have HB1 := hide (bseq HB.out hb1)
        clear hb1 g0 g1 g2 g3
        go_wp2
        go_roundw
        case rel => exact ⟨j + 1, by omega, by go_num, by rw [HT.out, HN.out, HP.out]; rfl, HB1.out⟩
        case measure => simp [intOf]; omega
      · have HP := Lib.hid (any_of_gth _ (by rw [HLen.out]; exact hlt2) hp)
        have HP' := Lib.hid hp
        clear hp
        go_wp2_with fail
        refine (badGate_any l (gth gs j) B _ HC'.out).mono ?_
        rintro e w1 ⟨he, hb1⟩
        rw [HP'.out] at he
        subst he
        have HB1 := hide (bseq HB.out hb1)
        clear hb1 g0 g1 g2 g3
        go_wp2
        go_ret
        exact ⟨⟨j, rfl, by rw [HP.out]; simp⟩, HB1.out⟩
    · obtain rfl : j = n := by omega
      have HN' := Lib.hid (show gs.any (badGate l) = false by have := HN.out; rwa [List.take_of_length_le (by rw [HLen.out]; omega)] at this)
      go_wp2
      go_ret
      exact ⟨⟨-1, rfl, by rw [HN'.out]; rfl⟩, HB.out⟩
set_option maxHeartbeats 400000 in
theorem containsGate_any (l : Int) (B : Nat) (A : Option Addr) (n c : Nat) (gs : List G4) (w : World) (h : GR w A n gs) (hb : w.cell? ⟨B, 0, none⟩ = some (.int .i64 l)) :
    Calls Try.prog 57 #[.slice A n c, .func (.func 71) #[] #[.pointer (some ⟨B, 0, none⟩)]] w fun e w' => e = .returned (.bool (gs.any (badGate l))) ∧ Below w.heap.size w w' := by
  have HI := hide (indexGate_any l B A n c gs w h hb)
  clear h hb
  go_enter Try.func57, Try.ntmps57
  go_wp2_with fail
  refine HI.out.mono ?_
  rintro e w1 ⟨⟨r, rfl, hr⟩, hb1⟩
  have HR := Lib.hid hr
  have HB := hide hb1
  clear hr hb1
  go_wp2_with fail
  go_ret
  exact ⟨by rw [← HR.out]; rfl, HB.out⟩

theorem circQ_any (l : Int) (gs : List G4) : circQ l gs = (lnOk l && decide ((gs.length : Int) ≤ 24) && !gs.any (badGate l)) := by
  have h1 : (!gs.any (badGate l)) = gs.all (gateOk l) := by
    rw [List.not_any_eq_all_not]
    congr 1
    funext g
    simp [badGate]
  rw [circQ, h1]
  congr 2
  rw [Bool.eq_iff_iff]; simp; omega
set_option maxHeartbeats 1000000 in
theorem circuitValid_any (l : Int) (A : Option Addr) (n c : Nat) (gs : List G4) (w : World) (h : GR w A n gs) :
    Calls Try.prog 44 #[.int .i64 l, .slice A n c] w fun e w' => e = .returned (.bool (circQ l gs)) ∧ Below w.heap.size w w' := by
  have HB0 := hide (show Below w.heap.size w (w.alloc (.cells #[.int .i64 l] 3)) by go_grown)
  have HR0 := hide (h.below ((Below.refl _ w).alloc (Nat.le_refl _) (.cells #[.int .i64 l] 3)))
  have HC0 : Hid ((w.alloc (.cells #[.int .i64 l] 3)).cell? ⟨w.heap.size, 0, none⟩ = some (.int .i64 l)) := cell_at rfl rfl
  have hlen := h.len
  have hmax := h.max
  have HQ := circQ_any l gs
  rw [hlen] at HQ
  have HQQ := Lib.hid HQ
  clear h hlen HQ
  cases hl : lnOk l
  · have HL := Lib.hid hl
    clear hl
    go_enter Try.func44, Try.ntmps44
    go_wp2_with fail
    refine (linesOk_b false _ HL.out _).mono ?_
    rintro e w' ⟨rfl, rfl⟩
    go_wp2_with fail
    go_ret
    exact ⟨by rw [HQQ.out, HL.out]; rfl, HB0.out⟩
  · have HL := Lib.hid hl
    clear hl
    by_cases hn : n ≤ 24
    · have HD := Lib.hid (show decide ((n : Int) ≤ 24) = true by simp; omega)
      go_enter Try.func44, Try.ntmps44
      go_wp2_with fail
      refine (linesOk_b true _ HL.out _).mono ?_
      rintro e w' ⟨rfl, rfl⟩
      go_wp2_with fail
      refine (containsGate_any l _ A n c gs _ HR0.out HC0.out).mono ?_
      rintro e w1 ⟨rfl, hb1⟩
      have HB1 := hide (HB0.out.trans (hb1.mono HB0.out.size))
      clear hb1
      go_wp2_with fail
      go_ret
      exact ⟨by rw [HQQ.out, HL.out, HD.out]; rfl, HB1.out⟩
    · have HD := Lib.hid (show decide ((n : Int) ≤ 24) = false by simp; omega)
      go_enter Try.func44, Try.ntmps44
      go_wp2_with fail
      refine (linesOk_b true _ HL.out _).mono ?_
      rintro e w' ⟨rfl, rfl⟩
      go_wp2_with fail
      go_ret
      exact ⟨by rw [HQQ.out, HL.out, HD.out]; rfl, HB0.out⟩
theorem circuitValid_b (b : Bool) (l : Int) (A : Option Addr) (n c : Nat) (gs : List G4) (w : World) (h : GR w A n gs) (hb : circQ l gs = b) :
    Calls Try.prog 44 #[.int .i64 l, .slice A n c] w fun e w' => e = .returned (.bool b) ∧ Below w.heap.size w w' := by subst hb; exact circuitValid_any l A n c gs w h
set_option maxHeartbeats 4000000 in
theorem runAll_any (l : Int) (A : Option Addr) (n c : Nat) (gs : List G4) (x : Nat) (w : World) (h : GR w A n gs) (ha : gs.all (gateOk l) = true) (hx : x < 2 ^ l.toNat) :
    Calls Try.prog 45 #[.slice A n c, .int .i64 x] w fun e w' => e = .returned (.int .i64 (circN gs x : Nat)) ∧ Below w.heap.size w w' := by
  have HR0 := hide h
  have hmax := h.max
  have HLen := Lib.hid h.len
  have HAll := Lib.hid ha
  have HX := hide hx
  clear h ha hx
  go_enter Try.func45, Try.ntmps45
  go_wp2_with fail
  go_loopw [1, 9] (fun xv iv wr => ∃ (j y : Nat), j ≤ n ∧ iv = .int .i64 j ∧ xv = .int .i64 y ∧ Hid (y = circN (gs.take j) x) ∧ Hid (Below w.heap.size w wr)) (fun _ iv _ => n - (intOf iv).toNat)
  case atStart => exact ⟨0, x, by omega, rfl, rfl, rfl, Below.refl _ _⟩
  case round =>
    obtain ⟨j, y, hj, rfl, rfl, HY, HB⟩ := hrel
    have HR := hide (HR0.out.below HB.out)
    by_cases hlt : j < n
    · obtain ⟨b, o, rfl, hbl, hcc⟩ := HR.out.at_ (by omega)
      obtain ⟨g0, g1, g2, g3⟩ := hcc j hlt
      clear hcc
      have hall := HAll.out
      have HOk := Lib.hid (show gateOk l (gth gs j) = true by rw [List.all_eq_true] at hall; exact hall _ (gth_mem (by rw [HLen.out]; exact hlt)))
      have HTk := Lib.hid (show (gs.take j).all (gateOk l) = true by rw [List.all_eq_true] at hall ⊢; exact fun g hg => hall g (List.mem_of_mem_take hg))
      have HYl := hide (show y < 2 ^ l.toNat by rw [HY.out]; exact circN_lt _ _ HTk.out HX.out)
      obtain ⟨z, hz⟩ : ∃ z : Nat, runG (gth gs j).1 (gth gs j).2.1.toNat (gth gs j).2.2.1.toNat (gth gs j).2.2.2.toNat y = z := ⟨_, rfl⟩
      have HZ := Lib.hid hz
      have HS := Lib.hid (show z = circN (gs.take (j + 1)) x by rw [take_succ_gth (by rw [HLen.out]; exact hlt), circN_snoc, ← HY.out, hz])
      clear hall hz
      have hs := HB.out.size
      go_wp2_with fail
      refine calls_named fun u hu => ?_
      have HBu := hide (show Below w.heap.size w u by rw [← hu]; exact HB.out.alloc hs _)
      clear hu
      refine (run_i z l _ _ _ _ y HOk.out HYl.out HZ.out _).mono ?_
      rintro e w1 ⟨rfl, hb1⟩
      have HB1 := hide (bseq HBu.out hb1)
      clear hb1 g0 g1 g2 g3
      go_wp2_with fail
      go_roundw
      case rel => exact ⟨j + 1, z, by omega, by go_num, rfl, HS.out, HB1.out⟩
      case measure => simp [intOf]; omega
    · obtain rfl : j = n := by omega
      have HE := Lib.hid (show y = circN gs x by have := HY.out; rwa [List.take_of_length_le (by rw [HLen.out]; omega)] at this)
      go_wp2_with fail
      go_ret
      exact ⟨by rw [← HE.out]; rfl, HB.out⟩
set_option maxHeartbeats 4000000 in
theorem circuitRun_any (l : Int) (A : Option Addr) (n c : Nat) (gs : List G4) (x : Int) (w : World) (h : GR w A n gs) :
    Calls Try.prog 15 #[.int .i64 l, .slice A n c, .int .i64 x] w fun e w' => e = .returned (.int .i64 (circRun l gs x)) ∧ Below w.heap.size w w' := by
  have HR0 := hide h
  clear h
  cases hq : circQ l gs
  · have HQ := Lib.hid hq
    clear hq
    go_enter Try.func15, Try.ntmps15
    go_wp2_with fail
    refine (circuitValid_b false l A n c gs _ HR0.out HQ.out).mono ?_
    rintro e w1 ⟨rfl, hb1⟩
    have HB1 := hide hb1
    clear hb1
    go_wp2_with fail
    go_ret
    exact ⟨by rw [circRun_no HQ.out]; rfl, HB1.out⟩
  · have HQ := Lib.hid hq
    cases hv : wv l x
    · have HV := Lib.hid hv
      clear hq hv
      go_enter Try.func15, Try.ntmps15
      go_wp2_with fail
      refine (circuitValid_b true l A n c gs _ HR0.out HQ.out).mono ?_
      rintro e w1 ⟨rfl, hb1⟩
      have HB1 := hide hb1
      clear hb1
      go_wp2_with fail
      refine (wordValid_b false _ _ HV.out _).mono ?_
      rintro e w' ⟨rfl, rfl⟩
      go_wp2_with fail
      go_ret
      exact ⟨by rw [circRun_no' HV.out]; rfl, HB1.out⟩
    · obtain ⟨h1, h2, h3, h4⟩ := wv_out hv
      obtain ⟨y, rfl⟩ := Int.eq_ofNat_of_zero_le h2
      have HV := Lib.hid hv
      have HY := hide (show y < 2 ^ l.toNat by have : ((2 ^ l.toNat : Nat) : Int) = 2 ^ l.toNat := by simp
                                               omega)
      obtain ⟨q1, q2, q3⟩ := circQ_out hq
      have HA := Lib.hid q3
      clear hq hv q1 q2 q3 h1 h3
      go_enter Try.func15, Try.ntmps15
      go_wp2_with fail
      refine (circuitValid_b true l A n c gs _ HR0.out HQ.out).mono ?_
      rintro e w1 ⟨rfl, hb1⟩
      have HB1 := hide hb1
      have HR1 := hide (HR0.out.below hb1)
      clear hb1
      go_wp2_with fail
      refine (wordValid_b true _ _ HV.out _).mono ?_
      rintro e w' ⟨rfl, rfl⟩
      go_wp2_with fail
      refine (runAll_any l A n c gs y _ HR1.out HA.out HY.out).mono ?_
      rintro e w2 ⟨rfl, hb2⟩
      have HB2 := hide (bseq HB1.out hb2)
      clear hb2
      go_wp2_with fail
      go_ret
      exact ⟨by rw [circRun_ok HQ.out HV.out]; rfl, HB2.out⟩
end Go.Proofs.Ytdkphnojloanoaa
