/-
  The walk of the law FnStepGates: it returns true at every input, and turns nothing that was there.
  No condition.
-/
import Derived.Test.YtdkphnojloanoaaStepLaw
namespace Go.Proofs.Ytdkphnojloanoaa
open Go.RowKit Go.Sort base
theorem stepGates_any (op x y l : Int) (h : 0 ≤ op ∧ op ≤ 4) (w : World) : Calls Try.prog 24 #[.agg #[.int .i64 op, .int .i64 x, .int .i64 y], .int .i64 l] w (StepPost op x y l w) := by
  rcases (show op = 0 ∨ op = 1 ∨ op = 2 ∨ op = 3 ∨ op = 4 by omega) with rfl | rfl | rfl | rfl | rfl
  · exact stepGates_0 x y l w
  · exact stepGates_1 x y l w
  · exact stepGates_2 x y l w
  · exact stepGates_3 x y l w
  · exact stepGates_4 x y l w
theorem sStepGates_any (op x y l : Int) (h : 0 ≤ op ∧ op ≤ 4) (w : World) : Calls Try.prog 25 #[.agg #[.int .i64 op, .int .i64 x, .int .i64 y], .int .i64 l] w (StepPost op x y l w) := by
  rcases (show op = 0 ∨ op = 1 ∨ op = 2 ∨ op = 3 ∨ op = 4 by omega) with rfl | rfl | rfl | rfl | rfl
  · exact sStepGates_0 x y l w
  · exact sStepGates_1 x y l w
  · exact sStepGates_2 x y l w
  · exact sStepGates_3 x y l w
  · exact sStepGates_4 x y l w
def FreshStep (w : World) (e : Ending) (w' : World) : Prop :=
  ∃ op x y l : Int, e = .returned (.tuple #[.agg #[.int .i64 op, .int .i64 x, .int .i64 y], .int .i64 l]) ∧ (0 ≤ op ∧ op ≤ 4) ∧ (0 ≤ x ∧ x ≤ 3) ∧ (0 ≤ y ∧ y ≤ 3) ∧ (-9 ≤ l ∧ l ≤ 9) ∧ Below w.heap.size w w'
theorem set3_cells {w : World} {g : Nat} {u0 u1 u2 : Value} (h0 : w.cell? ⟨g, 0, none⟩ = some u0) (h1 : w.cell? ⟨g, 1, none⟩ = some u1) (h2 : w.cell? ⟨g, 2, none⟩ = some u2) (a b c : Value) :
    (((w.setCell ⟨g, 0, none⟩ a).setCell ⟨g, 1, none⟩ b).setCell ⟨g, 2, none⟩ c).cell? ⟨g, 0, none⟩ = some a ∧ (((w.setCell ⟨g, 0, none⟩ a).setCell ⟨g, 1, none⟩ b).setCell ⟨g, 2, none⟩ c).cell? ⟨g, 1, none⟩ = some b ∧ (((w.setCell ⟨g, 0, none⟩ a).setCell ⟨g, 1, none⟩ b).setCell ⟨g, 2, none⟩ c).cell? ⟨g, 2, none⟩ = some c := by
  refine ⟨?_, ?_, ?_⟩
  · rw [World.cell?_setCell_other _ _ _ _ (by simp), World.cell?_setCell_other _ _ _ _ (by simp)]; exact World.cell?_setCell_same _ _ _ h0
  · rw [World.cell?_setCell_other _ _ _ _ (by simp)]; exact World.cell?_setCell_same _ _ _ (by rw [World.cell?_setCell_other _ _ _ _ (by simp)]; exact h1)
  · exact World.cell?_setCell_same _ _ _ (by rw [World.cell?_setCell_other _ _ _ _ (by simp), World.cell?_setCell_other _ _ _ _ (by simp)]; exact h2)
set_option maxHeartbeats 2000000 in
theorem drawStepGates_b (A : Option Addr) (n c : Nat) (zs : List Int) (w : World) (h : IRk .u8 w A n zs) (hz : ∀ z ∈ zs, (Lit.int .u8 z).wf = true) (hc : n ≤ c) :
    Calls Try.prog 23 #[.slice A n c] w (FreshStep w) := by
  obtain ⟨w0, hw0⟩ : ∃ w0, w.alloc (.cells #[.int .i64 0, .int .i64 0, .int .i64 0] 39) = w0 := ⟨_, rfl⟩
  have B0 := hide (show Below w.heap.size w w0 by rw [← hw0]; go_grown)
  have hs0 : w.heap.size + 1 ≤ w0.heap.size := by rw [← hw0]; simp
  have c0 : w0.cell? ⟨w.heap.size, 0, none⟩ = some (.int .i64 0) := by rw [← hw0]; exact cell_at rfl rfl
  have c1 : w0.cell? ⟨w.heap.size, 1, none⟩ = some (.int .i64 0) := by rw [← hw0]; exact cell_at rfl rfl
  have c2 : w0.cell? ⟨w.heap.size, 2, none⟩ = some (.int .i64 0) := by rw [← hw0]; exact cell_at rfl rfl
  have F0 : Hid (Free w0 w.heap.size) := by rw [← hw0]; exact Free.made w _ _
  have CC := hide (And.intro c0 (And.intro c1 c2))
  have HW := Lib.hid hw0
  have H := hide (h.below B0.out)
  have HZ := hide hz
  clear h hz c0 c1 c2 hw0
  go_enter Try.func23, Try.ntmps23
  go_upto_region 1 with fail
  rw [HW.out]
  go_wp2_with fail
  refine (open_b A n c zs _ H.out HZ.out hc).mono ?_
  rintro e w1 ⟨R, rfl, hR, hr, hb⟩
  have S1 : Hid (RdB w1 R 0 ∧ Below w.heap.size w w1 ∧ Free w1 w.heap.size ∧ w1.cell? ⟨w.heap.size, 0, none⟩ = some (.int .i64 0) ∧ w1.cell? ⟨w.heap.size, 1, none⟩ = some (.int .i64 0) ∧ w1.cell? ⟨w.heap.size, 2, none⟩ = some (.int .i64 0)) :=
    ⟨hr, B0.out.trans (hb.mono B0.out.size), fun i => (hb.frozen (p := ⟨w.heap.size, i, none⟩) hs0).trans (F0.out i), (hb.cell (p := ⟨w.heap.size, 0, none⟩) hs0).trans CC.out.1, (hb.cell (p := ⟨w.heap.size, 1, none⟩) hs0).trans CC.out.2.1, (hb.cell (p := ⟨w.heap.size, 2, none⟩) hs0).trans CC.out.2.2⟩
  have hRw : w.heap.size < R := by omega
  clear hr hb CC F0
  go_wp2_with fail
  refine (pick_b R 0 5 _ S1.out.1 (by omega) (by omega)).mono ?_
  rintro e w2 ⟨r2, rfl, a2, b2, _, hr, hg⟩
  have d2 := b2 (by omega)
  have S2 : Hid (RdB w2 R (0 + 1) ∧ Below w.heap.size w w2 ∧ Free w2 w.heap.size ∧ w2.cell? ⟨w.heap.size, 0, none⟩ = some (.int .i64 0) ∧ w2.cell? ⟨w.heap.size, 1, none⟩ = some (.int .i64 0) ∧ w2.cell? ⟨w.heap.size, 2, none⟩ = some (.int .i64 0)) :=
    ⟨hr, S1.out.2.1.grown hg S1.out.2.1.size (by simp; omega), S1.out.2.2.1.grownBy (World.block_lt_of_cell? _ _ S1.out.2.2.2.1) hg (by simp; omega), hg.cell S1.out.2.2.2.1 (by simp; omega), hg.cell S1.out.2.2.2.2.1 (by simp; omega), hg.cell S1.out.2.2.2.2.2 (by simp; omega)⟩
  clear hr hg b2
  go_wp2_with fail
  refine (pick_b R (0+1) 4 _ S2.out.1 (by omega) (by omega)).mono ?_
  rintro e w3 ⟨r3, rfl, a3, b3, _, hr, hg⟩
  have d3 := b3 (by omega)
  have S3 : Hid (RdB w3 R ((0+1) + 1) ∧ Below w.heap.size w w3 ∧ Free w3 w.heap.size ∧ w3.cell? ⟨w.heap.size, 0, none⟩ = some (.int .i64 0) ∧ w3.cell? ⟨w.heap.size, 1, none⟩ = some (.int .i64 0) ∧ w3.cell? ⟨w.heap.size, 2, none⟩ = some (.int .i64 0)) :=
    ⟨hr, S2.out.2.1.grown hg S2.out.2.1.size (by simp; omega), S2.out.2.2.1.grownBy (World.block_lt_of_cell? _ _ S2.out.2.2.2.1) hg (by simp; omega), hg.cell S2.out.2.2.2.1 (by simp; omega), hg.cell S2.out.2.2.2.2.1 (by simp; omega), hg.cell S2.out.2.2.2.2.2 (by simp; omega)⟩
  clear hr hg b3
  go_wp2_with fail
  refine (pick_b R (0+1+1) 4 _ S3.out.1 (by omega) (by omega)).mono ?_
  rintro e w4 ⟨r4, rfl, a4, b4, _, hr, hg⟩
  have d4 := b4 (by omega)
  have S4 : Hid (RdB w4 R ((0+1+1) + 1) ∧ Below w.heap.size w w4 ∧ Free w4 w.heap.size ∧ w4.cell? ⟨w.heap.size, 0, none⟩ = some (.int .i64 0) ∧ w4.cell? ⟨w.heap.size, 1, none⟩ = some (.int .i64 0) ∧ w4.cell? ⟨w.heap.size, 2, none⟩ = some (.int .i64 0)) :=
    ⟨hr, S3.out.2.1.grown hg S3.out.2.1.size (by simp; omega), S3.out.2.2.1.grownBy (World.block_lt_of_cell? _ _ S3.out.2.2.2.1) hg (by simp; omega), hg.cell S3.out.2.2.2.1 (by simp; omega), hg.cell S3.out.2.2.2.2.1 (by simp; omega), hg.cell S3.out.2.2.2.2.2 (by simp; omega)⟩
  clear hr hg b4
  go_wp2_with fail
  refine (pick_b R (0+1+1+1) 9 _ S4.out.1 (by omega) (by omega)).mono ?_
  rintro e w5 ⟨r5, rfl, a5, b5, _, hr, hg⟩
  have d5 := b5 (by omega)
  have S5 : Hid (RdB w5 R ((0+1+1+1) + 1) ∧ Below w.heap.size w w5 ∧ Free w5 w.heap.size ∧ w5.cell? ⟨w.heap.size, 0, none⟩ = some (.int .i64 0) ∧ w5.cell? ⟨w.heap.size, 1, none⟩ = some (.int .i64 0) ∧ w5.cell? ⟨w.heap.size, 2, none⟩ = some (.int .i64 0)) :=
    ⟨hr, S4.out.2.1.grown hg S4.out.2.1.size (by simp; omega), S4.out.2.2.1.grownBy (World.block_lt_of_cell? _ _ S4.out.2.2.2.1) hg (by simp; omega), hg.cell S4.out.2.2.2.1 (by simp; omega), hg.cell S4.out.2.2.2.2.1 (by simp; omega), hg.cell S4.out.2.2.2.2.2 (by simp; omega)⟩
  clear hr hg b5
  go_wp2_with fail
  refine (pick_b R (0+1+1+1+1) 12 _ S5.out.1 (by omega) (by omega)).mono ?_
  rintro e w6 ⟨r6, rfl, a6, b6, _, hr, hg⟩
  have d6 := b6 (by omega)
  have S6 : Hid (RdB w6 R ((0+1+1+1+1) + 1) ∧ Below w.heap.size w w6 ∧ Free w6 w.heap.size ∧ w6.cell? ⟨w.heap.size, 0, none⟩ = some (.int .i64 0) ∧ w6.cell? ⟨w.heap.size, 1, none⟩ = some (.int .i64 0) ∧ w6.cell? ⟨w.heap.size, 2, none⟩ = some (.int .i64 0)) :=
    ⟨hr, S5.out.2.1.grown hg S5.out.2.1.size (by simp; omega), S5.out.2.2.1.grownBy (World.block_lt_of_cell? _ _ S5.out.2.2.2.1) hg (by simp; omega), hg.cell S5.out.2.2.2.1 (by simp; omega), hg.cell S5.out.2.2.2.2.1 (by simp; omega), hg.cell S5.out.2.2.2.2.2 (by simp; omega)⟩
  clear hr hg b6
  go_wp2_with fail
  refine (pick_b R (0+1+1+1+1+1) 12 _ S6.out.1 (by omega) (by omega)).mono ?_
  rintro e w7 ⟨r7, rfl, a7, b7, _, hr, hg⟩
  have d7 := b7 (by omega)
  have S7 : Hid (RdB w7 R ((0+1+1+1+1+1) + 1) ∧ Below w.heap.size w w7 ∧ Free w7 w.heap.size ∧ w7.cell? ⟨w.heap.size, 0, none⟩ = some (.int .i64 0) ∧ w7.cell? ⟨w.heap.size, 1, none⟩ = some (.int .i64 0) ∧ w7.cell? ⟨w.heap.size, 2, none⟩ = some (.int .i64 0)) :=
    ⟨hr, S6.out.2.1.grown hg S6.out.2.1.size (by simp; omega), S6.out.2.2.1.grownBy (World.block_lt_of_cell? _ _ S6.out.2.2.2.1) hg (by simp; omega), hg.cell S6.out.2.2.2.1 (by simp; omega), hg.cell S6.out.2.2.2.2.1 (by simp; omega), hg.cell S6.out.2.2.2.2.2 (by simp; omega)⟩
  clear hr hg b7
  obtain ⟨_, _, fx, c0, c1, c2⟩ := S7.out
  unfold Free at fx
  go_wp2_with fail
  refine post_named fun w9 hw9 => ?_
  obtain ⟨p0, p1, p2⟩ : w9.cell? ⟨w.heap.size, 0, none⟩ = some (.int .i64 r2) ∧ w9.cell? ⟨w.heap.size, 1, none⟩ = some (.int .i64 r3) ∧ w9.cell? ⟨w.heap.size, 2, none⟩ = some (.int .i64 r4) := by rw [← hw9]; exact set3_cells c0 c1 c2 _ _ _
  have B9 := hide (show Below w.heap.size w w9 by rw [← hw9]; exact ((S7.out.2.1.setCell (Nat.le_refl _) _).setCell (Nat.le_refl _) _).setCell (Nat.le_refl _) _)
  clear hw9 c0 c1 c2
  exact bodyPost_ret (v := .tuple #[.agg #[.int .i64 r2, .int .i64 r3, .int .i64 r4], .int .i64 (r5 + r6 / 11 - r7 / 11 * 9)]) (by simp [results, Try.results23, go_sem, p0, p1, p2]) rfl ⟨r2, r3, r4, _, rfl, ⟨a2, by omega⟩, ⟨a3, by omega⟩, ⟨a4, by omega⟩, by omega, B9.out⟩
def Bx3 (w : World) (g : Nat) (a b c : Int) : Prop := w.cell? ⟨g, 0, none⟩ = some (.int .i64 a) ∧ w.cell? ⟨g, 1, none⟩ = some (.int .i64 b) ∧ w.cell? ⟨g, 2, none⟩ = some (.int .i64 c)
theorem Bx3.lt {w : World} {g : Nat} {a b c : Int} (h : Bx3 w g a b c) : g < w.heap.size := World.block_lt_of_cell? w _ h.1
theorem Bx3.below {w w' : World} {g : Nat} {a b c : Int} (h : Bx3 w g a b c) (hb : Below w.heap.size w w') : Bx3 w' g a b c :=
  ⟨(hb.cell (p := ⟨g, 0, none⟩) h.lt).trans h.1, (hb.cell (p := ⟨g, 1, none⟩) h.lt).trans h.2.1, (hb.cell (p := ⟨g, 2, none⟩) h.lt).trans h.2.2⟩
theorem bitOf_c (r : Int) (l : Int) (x z : Nat) (hr : ((bt x z : Nat) : Int) = r) (hx : wv l x = true) (hz : (z : Int) ≤ l - 1) (w : World) : Calls Try.prog 16 #[.int .i64 l, .int .i64 x, .int .i64 z] w fun e w' => e = .returned (.int .i64 r) ∧ w = w' := by
  subst hr; exact bitOf_ok l x z hx hz w
theorem stepG_len (op x y l : Int) : (stepG op x y l).length ≤ 3 := by
  unfold stepG
  split
  · unfold stepL; split; · simp
    split; · simp
    split; · simp
    split <;> simp
  · simp
set_option maxRecDepth 100000 in
set_option maxHeartbeats 16000000 in
theorem walk_FnStepGates (A : Option Addr) (n c : Nat) (zs : List Int) (w : World) (h : IRk .u8 w A n zs) (hz : ∀ z ∈ zs, (Lit.int .u8 z).wf = true) (hc : n ≤ c) :
    Calls Try.prog 5 #[.slice A n c] w fun e w' => e = .returned (.bool true) ∧ Below w.heap.size w w' := by
  have hmax := h.max
  by_cases hbig : 1048576 < n
  · clear h hz
    go_enter Try.func5, Try.ntmps5
    go_wp2_with fail
    go_ret
    exact ⟨rfl, Below.refl _ _⟩
  have H := hide (drawStepGates_b A n c zs w h hz hc)
  clear h hz
  go_enter Try.func5, Try.ntmps5
  go_wp2_with fail
  refine H.out.mono ?_
  rintro e w1 ⟨op, x, y, l, rfl, hop, hx, hy, hl, hb1⟩
  have hs1 := hb1.size
  have X1 : Hid (Bx3 (w1.alloc (.cells #[.int .i64 op, .int .i64 x, .int .i64 y] 39)) w1.heap.size op x y) := ⟨cell_at rfl rfl, cell_at rfl rfl, cell_at rfl rfl⟩
  have B1 := hide (hb1.alloc hs1 (.cells #[.int .i64 op, .int .i64 x, .int .i64 y] 39))
  have HOP := hide hop
  have HX := hide hx
  have HY := hide hy
  have HL := hide hl
  clear hb1 hop hx hy hl
  go_wp2_with fail
  refine (stepGates_any op x y l HOP.out _).mono ?_
  rintro e w2 ⟨⟨A2, n2, c2, rfl, g2⟩, hb⟩
  have X2 := hide (X1.out.below hb)
  have B2 := hide (B1.out.trans (hb.mono B1.out.size))
  have G2 := hide g2
  have HN2 := hide g2.len
  clear hb g2
  obtain ⟨xc0, xc1, xc2⟩ := X2.out
  go_wp2_with fail
  clear xc0 xc1 xc2
  refine (sStepGates_any op x y l HOP.out _).mono ?_
  rintro e w3 ⟨⟨A3, n3, c3, rfl, g3⟩, hb⟩
  have X3 := hide (X2.out.below hb)
  have B3 := hide (B2.out.trans (hb.mono B2.out.size))
  have G3 := hide (G2.out.below hb)
  obtain rfl : n3 = n2 := by have := HN2.out; have := g3.len; omega
  have GS3 := hide g3
  clear hb g3
  go_wp2_with fail
  refine (sameGates_same _ _ _ _ _ (stepG op x y l) _ G3.out GS3.out).mono ?_
  rintro e w4 ⟨rfl, q4, hq4⟩
  have hb4 : Below w3.heap.size w3 w4 := by rw [hq4]; exact below_drewN (Below.refl _ _) _
  have X4 := hide (X3.out.below hb4)
  have B4 := hide (bseq B3.out hb4)
  have G4' := hide (G3.out.below hb4)
  clear hq4 hb4
  by_cases hgs : stepG op x y l = []
  · obtain rfl : n3 = 0 := by have := HN2.out; rw [hgs] at this; exact this.symm
    clear hgs
    go_wp2_with fail
    refine (alive_any _).mono ?_
    rintro e w' ⟨rfl, rfl⟩
    go_wp2_with fail
    go_ret
    exact ⟨rfl, B4.out⟩
  · obtain ⟨ho3, hl0, hl7⟩ := step_line hgs HOP.out
    obtain ⟨x, rfl⟩ := Int.eq_ofNat_of_zero_le HX.out.1
    obtain ⟨y, rfl⟩ := Int.eq_ofNat_of_zero_le HY.out.1
    obtain ⟨l, rfl⟩ := Int.eq_ofNat_of_zero_le hl0
    have hx' : x ≤ 3 := by have := HX.out; omega
    have hy' : y ≤ 3 := by have := HY.out; omega
    have hl' : l ≤ 7 := by omega
    have hn3 : n3 ≤ 3 := by have := HN2.out; have := stepG_len op x y l; omega
    have hn0 : n3 ≠ 0 := fun e => hgs (List.eq_nil_of_length_eq_zero (by have := HN2.out; omega))
    have en : ((n3 : Int) == 0) = false := by simp; omega
    have hl64 : (l : Int) < 64 := by omega
    have h03 : op = 0 ∨ op = 1 ∨ op = 2 ∨ op = 3 := by have := HOP.out; omega
    clear hn0 ho3 hl0 hl7 HX HY HL
    rcases h03 with rfl | rfl | rfl | rfl
    · obtain ⟨Q, hF⟩ : ∃ Q, StepF 0 x y l Q (stepG 0 x y l) := step_facts (op := 0) (by omega) hx' hy' hl' hgs
      have hw := hF.w
      have hQ := hF.q
      have HF := hide hF
      clear hF hgs HOP
      go_wp2_with fail
      go_loopw [6] (fun iv wr => ∃ j : Nat, j ≤ 256 ∧ iv = .int .i64 j ∧ Hid (Below w4.heap.size w4 wr)) (fun iv _ => 256 - (intOf iv).toNat)
      case atStart => exact ⟨0, by omega, rfl, Below.refl _ _⟩
      case round =>
        obtain ⟨j, hj, rfl, HB⟩ := hrel
        by_cases hlt : j < 256
        · have hvj : wv 8 (j : Int) = true := by rw [show (8 : Int) = ((8 : Nat) : Int) from rfl, wv_nat (by omega) (by omega)]; simpa using hlt
          have HVJ := Lib.hid hvj
          have hlt2 : (j : Int) < 256 := by omega
          rcases bt_01 j l with hbl | hbl
          · have HRun := Lib.hid (HF.out.run j hlt hbl)
            have HBL := hide (bitOf_c 0 8 j l (by rw [hbl]; rfl) hvj (by omega))
            have XW := hide (X4.out.below HB.out)
            have GW := hide (G4'.out.below HB.out)
            obtain ⟨xc0, xc1, xc2⟩ := XW.out
            rcases bt_01 j x with hbx | hbx <;> rcases bt_01 j y with hby | hby
            · have HBX := hide (bitOf_c 0 8 j x (by rw [hbx]; rfl) hvj (by omega))
              have HBY := hide (bitOf_c 0 8 j y (by rw [hby]; rfl) hvj (by omega))
              have HY' := Lib.hid (show circRun 8 (stepG 0 x y l) (j : Int) = (j : Int) by rw [HRun.out, hbx, hby]; simp [want])
              have ev : ((j : Int) != (j : Int)) = false := by simp
              have m1 : min (0 : Int) 0 = 0 := by decide
              have m2 : max (0 : Int) 0 = 0 := by decide
              clear hbl hbx hby hvj HRun
              go_wp2_with fail
              refine (HBL.out _).mono ?_
              rintro e w' ⟨rfl, rfl⟩
              go_wp2_with fail
              refine (HBX.out _).mono ?_
              rintro e w' ⟨rfl, rfl⟩
              go_wp2_with fail
              refine (HBY.out _).mono ?_
              rintro e w' ⟨rfl, rfl⟩
              go_wp2_with fail
              refine wp_region_below (by kernel_rfl) (by kernel_rfl) ?_
              repeat (go_big_quiet_step ((go_at_call 15; exact Calls.regrown_of (circuitRun_v _ 8 _ _ _ _ (j : Int) _ (GW.out.below (below_regrown _ _ _)) HY'.out))))
              refine wpQuiet_nil ?_
              intro p
              obtain ⟨w9, hw9⟩ : ∃ w9, grow (redrawn wr p.d) p.os = w9 := ⟨_, rfl⟩
              have hb9 : Below wr.heap.size wr w9 := by rw [← hw9]; exact below_regrown wr p.d p.os
              rw [hw9]
              have HB9 := hide (bseq HB.out hb9)
              clear hw9 hb9 xc0 xc1 xc2
              go_wp2_with fail
              go_roundw
              case rel => exact ⟨j + 1, by omega, by go_num, HB9.out⟩
              case measure => simp [intOf]; omega
            · have HBX := hide (bitOf_c 0 8 j x (by rw [hbx]; rfl) hvj (by omega))
              have HBY := hide (bitOf_c 1 8 j y (by rw [hby]; rfl) hvj (by omega))
              have HY' := Lib.hid (show circRun 8 (stepG 0 x y l) (j : Int) = (j : Int) by rw [HRun.out, hbx, hby]; simp [want])
              have ev : ((j : Int) != (j : Int)) = false := by simp
              have m1 : min (0 : Int) 1 = 0 := by decide
              have m2 : max (0 : Int) 1 = 1 := by decide
              clear hbl hbx hby hvj HRun
              go_wp2_with fail
              refine (HBL.out _).mono ?_
              rintro e w' ⟨rfl, rfl⟩
              go_wp2_with fail
              refine (HBX.out _).mono ?_
              rintro e w' ⟨rfl, rfl⟩
              go_wp2_with fail
              refine (HBY.out _).mono ?_
              rintro e w' ⟨rfl, rfl⟩
              go_wp2_with fail
              refine wp_region_below (by kernel_rfl) (by kernel_rfl) ?_
              repeat (go_big_quiet_step ((go_at_call 15; exact Calls.regrown_of (circuitRun_v _ 8 _ _ _ _ (j : Int) _ (GW.out.below (below_regrown _ _ _)) HY'.out))))
              refine wpQuiet_nil ?_
              intro p
              obtain ⟨w9, hw9⟩ : ∃ w9, grow (redrawn wr p.d) p.os = w9 := ⟨_, rfl⟩
              have hb9 : Below wr.heap.size wr w9 := by rw [← hw9]; exact below_regrown wr p.d p.os
              rw [hw9]
              have HB9 := hide (bseq HB.out hb9)
              clear hw9 hb9 xc0 xc1 xc2
              go_wp2_with fail
              go_roundw
              case rel => exact ⟨j + 1, by omega, by go_num, HB9.out⟩
              case measure => simp [intOf]; omega
            · have HBX := hide (bitOf_c 1 8 j x (by rw [hbx]; rfl) hvj (by omega))
              have HBY := hide (bitOf_c 0 8 j y (by rw [hby]; rfl) hvj (by omega))
              have HY' := Lib.hid (show circRun 8 (stepG 0 x y l) (j : Int) = (j : Int) by rw [HRun.out, hbx, hby]; simp [want])
              have ev : ((j : Int) != (j : Int)) = false := by simp
              have m1 : min (1 : Int) 0 = 0 := by decide
              have m2 : max (1 : Int) 0 = 1 := by decide
              clear hbl hbx hby hvj HRun
              go_wp2_with fail
              refine (HBL.out _).mono ?_
              rintro e w' ⟨rfl, rfl⟩
              go_wp2_with fail
              refine (HBX.out _).mono ?_
              rintro e w' ⟨rfl, rfl⟩
              go_wp2_with fail
              refine (HBY.out _).mono ?_
              rintro e w' ⟨rfl, rfl⟩
              go_wp2_with fail
              refine wp_region_below (by kernel_rfl) (by kernel_rfl) ?_
              repeat (go_big_quiet_step ((go_at_call 15; exact Calls.regrown_of (circuitRun_v _ 8 _ _ _ _ (j : Int) _ (GW.out.below (below_regrown _ _ _)) HY'.out))))
              refine wpQuiet_nil ?_
              intro p
              obtain ⟨w9, hw9⟩ : ∃ w9, grow (redrawn wr p.d) p.os = w9 := ⟨_, rfl⟩
              have hb9 : Below wr.heap.size wr w9 := by rw [← hw9]; exact below_regrown wr p.d p.os
              rw [hw9]
              have HB9 := hide (bseq HB.out hb9)
              clear hw9 hb9 xc0 xc1 xc2
              go_wp2_with fail
              go_roundw
              case rel => exact ⟨j + 1, by omega, by go_num, HB9.out⟩
              case measure => simp [intOf]; omega
            · have HBX := hide (bitOf_c 1 8 j x (by rw [hbx]; rfl) hvj (by omega))
              have HBY := hide (bitOf_c 1 8 j y (by rw [hby]; rfl) hvj (by omega))
              have HY' := Lib.hid (show circRun 8 (stepG 0 x y l) (j : Int) = ((j : Int) + (Q : Int)) by rw [HRun.out, hbx, hby]; simp [want])
              have ev : (((j : Int) + (Q : Int)) != ((j : Int) + (Q : Int))) = false := by simp
              have m1 : min (1 : Int) 1 = 1 := by decide
              have m2 : max (1 : Int) 1 = 1 := by decide
              clear hbl hbx hby hvj HRun
              go_wp2_with fail
              refine (HBL.out _).mono ?_
              rintro e w' ⟨rfl, rfl⟩
              go_wp2_with fail
              refine (HBX.out _).mono ?_
              rintro e w' ⟨rfl, rfl⟩
              go_wp2_with fail
              refine (HBY.out _).mono ?_
              rintro e w' ⟨rfl, rfl⟩
              go_wp2_with fail
              refine wp_region_below (by kernel_rfl) (by kernel_rfl) ?_
              repeat (go_big_quiet_step ((go_at_call 15; exact Calls.regrown_of (circuitRun_v _ 8 _ _ _ _ (j : Int) _ (GW.out.below (below_regrown _ _ _)) HY'.out))))
              refine wpQuiet_nil ?_
              intro p
              obtain ⟨w9, hw9⟩ : ∃ w9, grow (redrawn wr p.d) p.os = w9 := ⟨_, rfl⟩
              have hb9 : Below wr.heap.size wr w9 := by rw [← hw9]; exact below_regrown wr p.d p.os
              rw [hw9]
              have HB9 := hide (bseq HB.out hb9)
              clear hw9 hb9 xc0 xc1 xc2
              go_wp2_with fail
              go_roundw
              case rel => exact ⟨j + 1, by omega, by go_num, HB9.out⟩
              case measure => simp [intOf]; omega
          · have HBL := hide (bitOf_c 1 8 j l (by rw [hbl]; rfl) hvj (by omega))
            clear hbl hvj
            go_wp2_with fail
            refine (HBL.out _).mono ?_
            rintro e w' ⟨rfl, rfl⟩
            go_wp2_with fail
            go_roundw
            case rel => exact ⟨j + 1, by omega, by go_num, HB⟩
            case measure => simp [intOf]; omega
        · obtain rfl : j = 256 := by omega
          have hn3' : (n3 : Int) ≤ 3 := by omega
          go_wp2_with fail
          go_ret
          exact ⟨by simp; try omega, bseq B4.out HB.out⟩
    · obtain ⟨Q, hF⟩ : ∃ Q, StepF 1 x y l Q (stepG 1 x y l) := step_facts (op := 1) (by omega) hx' hy' hl' hgs
      have hw := hF.w
      have hQ := hF.q
      have HF := hide hF
      clear hF hgs HOP
      go_wp2_with fail
      go_loopw [6] (fun iv wr => ∃ j : Nat, j ≤ 256 ∧ iv = .int .i64 j ∧ Hid (Below w4.heap.size w4 wr)) (fun iv _ => 256 - (intOf iv).toNat)
      case atStart => exact ⟨0, by omega, rfl, Below.refl _ _⟩
      case round =>
        obtain ⟨j, hj, rfl, HB⟩ := hrel
        by_cases hlt : j < 256
        · have hvj : wv 8 (j : Int) = true := by rw [show (8 : Int) = ((8 : Nat) : Int) from rfl, wv_nat (by omega) (by omega)]; simpa using hlt
          have HVJ := Lib.hid hvj
          have hlt2 : (j : Int) < 256 := by omega
          rcases bt_01 j l with hbl | hbl
          · have HRun := Lib.hid (HF.out.run j hlt hbl)
            have HBL := hide (bitOf_c 0 8 j l (by rw [hbl]; rfl) hvj (by omega))
            have XW := hide (X4.out.below HB.out)
            have GW := hide (G4'.out.below HB.out)
            obtain ⟨xc0, xc1, xc2⟩ := XW.out
            rcases bt_01 j x with hbx | hbx <;> rcases bt_01 j y with hby | hby
            · have HBX := hide (bitOf_c 0 8 j x (by rw [hbx]; rfl) hvj (by omega))
              have HBY := hide (bitOf_c 0 8 j y (by rw [hby]; rfl) hvj (by omega))
              have HY' := Lib.hid (show circRun 8 (stepG 1 x y l) (j : Int) = (j : Int) by rw [HRun.out, hbx, hby]; simp [want])
              have ev : ((j : Int) != (j : Int)) = false := by simp
              have m1 : min (0 : Int) 0 = 0 := by decide
              have m2 : max (0 : Int) 0 = 0 := by decide
              clear hbl hbx hby hvj HRun
              go_wp2_with fail
              refine (HBL.out _).mono ?_
              rintro e w' ⟨rfl, rfl⟩
              go_wp2_with fail
              refine (HBX.out _).mono ?_
              rintro e w' ⟨rfl, rfl⟩
              go_wp2_with fail
              refine (HBY.out _).mono ?_
              rintro e w' ⟨rfl, rfl⟩
              go_wp2_with fail
              refine wp_region_below (by kernel_rfl) (by kernel_rfl) ?_
              repeat (go_big_quiet_step ((go_at_call 15; exact Calls.regrown_of (circuitRun_v _ 8 _ _ _ _ (j : Int) _ (GW.out.below (below_regrown _ _ _)) HY'.out))))
              refine wpQuiet_nil ?_
              intro p
              obtain ⟨w9, hw9⟩ : ∃ w9, grow (redrawn wr p.d) p.os = w9 := ⟨_, rfl⟩
              have hb9 : Below wr.heap.size wr w9 := by rw [← hw9]; exact below_regrown wr p.d p.os
              rw [hw9]
              have HB9 := hide (bseq HB.out hb9)
              clear hw9 hb9 xc0 xc1 xc2
              go_wp2_with fail
              go_roundw
              case rel => exact ⟨j + 1, by omega, by go_num, HB9.out⟩
              case measure => simp [intOf]; omega
            · have HBX := hide (bitOf_c 0 8 j x (by rw [hbx]; rfl) hvj (by omega))
              have HBY := hide (bitOf_c 1 8 j y (by rw [hby]; rfl) hvj (by omega))
              have HY' := Lib.hid (show circRun 8 (stepG 1 x y l) (j : Int) = ((j : Int) + (Q : Int)) by rw [HRun.out, hbx, hby]; simp [want])
              have ev : (((j : Int) + (Q : Int)) != ((j : Int) + (Q : Int))) = false := by simp
              have m1 : min (0 : Int) 1 = 0 := by decide
              have m2 : max (0 : Int) 1 = 1 := by decide
              clear hbl hbx hby hvj HRun
              go_wp2_with fail
              refine (HBL.out _).mono ?_
              rintro e w' ⟨rfl, rfl⟩
              go_wp2_with fail
              refine (HBX.out _).mono ?_
              rintro e w' ⟨rfl, rfl⟩
              go_wp2_with fail
              refine (HBY.out _).mono ?_
              rintro e w' ⟨rfl, rfl⟩
              go_wp2_with fail
              refine wp_region_below (by kernel_rfl) (by kernel_rfl) ?_
              repeat (go_big_quiet_step ((go_at_call 15; exact Calls.regrown_of (circuitRun_v _ 8 _ _ _ _ (j : Int) _ (GW.out.below (below_regrown _ _ _)) HY'.out))))
              refine wpQuiet_nil ?_
              intro p
              obtain ⟨w9, hw9⟩ : ∃ w9, grow (redrawn wr p.d) p.os = w9 := ⟨_, rfl⟩
              have hb9 : Below wr.heap.size wr w9 := by rw [← hw9]; exact below_regrown wr p.d p.os
              rw [hw9]
              have HB9 := hide (bseq HB.out hb9)
              clear hw9 hb9 xc0 xc1 xc2
              go_wp2_with fail
              go_roundw
              case rel => exact ⟨j + 1, by omega, by go_num, HB9.out⟩
              case measure => simp [intOf]; omega
            · have HBX := hide (bitOf_c 1 8 j x (by rw [hbx]; rfl) hvj (by omega))
              have HBY := hide (bitOf_c 0 8 j y (by rw [hby]; rfl) hvj (by omega))
              have HY' := Lib.hid (show circRun 8 (stepG 1 x y l) (j : Int) = ((j : Int) + (Q : Int)) by rw [HRun.out, hbx, hby]; simp [want])
              have ev : (((j : Int) + (Q : Int)) != ((j : Int) + (Q : Int))) = false := by simp
              have m1 : min (1 : Int) 0 = 0 := by decide
              have m2 : max (1 : Int) 0 = 1 := by decide
              clear hbl hbx hby hvj HRun
              go_wp2_with fail
              refine (HBL.out _).mono ?_
              rintro e w' ⟨rfl, rfl⟩
              go_wp2_with fail
              refine (HBX.out _).mono ?_
              rintro e w' ⟨rfl, rfl⟩
              go_wp2_with fail
              refine (HBY.out _).mono ?_
              rintro e w' ⟨rfl, rfl⟩
              go_wp2_with fail
              refine wp_region_below (by kernel_rfl) (by kernel_rfl) ?_
              repeat (go_big_quiet_step ((go_at_call 15; exact Calls.regrown_of (circuitRun_v _ 8 _ _ _ _ (j : Int) _ (GW.out.below (below_regrown _ _ _)) HY'.out))))
              refine wpQuiet_nil ?_
              intro p
              obtain ⟨w9, hw9⟩ : ∃ w9, grow (redrawn wr p.d) p.os = w9 := ⟨_, rfl⟩
              have hb9 : Below wr.heap.size wr w9 := by rw [← hw9]; exact below_regrown wr p.d p.os
              rw [hw9]
              have HB9 := hide (bseq HB.out hb9)
              clear hw9 hb9 xc0 xc1 xc2
              go_wp2_with fail
              go_roundw
              case rel => exact ⟨j + 1, by omega, by go_num, HB9.out⟩
              case measure => simp [intOf]; omega
            · have HBX := hide (bitOf_c 1 8 j x (by rw [hbx]; rfl) hvj (by omega))
              have HBY := hide (bitOf_c 1 8 j y (by rw [hby]; rfl) hvj (by omega))
              have HY' := Lib.hid (show circRun 8 (stepG 1 x y l) (j : Int) = ((j : Int) + (Q : Int)) by rw [HRun.out, hbx, hby]; simp [want])
              have ev : (((j : Int) + (Q : Int)) != ((j : Int) + (Q : Int))) = false := by simp
              have m1 : min (1 : Int) 1 = 1 := by decide
              have m2 : max (1 : Int) 1 = 1 := by decide
              clear hbl hbx hby hvj HRun
              go_wp2_with fail
              refine (HBL.out _).mono ?_
              rintro e w' ⟨rfl, rfl⟩
              go_wp2_with fail
              refine (HBX.out _).mono ?_
              rintro e w' ⟨rfl, rfl⟩
              go_wp2_with fail
              refine (HBY.out _).mono ?_
              rintro e w' ⟨rfl, rfl⟩
              go_wp2_with fail
              refine wp_region_below (by kernel_rfl) (by kernel_rfl) ?_
              repeat (go_big_quiet_step ((go_at_call 15; exact Calls.regrown_of (circuitRun_v _ 8 _ _ _ _ (j : Int) _ (GW.out.below (below_regrown _ _ _)) HY'.out))))
              refine wpQuiet_nil ?_
              intro p
              obtain ⟨w9, hw9⟩ : ∃ w9, grow (redrawn wr p.d) p.os = w9 := ⟨_, rfl⟩
              have hb9 : Below wr.heap.size wr w9 := by rw [← hw9]; exact below_regrown wr p.d p.os
              rw [hw9]
              have HB9 := hide (bseq HB.out hb9)
              clear hw9 hb9 xc0 xc1 xc2
              go_wp2_with fail
              go_roundw
              case rel => exact ⟨j + 1, by omega, by go_num, HB9.out⟩
              case measure => simp [intOf]; omega
          · have HBL := hide (bitOf_c 1 8 j l (by rw [hbl]; rfl) hvj (by omega))
            clear hbl hvj
            go_wp2_with fail
            refine (HBL.out _).mono ?_
            rintro e w' ⟨rfl, rfl⟩
            go_wp2_with fail
            go_roundw
            case rel => exact ⟨j + 1, by omega, by go_num, HB⟩
            case measure => simp [intOf]; omega
        · obtain rfl : j = 256 := by omega
          have hn3' : (n3 : Int) ≤ 3 := by omega
          go_wp2_with fail
          go_ret
          exact ⟨by simp; try omega, bseq B4.out HB.out⟩
    · obtain ⟨Q, hF⟩ : ∃ Q, StepF 2 x y l Q (stepG 2 x y l) := step_facts (op := 2) (by omega) hx' hy' hl' hgs
      have hw := hF.w
      have hQ := hF.q
      have HF := hide hF
      clear hF hgs HOP
      go_wp2_with fail
      go_loopw [6] (fun iv wr => ∃ j : Nat, j ≤ 256 ∧ iv = .int .i64 j ∧ Hid (Below w4.heap.size w4 wr)) (fun iv _ => 256 - (intOf iv).toNat)
      case atStart => exact ⟨0, by omega, rfl, Below.refl _ _⟩
      case round =>
        obtain ⟨j, hj, rfl, HB⟩ := hrel
        by_cases hlt : j < 256
        · have hvj : wv 8 (j : Int) = true := by rw [show (8 : Int) = ((8 : Nat) : Int) from rfl, wv_nat (by omega) (by omega)]; simpa using hlt
          have HVJ := Lib.hid hvj
          have hlt2 : (j : Int) < 256 := by omega
          rcases bt_01 j l with hbl | hbl
          · have HRun := Lib.hid (HF.out.run j hlt hbl)
            have HBL := hide (bitOf_c 0 8 j l (by rw [hbl]; rfl) hvj (by omega))
            have XW := hide (X4.out.below HB.out)
            have GW := hide (G4'.out.below HB.out)
            obtain ⟨xc0, xc1, xc2⟩ := XW.out
            rcases bt_01 j x with hbx | hbx <;> rcases bt_01 j y with hby | hby
            · have HBX := hide (bitOf_c 0 8 j x (by rw [hbx]; rfl) hvj (by omega))
              have HBY := hide (bitOf_c 0 8 j y (by rw [hby]; rfl) hvj (by omega))
              have HY' := Lib.hid (show circRun 8 (stepG 2 x y l) (j : Int) = (j : Int) by rw [HRun.out, hbx, hby]; simp [want])
              have ev : ((j : Int) != (j : Int)) = false := by simp
              have m1 : min (0 : Int) 0 = 0 := by decide
              have m2 : max (0 : Int) 0 = 0 := by decide
              clear hbl hbx hby hvj HRun
              go_wp2_with fail
              refine (HBL.out _).mono ?_
              rintro e w' ⟨rfl, rfl⟩
              go_wp2_with fail
              refine (HBX.out _).mono ?_
              rintro e w' ⟨rfl, rfl⟩
              go_wp2_with fail
              refine (HBY.out _).mono ?_
              rintro e w' ⟨rfl, rfl⟩
              go_wp2_with fail
              refine wp_region_below (by kernel_rfl) (by kernel_rfl) ?_
              repeat (go_big_quiet_step ((go_at_call 15; exact Calls.regrown_of (circuitRun_v _ 8 _ _ _ _ (j : Int) _ (GW.out.below (below_regrown _ _ _)) HY'.out))))
              refine wpQuiet_nil ?_
              intro p
              obtain ⟨w9, hw9⟩ : ∃ w9, grow (redrawn wr p.d) p.os = w9 := ⟨_, rfl⟩
              have hb9 : Below wr.heap.size wr w9 := by rw [← hw9]; exact below_regrown wr p.d p.os
              rw [hw9]
              have HB9 := hide (bseq HB.out hb9)
              clear hw9 hb9 xc0 xc1 xc2
              go_wp2_with fail
              go_roundw
              case rel => exact ⟨j + 1, by omega, by go_num, HB9.out⟩
              case measure => simp [intOf]; omega
            · have HBX := hide (bitOf_c 0 8 j x (by rw [hbx]; rfl) hvj (by omega))
              have HBY := hide (bitOf_c 1 8 j y (by rw [hby]; rfl) hvj (by omega))
              have HY' := Lib.hid (show circRun 8 (stepG 2 x y l) (j : Int) = ((j : Int) + (Q : Int)) by rw [HRun.out, hbx, hby]; simp [want])
              have ev : (((j : Int) + (Q : Int)) != ((j : Int) + (Q : Int))) = false := by simp
              have m1 : min (0 : Int) 1 = 0 := by decide
              have m2 : max (0 : Int) 1 = 1 := by decide
              clear hbl hbx hby hvj HRun
              go_wp2_with fail
              refine (HBL.out _).mono ?_
              rintro e w' ⟨rfl, rfl⟩
              go_wp2_with fail
              refine (HBX.out _).mono ?_
              rintro e w' ⟨rfl, rfl⟩
              go_wp2_with fail
              refine (HBY.out _).mono ?_
              rintro e w' ⟨rfl, rfl⟩
              go_wp2_with fail
              refine wp_region_below (by kernel_rfl) (by kernel_rfl) ?_
              repeat (go_big_quiet_step ((go_at_call 15; exact Calls.regrown_of (circuitRun_v _ 8 _ _ _ _ (j : Int) _ (GW.out.below (below_regrown _ _ _)) HY'.out))))
              refine wpQuiet_nil ?_
              intro p
              obtain ⟨w9, hw9⟩ : ∃ w9, grow (redrawn wr p.d) p.os = w9 := ⟨_, rfl⟩
              have hb9 : Below wr.heap.size wr w9 := by rw [← hw9]; exact below_regrown wr p.d p.os
              rw [hw9]
              have HB9 := hide (bseq HB.out hb9)
              clear hw9 hb9 xc0 xc1 xc2
              go_wp2_with fail
              go_roundw
              case rel => exact ⟨j + 1, by omega, by go_num, HB9.out⟩
              case measure => simp [intOf]; omega
            · have HBX := hide (bitOf_c 1 8 j x (by rw [hbx]; rfl) hvj (by omega))
              have HBY := hide (bitOf_c 0 8 j y (by rw [hby]; rfl) hvj (by omega))
              have HY' := Lib.hid (show circRun 8 (stepG 2 x y l) (j : Int) = ((j : Int) + (Q : Int)) by rw [HRun.out, hbx, hby]; simp [want])
              have ev : (((j : Int) + (Q : Int)) != ((j : Int) + (Q : Int))) = false := by simp
              have m1 : min (1 : Int) 0 = 0 := by decide
              have m2 : max (1 : Int) 0 = 1 := by decide
              clear hbl hbx hby hvj HRun
              go_wp2_with fail
              refine (HBL.out _).mono ?_
              rintro e w' ⟨rfl, rfl⟩
              go_wp2_with fail
              refine (HBX.out _).mono ?_
              rintro e w' ⟨rfl, rfl⟩
              go_wp2_with fail
              refine (HBY.out _).mono ?_
              rintro e w' ⟨rfl, rfl⟩
              go_wp2_with fail
              refine wp_region_below (by kernel_rfl) (by kernel_rfl) ?_
              repeat (go_big_quiet_step ((go_at_call 15; exact Calls.regrown_of (circuitRun_v _ 8 _ _ _ _ (j : Int) _ (GW.out.below (below_regrown _ _ _)) HY'.out))))
              refine wpQuiet_nil ?_
              intro p
              obtain ⟨w9, hw9⟩ : ∃ w9, grow (redrawn wr p.d) p.os = w9 := ⟨_, rfl⟩
              have hb9 : Below wr.heap.size wr w9 := by rw [← hw9]; exact below_regrown wr p.d p.os
              rw [hw9]
              have HB9 := hide (bseq HB.out hb9)
              clear hw9 hb9 xc0 xc1 xc2
              go_wp2_with fail
              go_roundw
              case rel => exact ⟨j + 1, by omega, by go_num, HB9.out⟩
              case measure => simp [intOf]; omega
            · have HBX := hide (bitOf_c 1 8 j x (by rw [hbx]; rfl) hvj (by omega))
              have HBY := hide (bitOf_c 1 8 j y (by rw [hby]; rfl) hvj (by omega))
              have HY' := Lib.hid (show circRun 8 (stepG 2 x y l) (j : Int) = (j : Int) by rw [HRun.out, hbx, hby]; simp [want])
              have ev : ((j : Int) != (j : Int)) = false := by simp
              have m1 : min (1 : Int) 1 = 1 := by decide
              have m2 : max (1 : Int) 1 = 1 := by decide
              clear hbl hbx hby hvj HRun
              go_wp2_with fail
              refine (HBL.out _).mono ?_
              rintro e w' ⟨rfl, rfl⟩
              go_wp2_with fail
              refine (HBX.out _).mono ?_
              rintro e w' ⟨rfl, rfl⟩
              go_wp2_with fail
              refine (HBY.out _).mono ?_
              rintro e w' ⟨rfl, rfl⟩
              go_wp2_with fail
              refine wp_region_below (by kernel_rfl) (by kernel_rfl) ?_
              repeat (go_big_quiet_step ((go_at_call 15; exact Calls.regrown_of (circuitRun_v _ 8 _ _ _ _ (j : Int) _ (GW.out.below (below_regrown _ _ _)) HY'.out))))
              refine wpQuiet_nil ?_
              intro p
              obtain ⟨w9, hw9⟩ : ∃ w9, grow (redrawn wr p.d) p.os = w9 := ⟨_, rfl⟩
              have hb9 : Below wr.heap.size wr w9 := by rw [← hw9]; exact below_regrown wr p.d p.os
              rw [hw9]
              have HB9 := hide (bseq HB.out hb9)
              clear hw9 hb9 xc0 xc1 xc2
              go_wp2_with fail
              go_roundw
              case rel => exact ⟨j + 1, by omega, by go_num, HB9.out⟩
              case measure => simp [intOf]; omega
          · have HBL := hide (bitOf_c 1 8 j l (by rw [hbl]; rfl) hvj (by omega))
            clear hbl hvj
            go_wp2_with fail
            refine (HBL.out _).mono ?_
            rintro e w' ⟨rfl, rfl⟩
            go_wp2_with fail
            go_roundw
            case rel => exact ⟨j + 1, by omega, by go_num, HB⟩
            case measure => simp [intOf]; omega
        · obtain rfl : j = 256 := by omega
          have hn3' : (n3 : Int) ≤ 3 := by omega
          go_wp2_with fail
          go_ret
          exact ⟨by simp; try omega, bseq B4.out HB.out⟩
    · obtain ⟨Q, hF⟩ : ∃ Q, StepF 3 x y l Q (stepG 3 x y l) := step_facts (op := 3) (by omega) hx' hy' hl' hgs
      have hw := hF.w
      have hQ := hF.q
      have HF := hide hF
      clear hF hgs HOP
      go_wp2_with fail
      go_loopw [6] (fun iv wr => ∃ j : Nat, j ≤ 256 ∧ iv = .int .i64 j ∧ Hid (Below w4.heap.size w4 wr)) (fun iv _ => 256 - (intOf iv).toNat)
      case atStart => exact ⟨0, by omega, rfl, Below.refl _ _⟩
      case round =>
        obtain ⟨j, hj, rfl, HB⟩ := hrel
        by_cases hlt : j < 256
        · have hvj : wv 8 (j : Int) = true := by rw [show (8 : Int) = ((8 : Nat) : Int) from rfl, wv_nat (by omega) (by omega)]; simpa using hlt
          have HVJ := Lib.hid hvj
          have hlt2 : (j : Int) < 256 := by omega
          rcases bt_01 j l with hbl | hbl
          · have HRun := Lib.hid (HF.out.run j hlt hbl)
            have HBL := hide (bitOf_c 0 8 j l (by rw [hbl]; rfl) hvj (by omega))
            have XW := hide (X4.out.below HB.out)
            have GW := hide (G4'.out.below HB.out)
            obtain ⟨xc0, xc1, xc2⟩ := XW.out
            rcases bt_01 j x with hbx | hbx <;> rcases bt_01 j y with hby | hby
            · have HBX := hide (bitOf_c 0 8 j x (by rw [hbx]; rfl) hvj (by omega))
              have HBY := hide (bitOf_c 0 8 j y (by rw [hby]; rfl) hvj (by omega))
              have HY' := Lib.hid (show circRun 8 (stepG 3 x y l) (j : Int) = ((j : Int) + (Q : Int)) by rw [HRun.out, hbx, hby]; simp [want])
              have ev : (((j : Int) + (Q : Int)) != ((j : Int) + (Q : Int))) = false := by simp
              have m1 : min (0 : Int) 0 = 0 := by decide
              have m2 : max (0 : Int) 0 = 0 := by decide
              clear hbl hbx hby hvj HRun
              go_wp2_with fail
              refine (HBL.out _).mono ?_
              rintro e w' ⟨rfl, rfl⟩
              go_wp2_with fail
              refine (HBX.out _).mono ?_
              rintro e w' ⟨rfl, rfl⟩
              go_wp2_with fail
              refine (HBY.out _).mono ?_
              rintro e w' ⟨rfl, rfl⟩
              go_wp2_with fail
              refine wp_region_below (by kernel_rfl) (by kernel_rfl) ?_
              repeat (go_big_quiet_step ((go_at_call 15; exact Calls.regrown_of (circuitRun_v _ 8 _ _ _ _ (j : Int) _ (GW.out.below (below_regrown _ _ _)) HY'.out))))
              refine wpQuiet_nil ?_
              intro p
              obtain ⟨w9, hw9⟩ : ∃ w9, grow (redrawn wr p.d) p.os = w9 := ⟨_, rfl⟩
              have hb9 : Below wr.heap.size wr w9 := by rw [← hw9]; exact below_regrown wr p.d p.os
              rw [hw9]
              have HB9 := hide (bseq HB.out hb9)
              clear hw9 hb9 xc0 xc1 xc2
              go_wp2_with fail
              go_roundw
              case rel => exact ⟨j + 1, by omega, by go_num, HB9.out⟩
              case measure => simp [intOf]; omega
            · have HBX := hide (bitOf_c 0 8 j x (by rw [hbx]; rfl) hvj (by omega))
              have HBY := hide (bitOf_c 1 8 j y (by rw [hby]; rfl) hvj (by omega))
              have HY' := Lib.hid (show circRun 8 (stepG 3 x y l) (j : Int) = ((j : Int) + (Q : Int)) by rw [HRun.out, hbx, hby]; simp [want])
              have ev : (((j : Int) + (Q : Int)) != ((j : Int) + (Q : Int))) = false := by simp
              have m1 : min (0 : Int) 1 = 0 := by decide
              have m2 : max (0 : Int) 1 = 1 := by decide
              clear hbl hbx hby hvj HRun
              go_wp2_with fail
              refine (HBL.out _).mono ?_
              rintro e w' ⟨rfl, rfl⟩
              go_wp2_with fail
              refine (HBX.out _).mono ?_
              rintro e w' ⟨rfl, rfl⟩
              go_wp2_with fail
              refine (HBY.out _).mono ?_
              rintro e w' ⟨rfl, rfl⟩
              go_wp2_with fail
              refine wp_region_below (by kernel_rfl) (by kernel_rfl) ?_
              repeat (go_big_quiet_step ((go_at_call 15; exact Calls.regrown_of (circuitRun_v _ 8 _ _ _ _ (j : Int) _ (GW.out.below (below_regrown _ _ _)) HY'.out))))
              refine wpQuiet_nil ?_
              intro p
              obtain ⟨w9, hw9⟩ : ∃ w9, grow (redrawn wr p.d) p.os = w9 := ⟨_, rfl⟩
              have hb9 : Below wr.heap.size wr w9 := by rw [← hw9]; exact below_regrown wr p.d p.os
              rw [hw9]
              have HB9 := hide (bseq HB.out hb9)
              clear hw9 hb9 xc0 xc1 xc2
              go_wp2_with fail
              go_roundw
              case rel => exact ⟨j + 1, by omega, by go_num, HB9.out⟩
              case measure => simp [intOf]; omega
            · have HBX := hide (bitOf_c 1 8 j x (by rw [hbx]; rfl) hvj (by omega))
              have HBY := hide (bitOf_c 0 8 j y (by rw [hby]; rfl) hvj (by omega))
              have HY' := Lib.hid (show circRun 8 (stepG 3 x y l) (j : Int) = (j : Int) by rw [HRun.out, hbx, hby]; simp [want])
              have ev : ((j : Int) != (j : Int)) = false := by simp
              have m1 : min (1 : Int) 0 = 0 := by decide
              have m2 : max (1 : Int) 0 = 1 := by decide
              clear hbl hbx hby hvj HRun
              go_wp2_with fail
              refine (HBL.out _).mono ?_
              rintro e w' ⟨rfl, rfl⟩
              go_wp2_with fail
              refine (HBX.out _).mono ?_
              rintro e w' ⟨rfl, rfl⟩
              go_wp2_with fail
              refine (HBY.out _).mono ?_
              rintro e w' ⟨rfl, rfl⟩
              go_wp2_with fail
              refine wp_region_below (by kernel_rfl) (by kernel_rfl) ?_
              repeat (go_big_quiet_step ((go_at_call 15; exact Calls.regrown_of (circuitRun_v _ 8 _ _ _ _ (j : Int) _ (GW.out.below (below_regrown _ _ _)) HY'.out))))
              refine wpQuiet_nil ?_
              intro p
              obtain ⟨w9, hw9⟩ : ∃ w9, grow (redrawn wr p.d) p.os = w9 := ⟨_, rfl⟩
              have hb9 : Below wr.heap.size wr w9 := by rw [← hw9]; exact below_regrown wr p.d p.os
              rw [hw9]
              have HB9 := hide (bseq HB.out hb9)
              clear hw9 hb9 xc0 xc1 xc2
              go_wp2_with fail
              go_roundw
              case rel => exact ⟨j + 1, by omega, by go_num, HB9.out⟩
              case measure => simp [intOf]; omega
            · have HBX := hide (bitOf_c 1 8 j x (by rw [hbx]; rfl) hvj (by omega))
              have HBY := hide (bitOf_c 1 8 j y (by rw [hby]; rfl) hvj (by omega))
              have HY' := Lib.hid (show circRun 8 (stepG 3 x y l) (j : Int) = (j : Int) by rw [HRun.out, hbx, hby]; simp [want])
              have ev : ((j : Int) != (j : Int)) = false := by simp
              have m1 : min (1 : Int) 1 = 1 := by decide
              have m2 : max (1 : Int) 1 = 1 := by decide
              clear hbl hbx hby hvj HRun
              go_wp2_with fail
              refine (HBL.out _).mono ?_
              rintro e w' ⟨rfl, rfl⟩
              go_wp2_with fail
              refine (HBX.out _).mono ?_
              rintro e w' ⟨rfl, rfl⟩
              go_wp2_with fail
              refine (HBY.out _).mono ?_
              rintro e w' ⟨rfl, rfl⟩
              go_wp2_with fail
              refine wp_region_below (by kernel_rfl) (by kernel_rfl) ?_
              repeat (go_big_quiet_step ((go_at_call 15; exact Calls.regrown_of (circuitRun_v _ 8 _ _ _ _ (j : Int) _ (GW.out.below (below_regrown _ _ _)) HY'.out))))
              refine wpQuiet_nil ?_
              intro p
              obtain ⟨w9, hw9⟩ : ∃ w9, grow (redrawn wr p.d) p.os = w9 := ⟨_, rfl⟩
              have hb9 : Below wr.heap.size wr w9 := by rw [← hw9]; exact below_regrown wr p.d p.os
              rw [hw9]
              have HB9 := hide (bseq HB.out hb9)
              clear hw9 hb9 xc0 xc1 xc2
              go_wp2_with fail
              go_roundw
              case rel => exact ⟨j + 1, by omega, by go_num, HB9.out⟩
              case measure => simp [intOf]; omega
          · have HBL := hide (bitOf_c 1 8 j l (by rw [hbl]; rfl) hvj (by omega))
            clear hbl hvj
            go_wp2_with fail
            refine (HBL.out _).mono ?_
            rintro e w' ⟨rfl, rfl⟩
            go_wp2_with fail
            go_roundw
            case rel => exact ⟨j + 1, by omega, by go_num, HB⟩
            case measure => simp [intOf]; omega
        · obtain rfl : j = 256 := by omega
          have hn3' : (n3 : Int) ≤ 3 := by omega
          go_wp2_with fail
          go_ret
          exact ⟨by simp; try omega, bseq B4.out HB.out⟩
end Go.Proofs.Ytdkphnojloanoaa
