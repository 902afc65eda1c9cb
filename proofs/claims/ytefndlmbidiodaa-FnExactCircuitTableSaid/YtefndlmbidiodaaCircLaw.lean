/-
  Circuits handed over and compared.
  No condition.
-/
import Derived.Test.YtefndlmbidiodaaCirc2
import Derived.Test.YtefndlmbidiodaaMoves
namespace Go.Proofs.Ytefndlmbidiodaa
open Go.RowKit Go.Sort base
theorem gate_info : (Try.prog.info? 25).map (fun i => (i.zero, i.size, i.bytes)) = some (some (.agg #[.int .i64 0, .int .i64 0, .int .i64 0, .int .i64 0]), 4, 32) := by kernel_rfl
theorem laid_set {w : World} {g : Nat} {cur : Array Value} {t : TypeId} (h : w.heap[g]? = some (.cells cur t (0, 0))) (i : Nat) (v : Value) : (w.setCell ⟨g, i, none⟩ v).heap[g]? = some (.cells (cur.setIfInBounds i v) t (0, 0)) := heap_setCell_same w g i _ _ _ h
theorem laid_cell {w : World} {g : Nat} {cur : Array Value} {t : TypeId} (h : w.heap[g]? = some (.cells cur t (0, 0))) {i : Nat} (hi : i < cur.size) : ∃ v, w.cell? ⟨g, i, none⟩ = some v := ⟨cur[i], by rw [cell_of_row w g i cur t (0, 0) h]; simp [hi]⟩
/-- the gates that lie in a block, the first j of them known -/
def Laid (w : World) (g n : Nat) (gs : List G4) (j : Nat) : Prop := (∃ cur, w.heap[g]? = some (.cells cur 25 (0, 0)) ∧ cur.size = 4 * n) ∧ ∀ i, i < j → GAt w g (i * 4) (gth gs i)
theorem GAt.put {w : World} {g q : Nat} {x0 x1 x2 x3 : Value} (c0 : w.cell? ⟨g, q, none⟩ = some x0) (c1 : w.cell? ⟨g, q + 1, none⟩ = some x1) (c2 : w.cell? ⟨g, q + 2, none⟩ = some x2) (c3 : w.cell? ⟨g, q + 3, none⟩ = some x3) (k a b c : Int) :
    GAt ((((w.setCell ⟨g, q, none⟩ (.int .i64 k)).setCell ⟨g, q + 1, none⟩ (.int .i64 a)).setCell ⟨g, q + 2, none⟩ (.int .i64 b)).setCell ⟨g, q + 3, none⟩ (.int .i64 c)) g q (k, a, b, c) := by
  refine ⟨?_, ?_, ?_, ?_⟩
  · rw [World.cell?_setCell_other _ _ _ _ (by simp), World.cell?_setCell_other _ _ _ _ (by simp), World.cell?_setCell_other _ _ _ _ (by simp)]
    exact World.cell?_setCell_same _ _ _ c0
  · rw [World.cell?_setCell_other _ _ _ _ (by simp), World.cell?_setCell_other _ _ _ _ (by simp)]
    exact World.cell?_setCell_same _ _ _ (by rw [World.cell?_setCell_other _ _ _ _ (by simp)]; exact c1)
  · rw [World.cell?_setCell_other _ _ _ _ (by simp)]
    exact World.cell?_setCell_same _ _ _ (by rw [World.cell?_setCell_other _ _ _ _ (by simp), World.cell?_setCell_other _ _ _ _ (by simp)]; exact c2)
  · exact World.cell?_setCell_same _ _ _ (by rw [World.cell?_setCell_other _ _ _ _ (by simp), World.cell?_setCell_other _ _ _ _ (by simp), World.cell?_setCell_other _ _ _ _ (by simp)]; exact c3)
theorem GAt.far {w : World} {g q q' : Nat} {g4 : G4} {v : Value} (h : GAt w g q g4) (hq : q' < q ∨ q + 4 ≤ q') : GAt (w.setCell ⟨g, q', none⟩ v) g q g4 := by
  obtain ⟨h0, h1, h2, h3⟩ := h
  refine ⟨?_, ?_, ?_, ?_⟩ <;> (rw [World.cell?_setCell_other _ _ _ _ (by simp; try omega)]; assumption)
theorem Laid.put {w : World} {g n j : Nat} {gs : List G4} {k a b c : Int} (h : Laid w g n gs j) (hj : j < n) (hg : gth gs j = (k, a, b, c)) :
    Laid ((((w.setCell ⟨g, j * 4, none⟩ (.int .i64 k)).setCell ⟨g, j * 4 + 1, none⟩ (.int .i64 a)).setCell ⟨g, j * 4 + 2, none⟩ (.int .i64 b)).setCell ⟨g, j * 4 + 3, none⟩ (.int .i64 c)) g n gs (j + 1) := by
  obtain ⟨⟨cur, hc, hs⟩, hi⟩ := h
  refine ⟨⟨_, laid_set (laid_set (laid_set (laid_set hc _ _) _ _) _ _) _ _, by simpa using hs⟩, fun i hij => ?_⟩
  by_cases e : i = j
  · subst e
    rw [hg]
    obtain ⟨x0, c0⟩ := laid_cell hc (i := i * 4) (by omega)
    obtain ⟨x1, c1⟩ := laid_cell hc (i := i * 4 + 1) (by omega)
    obtain ⟨x2, c2⟩ := laid_cell hc (i := i * 4 + 2) (by omega)
    obtain ⟨x3, c3⟩ := laid_cell hc (i := i * 4 + 3) (by omega)
    exact GAt.put c0 c1 c2 c3 k a b c
  · have := hi i (by omega)
    exact (((this.far (by omega)).far (by omega)).far (by omega)).far (by omega)
theorem Laid.below {w w' : World} {g n j : Nat} {gs : List G4} (h : Laid w g n gs j) (hb : Below w.heap.size w w') : Laid w' g n gs j := by
  obtain ⟨⟨cur, hc, hs⟩, hi⟩ := h
  have hlt : g < w.heap.size := (Array.getElem?_eq_some_iff.1 hc).1
  refine ⟨⟨cur, (hb.block g hlt).trans hc, hs⟩, fun i hij => ?_⟩
  obtain ⟨h0, h1, h2, h3⟩ := hi i hij
  exact ⟨(hb.cell (p := ⟨g, _, none⟩) hlt).trans h0, (hb.cell (p := ⟨g, _, none⟩) hlt).trans h1, (hb.cell (p := ⟨g, _, none⟩) hlt).trans h2, (hb.cell (p := ⟨g, _, none⟩) hlt).trans h3⟩
theorem Laid.gr {w : World} {g n : Nat} {gs : List G4} (h : Laid w g n gs n) (hl : gs.length = n) (hn : n ≤ 4194304) : GR w (some ⟨g, 0, none⟩) n gs := by
  obtain ⟨⟨cur, hc, hs⟩, hi⟩ := h
  refine ⟨hl, by omega, fun _ => ⟨g, 0, rfl, (Array.getElem?_eq_some_iff.1 hc).1, fun i hi' => ?_⟩⟩
  rw [Nat.zero_add]
  exact hi i hi'
theorem Laid.frozen {w : World} {g n j : Nat} {gs : List G4} (h : Laid w g n gs j) (i : Nat) : w.frozen? ⟨g, i, none⟩ = false := by
  obtain ⟨⟨cur, hc, hs⟩, hi⟩ := h
  exact frozen_of_row w g i cur _ hc
set_option maxHeartbeats 400000 in
theorem szGateS_any (A : Option Addr) (n c : Nat) (left : Int) (w : World) (hl : 0 ≤ left ∧ left ≤ 1048576) (hn : n ≤ 9223372036854775807) :
    Calls Try.prog 17 #[.slice A n c, .int .i64 left] w fun e w' => e = .returned (.int .i64 (if left < n then -1 else left - n)) ∧ w = w' := by
  obtain ⟨h1, h2⟩ := hl
  by_cases h : left < n
  · have h' : left - (n : Int) < 0 := by omega
    go_enter Try.func17, Try.ntmps17
    go_wp2_with fail
    go_ret
    exact ⟨rfl, rfl⟩
  · have h' : ¬ left - (n : Int) < 0 := by omega
    have h'' : n ≤ 1048576 := by omega
    go_enter Try.func17, Try.ntmps17
    go_wp2_with fail
    go_ret
    exact ⟨rfl, rfl⟩
set_option maxHeartbeats 4000000 in
theorem toGateS_any (A : Option Addr) (n c : Nat) (gs : List G4) (w : World) (h : GR w A n gs) (hn : n ≤ 1048576) :
    Calls Try.prog 19 #[.slice A n c] w fun e w' => (∃ g, e = .returned (.slice (some ⟨g, 0, none⟩) n n) ∧ w.heap.size ≤ g ∧ Laid w' g n gs n) ∧ Below w.heap.size w w' := by
  obtain ⟨i0, hi, hz0, hz1, hz2⟩ := info_parts gate_info
  have HR0 := hide h
  have HLen := Lib.hid h.len
  clear h
  go_enter Try.func19, Try.ntmps19
  go_wp2_with (at_make; refine wpList_make_full _ rfl _ _ 35 rfl w.heap.size 25 i0 _ 4 Try.underlying35 hi hz0 hz1 _ _ _ _ n rfl rfl rfl rfl (by rw [hz2]; omega) (by unfold maxLen; omega) (Nat.le_refl _) ?_; intro w1 hown hgrow)
  have hb1 : Below w.heap.size w w1 := (Below.refl _ _).grown hgrow (Nat.le_refl _) (by simp)
  have HLd : Hid (Laid w1 w.heap.size n gs 0) := by
    rcases hown.2 with ⟨h1, _⟩ | ⟨g', cap, cur, h1, hb, hg, hn', hm, hs, ht⟩
    · cases h1
    · simp only [Value.slice.injEq, Option.some.injEq, Addr.mk.injEq, and_true, true_and] at h1
      obtain ⟨rfl, rfl⟩ := h1
      exact ⟨⟨cur, hg, by rw [hs]; omega⟩, fun i hi => absurd hi (by omega)⟩
  have HB1 := hide hb1
  have HS1 := hide hb1.size
  clear hgrow hi hz0 hz1 hz2 hown hb1
  go_wp2_with fail
  go_loopw [4] (fun iv wr => ∃ j : Nat, j ≤ n ∧ iv = .int .i64 j ∧ Hid (Laid wr w.heap.size n gs j) ∧ Hid (Below w.heap.size w wr)) (fun iv _ => n - (intOf iv).toNat)
  case atStart => exact ⟨0, by omega, rfl, HLd.out, HB1.out⟩
  case round =>
    obtain ⟨j, hj, rfl, HL, HB⟩ := hrel
    have HR := hide (HR0.out.below HB.out)
    by_cases hlt : j < n
    · obtain ⟨b, o, rfl, hbl, hcc⟩ := HR.out.at_ (by omega)
      obtain ⟨⟨k, a, b', c'⟩, hg⟩ : ∃ g, gth gs j = g := ⟨_, rfl⟩
      have HG := Lib.hid hg
      obtain ⟨g0, g1, g2, g3⟩ := hcc j hlt
      rw [hg] at g0 g1 g2 g3
      simp only at g0 g1 g2 g3
      clear hcc hg
      go_wp2_with fail
      refine (toGate_any k a b' c' _).mono ?_
      rintro e w2 ⟨rfl, hb2⟩
      have HL2 := hide (HL.out.below hb2)
      have HB2 := hide (bseq HB.out hb2)
      have hs2 := HB2.out.size
      clear hb2 g0 g1 g2 g3
      obtain ⟨⟨cur, hc, hs⟩, _⟩ := HL2.out
      obtain ⟨x0, c0⟩ := laid_cell hc (i := j * 4) (by omega)
      obtain ⟨x1, c1⟩ := laid_cell hc (i := j * 4 + 1) (by omega)
      obtain ⟨x2, c2⟩ := laid_cell hc (i := j * 4 + 2) (by omega)
      obtain ⟨x3, c3⟩ := laid_cell hc (i := j * 4 + 3) (by omega)
      have f0 := fun i => HL2.out.frozen i
      clear hc hs
      go_wp2_with fail
      go_roundw
      case rel =>
        refine ⟨j + 1, by omega, by go_num, HL2.out.put hlt HG.out, ?_⟩
        exact (((HB2.out.setCell (Nat.le_refl _) _).setCell (Nat.le_refl _) _).setCell (Nat.le_refl _) _).setCell (Nat.le_refl _) _
      case measure => simp [intOf]; omega
    · obtain rfl : j = n := by omega
      go_wp2_with fail
      go_ret
      exact ⟨⟨_, rfl, Nat.le_refl _, HL.out⟩, HB.out⟩
set_option maxHeartbeats 400000 in
theorem eqGate_same (k a b c : Int) (w : World) :
    Calls Try.prog 44 #[.agg #[.int .i64 k, .int .i64 a, .int .i64 b, .int .i64 c], .agg #[.int .i64 k, .int .i64 a, .int .i64 b, .int .i64 c]] w fun e w' => e = .returned (.bool true) ∧ Below w.heap.size w w' := by
  have e0 : (k != k) = false := by simp
  have e1 : (a != a) = false := by simp
  have e2 : (b != b) = false := by simp
  have e3 : (c != c) = false := by simp
  go_enter Try.func44, Try.ntmps44
  go_wp2_with fail
  go_ret
  exact ⟨rfl, by go_grown⟩
set_option maxHeartbeats 4000000 in
theorem eqGateS_same (A B : Option Addr) (n c d : Nat) (gs : List G4) (w : World) (hx : GR w A n gs) (hy : GR w B n gs) :
    Calls Try.prog 21 #[.slice A n c, .slice B n d] w fun e w' => e = .returned (.bool true) ∧ Below w.heap.size w w' := by
  have HX0 := hide hx
  have HY0 := hide hy
  have hmax := hx.max
  have hnn : ((n : Int) != (n : Int)) = false := by simp
  clear hx hy
  go_enter Try.func21, Try.ntmps21
  go_wp2_with fail
  go_loopw [5] (fun iv wr => ∃ j : Nat, j ≤ n ∧ iv = .int .i64 j ∧ Hid (Below w.heap.size w wr)) (fun iv _ => n - (intOf iv).toNat)
  case atStart => exact ⟨0, by omega, rfl, Below.refl _ _⟩
  case round =>
    obtain ⟨j, hj, rfl, HB⟩ := hrel
    have HX := hide (HX0.out.below HB.out)
    have HY := hide (HY0.out.below HB.out)
    by_cases hlt : j < n
    · obtain ⟨b, o, rfl, hbl, hcc⟩ := HX.out.at_ (by omega)
      obtain ⟨b', o', rfl, hbl', hcc'⟩ := HY.out.at_ (by omega)
      obtain ⟨⟨k, a, b2, c2⟩, hg⟩ : ∃ g, gth gs j = g := ⟨_, rfl⟩
      obtain ⟨g0, g1, g2, g3⟩ := hcc j hlt
      obtain ⟨q0, q1, q2, q3⟩ := hcc' j hlt
      rw [hg] at g0 g1 g2 g3 q0 q1 q2 q3
      simp only at g0 g1 g2 g3 q0 q1 q2 q3
      clear hcc hcc' hg
      have k0 := cell_regrown g0
      have k1 := cell_regrown g1
      have k2 := cell_regrown g2
      have k3 := cell_regrown g3
      have l0 := cell_regrown q0
      have l1 := cell_regrown q1
      have l2 := cell_regrown q2
      have l3 := cell_regrown q3
      clear g0 g1 g2 g3 q0 q1 q2 q3
      go_wp2_with fail
      refine wp_region_below (by kernel_rfl) (by kernel_rfl) ?_
      repeat (go_big_quiet_step ((go_at_call 44; exact below_of rfl (fun W => eqGate_same _ _ _ _ W))))
      refine wpQuiet_nil ?_
      intro p
      obtain ⟨w3, hw3⟩ : ∃ w3, grow (redrawn wr p.d) p.os = w3 := ⟨_, rfl⟩
      have hb3 : Below wr.heap.size wr w3 := by rw [← hw3]; exact below_regrown wr p.d p.os
      rw [hw3]
      have HB3 := hide (bseq HB.out hb3)
      clear hw3 hb3 k0 k1 k2 k3 l0 l1 l2 l3
      go_wp2_with fail
      go_roundw
      case rel => exact ⟨j + 1, by omega, by go_num, HB3.out⟩
      case measure => simp [intOf]; omega
    · obtain rfl : j = n := by omega
      go_wp2_with fail
      go_ret
      exact ⟨rfl, HB.out⟩
end Go.Proofs.Ytefndlmbidiodaa
