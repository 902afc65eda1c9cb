/-
  Rings: one step forward and back; slices.Clone, Clip, Equal over numbers.
  No condition.
-/
import Derived.Test.YtefkbjccgajbiaaRingRule
import Derived.Deep.RegionHeld3
namespace Go.Proofs.Ytefkbjccgajbiaa
open Go.RowKit Go.Sort base
theorem keep_store {w w2 : World} {v0 v1 v2 x0 x1 x2 : Value} (e0 : w2.cell? ⟨w.heap.size, 0, none⟩ = some v0) (e1 : w2.cell? ⟨w.heap.size, 1, none⟩ = some v1) (e2 : w2.cell? ⟨w.heap.size, 2, none⟩ = some v2) (hb : Below w.heap.size w w2) :
    (((w2.setCell ⟨w.heap.size + 1, 0, none⟩ x0).setCell ⟨w.heap.size + 1, 1, none⟩ x1).setCell ⟨w.heap.size + 1, 2, none⟩ x2).cell? ⟨w.heap.size, 0, none⟩ = some v0 ∧
    (((w2.setCell ⟨w.heap.size + 1, 0, none⟩ x0).setCell ⟨w.heap.size + 1, 1, none⟩ x1).setCell ⟨w.heap.size + 1, 2, none⟩ x2).cell? ⟨w.heap.size, 1, none⟩ = some v1 ∧
    (((w2.setCell ⟨w.heap.size + 1, 0, none⟩ x0).setCell ⟨w.heap.size + 1, 1, none⟩ x1).setCell ⟨w.heap.size + 1, 2, none⟩ x2).cell? ⟨w.heap.size, 2, none⟩ = some v2 ∧
    Below w.heap.size w (((w2.setCell ⟨w.heap.size + 1, 0, none⟩ x0).setCell ⟨w.heap.size + 1, 1, none⟩ x1).setCell ⟨w.heap.size + 1, 2, none⟩ x2) :=
  ⟨by simp [World.cell?_setCell_other, e0], by simp [World.cell?_setCell_other, e1], by simp [World.cell?_setCell_other, e2], ((hb.setCell (by simp) _).setCell (by simp) _).setCell (by simp) _⟩
theorem cells_store {w2 : World} {g : Nat} {v0 v1 v2 x0 x1 x2 : Value} (m0 : w2.cell? ⟨g, 0, none⟩ = some v0) (m1 : w2.cell? ⟨g, 1, none⟩ = some v1) (m2 : w2.cell? ⟨g, 2, none⟩ = some v2) :
    (((w2.setCell ⟨g, 0, none⟩ x0).setCell ⟨g, 1, none⟩ x1).setCell ⟨g, 2, none⟩ x2).cell? ⟨g, 0, none⟩ = some x0 ∧
    (((w2.setCell ⟨g, 0, none⟩ x0).setCell ⟨g, 1, none⟩ x1).setCell ⟨g, 2, none⟩ x2).cell? ⟨g, 1, none⟩ = some x1 ∧
    (((w2.setCell ⟨g, 0, none⟩ x0).setCell ⟨g, 1, none⟩ x1).setCell ⟨g, 2, none⟩ x2).cell? ⟨g, 2, none⟩ = some x2 := by
  have s1 : (w2.setCell ⟨g, 0, none⟩ x0).cell? ⟨g, 1, none⟩ = some v1 := by rw [World.cell?_setCell_other _ _ _ _ (by simp)]; exact m1
  have s2 : ((w2.setCell ⟨g, 0, none⟩ x0).setCell ⟨g, 1, none⟩ x1).cell? ⟨g, 2, none⟩ = some v2 := by
    rw [World.cell?_setCell_other _ _ _ _ (by simp), World.cell?_setCell_other _ _ _ _ (by simp)]; exact m2
  refine ⟨?_, ?_, ?_⟩
  · rw [World.cell?_setCell_other _ _ _ _ (by simp), World.cell?_setCell_other _ _ _ _ (by simp)]
    exact World.cell?_setCell_same _ _ _ m0
  · rw [World.cell?_setCell_other _ _ _ _ (by simp)]
    exact World.cell?_setCell_same _ _ _ s1
  · exact World.cell?_setCell_same _ _ _ s2
theorem own_setCell {w : World} {base : Nat} {v : Value} {zs : List Int} (h : Own w base v zs) (g i : Nat) (x : Value) (hg : g < base) : Own (w.setCell ⟨g, i, none⟩ x) base v zs := by
  refine h.kept (row := some g) ⟨rfl, rfl, rfl, by simp [World.setCell], fun k _ hne => heap_setCell_other w ⟨g, i, none⟩ k _ (fun e => hne (by simp [e]))⟩ ?_
  cases hv : v.ownBlock with
  | none => exact .inl rfl
  | some k => right; intro e; have := (h.lt k hv).1; simp at e; omega
theorem own_store3 {w2 : World} {base g : Nat} {v x0 x1 x2 : Value} {zs : List Int} (h : Own w2 base v zs) (hg : g < base) :
    Own (((w2.setCell ⟨g, 0, none⟩ x0).setCell ⟨g, 1, none⟩ x1).setCell ⟨g, 2, none⟩ x2) base v zs := own_setCell (own_setCell (own_setCell h g 0 x0 hg) g 1 x1 hg) g 2 x2 hg
set_option maxHeartbeats 400000 in
theorem forward_any (rule : Int) (A B : Option Addr) (n c d : Nat) (a b : List Int) (w : World) (ha : IR w A n a) (hb : IR w B n b) (hr : ruleQ rule = true) (hn0 : 0 < n) (hn : n ≤ 1000) (ba : Bits n a) (bb : Bits n b) :
    Calls Try.prog 48 #[.agg #[.int .i64 rule, .slice A n c, .slice B n d]] w fun e w' => (∃ v, e = .returned (.agg #[.int .i64 rule, .slice B n d, v]) ∧ Own w' w.heap.size v (sum2 (ruled rule b) a)) ∧ Below w.heap.size w w' := by
  have HA := hide ha
  have HB := hide hb
  have BA := hide ba
  have BB := hide bb
  clear ha hb ba bb
  go_enter Try.func48, Try.ntmps48
  go_wp2_with fail
  refine wp_named fun wr hwr => ?_
  have hb0 : Below w.heap.size w wr := by rw [← hwr]; go_grown
  have hs0 : wr.heap.size = w.heap.size + 2 := by rw [← hwr]; simp
  have c0 : wr.cell? ⟨w.heap.size, 0, none⟩ = some (.int .i64 rule) := by rw [← hwr]; exact cell_old (cell_at rfl rfl)
  have c1 : wr.cell? ⟨w.heap.size, 1, none⟩ = some (.slice A n c) := by rw [← hwr]; exact cell_old (cell_at rfl rfl)
  have c2 : wr.cell? ⟨w.heap.size, 2, none⟩ = some (.slice B n d) := by rw [← hwr]; exact cell_old (cell_at rfl rfl)
  have k0 : wr.cell? ⟨w.heap.size + 1, 0, none⟩ = some (.int .i64 0) := by rw [← hwr]; exact cell_at rfl (by simp)
  have k1 : wr.cell? ⟨w.heap.size + 1, 1, none⟩ = some (.slice none 0 0) := by rw [← hwr]; exact cell_at rfl (by simp)
  have k2 : wr.cell? ⟨w.heap.size + 1, 2, none⟩ = some (.slice none 0 0) := by rw [← hwr]; exact cell_at rfl (by simp)
  have f0 : ∀ i, wr.frozen? ⟨w.heap.size + 1, i, none⟩ = false := fun i => by rw [← hwr]; simp
  have K0 := hide k0
  have K1 := hide k1
  have K2 := hide k2
  have F0 := hide f0
  have B0 := hide hb0
  clear hwr k0 k1 k2 f0 hb0
  have Hl := Lib.hid (show (ruled rule b).length = n from (ruled_bits BB.out.1).1)
  have Hs := Lib.hid (show (sum2 (ruled rule b) a).length = n from (sum2_bits (ruled_bits BB.out.1).1).1)
  have bl := hide (show Bits n (ruled rule b) from ruled_bits BB.out.1)
  go_region_held3 (fun w' => w'.cell? ⟨w.heap.size, 0, none⟩ = some (.int .i64 rule) ∧ w'.cell? ⟨w.heap.size, 1, none⟩ = some (.slice A n c) ∧ w'.cell? ⟨w.heap.size, 2, none⟩ = some (.slice B n d) ∧ Below w.heap.size w w') (first | exact ⟨c0, c1, c2, below_drewN B0.out 1⟩ | exact ⟨d0, d1, d2, B0.out.trans (D.out.mono (by omega))⟩ | exact ⟨e0, e1, e2, E.out⟩ | exact keep_store e0 e1 e2 E.out | (trace_state; fail)) (first | (go_at_call 41; refine (ruled_any rule B n d b wr.drew (HB.out.below (below_drewN B0.out 1)) hr hn0 hn BB.out).mono ?_; rintro e w1 ⟨⟨v1, rfl, ho1⟩, hb1⟩; have D := hide ((below_drewN (Below.refl wr.heap.size wr) 1).trans hb1); have d0 := (D.out.cell (p := ⟨w.heap.size, 0, none⟩) (by simp; omega)).trans c0; have d1 := (D.out.cell (p := ⟨w.heap.size, 1, none⟩) (by simp; omega)).trans c1; have d2 := (D.out.cell (p := ⟨w.heap.size, 2, none⟩) (by simp; omega)).trans c2; have O1 := hide ho1; clear ho1 hb1; obtain ⟨A1, x1, rfl, r1⟩ := O1.out.sliceN Hl.out; have R1 := hide r1; clear r1) | (go_at_call 40; refine (sum_any A1 A n x1 n c (ruled rule b) a w1 R1.out (HA.out.below (B0.out.trans (D.out.mono (by omega)))) (Nat.le_refl _) hn bl.out BA.out).mono ?_; rintro e w2 ⟨⟨v2, rfl, ho2⟩, hb2⟩; have hs2 := hb2.size; have hs1 := D.out.size; have e0 := (hb2.cell (p := ⟨w.heap.size, 0, none⟩) (by simp; omega)).trans d0; have e1 := (hb2.cell (p := ⟨w.heap.size, 1, none⟩) (by simp; omega)).trans d1; have e2 := (hb2.cell (p := ⟨w.heap.size, 2, none⟩) (by simp; omega)).trans d2; have E := hide ((B0.out.trans (D.out.mono (by omega))).trans (hb2.mono (by omega))); have m0 := (hb2.cell (p := ⟨w.heap.size + 1, 0, none⟩) (by simp; omega)).trans ((D.out.cell (p := ⟨w.heap.size + 1, 0, none⟩) (by simp; omega)).trans K0.out); have m1 := (hb2.cell (p := ⟨w.heap.size + 1, 1, none⟩) (by simp; omega)).trans ((D.out.cell (p := ⟨w.heap.size + 1, 1, none⟩) (by simp; omega)).trans K1.out); have m2 := (hb2.cell (p := ⟨w.heap.size + 1, 2, none⟩) (by simp; omega)).trans ((D.out.cell (p := ⟨w.heap.size + 1, 2, none⟩) (by simp; omega)).trans K2.out); have q0 := (hb2.frozen (p := ⟨w.heap.size + 1, 0, none⟩) (by simp; omega)).trans ((D.out.frozen (p := ⟨w.heap.size + 1, 0, none⟩) (by simp; omega)).trans (F0.out 0)); have q1 := (hb2.frozen (p := ⟨w.heap.size + 1, 1, none⟩) (by simp; omega)).trans ((D.out.frozen (p := ⟨w.heap.size + 1, 1, none⟩) (by simp; omega)).trans (F0.out 1)); have q2 := (hb2.frozen (p := ⟨w.heap.size + 1, 2, none⟩) (by simp; omega)).trans ((D.out.frozen (p := ⟨w.heap.size + 1, 2, none⟩) (by simp; omega)).trans (F0.out 2)); have O2 := hide ho2; clear hb2 ho2; obtain ⟨A2, x2, rfl, r2⟩ := O2.out.sliceN Hs.out; clear r2))
  have P0 := cells_store (x0 := .int .i64 rule) (x1 := .slice B n d) (x2 := .slice A2 n x2) m0 m1 m2
  have OS := hide (own_store3 (x0 := .int .i64 rule) (x1 := .slice B n d) (x2 := .slice A2 n x2) O2.out (show w.heap.size + 1 < w1.heap.size by omega))
  have ES := hide (keep_store (x0 := .int .i64 rule) (x1 := .slice B n d) (x2 := .slice A2 n x2) e0 e1 e2 E.out).2.2.2
  go_wp2
  generalize (((w2.setCell ⟨w.heap.size + 1, 0, none⟩ (.int .i64 rule)).setCell ⟨w.heap.size + 1, 1, none⟩ (.slice B n d)).setCell ⟨w.heap.size + 1, 2, none⟩ (.slice A2 n x2)) = wx at *
  obtain ⟨p0, p1, p2⟩ := P0
  refine bodyPost_ret (v := .agg #[.int .i64 rule, .slice B n d, .slice A2 n x2]) (by simp [results, Try.results48, go_sem, p0, p1, p2]) rfl ⟨⟨_, rfl, ?_⟩, ES.out⟩
  exact OS.out.base_le (by omega)
set_option maxHeartbeats 400000 in
theorem back_any (rule : Int) (A B : Option Addr) (n c d : Nat) (a b : List Int) (w : World) (ha : IR w A n a) (hb : IR w B n b) (hr : ruleQ rule = true) (hn0 : 0 < n) (hn : n ≤ 1000) (ba : Bits n a) (bb : Bits n b) :
    Calls Try.prog 49 #[.agg #[.int .i64 rule, .slice A n c, .slice B n d]] w fun e w' => (∃ v, e = .returned (.agg #[.int .i64 rule, v, .slice A n c]) ∧ Own w' w.heap.size v (sum2 (ruled rule a) b)) ∧ Below w.heap.size w w' := by
  have HA := hide ha
  have HB := hide hb
  have BA := hide ba
  have BB := hide bb
  clear ha hb ba bb
  go_enter Try.func49, Try.ntmps49
  go_wp2_with fail
  refine wp_named fun wr hwr => ?_
  have hb0 : Below w.heap.size w wr := by rw [← hwr]; go_grown
  have hs0 : wr.heap.size = w.heap.size + 2 := by rw [← hwr]; simp
  have c0 : wr.cell? ⟨w.heap.size, 0, none⟩ = some (.int .i64 rule) := by rw [← hwr]; exact cell_old (cell_at rfl rfl)
  have c1 : wr.cell? ⟨w.heap.size, 1, none⟩ = some (.slice A n c) := by rw [← hwr]; exact cell_old (cell_at rfl rfl)
  have c2 : wr.cell? ⟨w.heap.size, 2, none⟩ = some (.slice B n d) := by rw [← hwr]; exact cell_old (cell_at rfl rfl)
  have k0 : wr.cell? ⟨w.heap.size + 1, 0, none⟩ = some (.int .i64 0) := by rw [← hwr]; exact cell_at rfl (by simp)
  have k1 : wr.cell? ⟨w.heap.size + 1, 1, none⟩ = some (.slice none 0 0) := by rw [← hwr]; exact cell_at rfl (by simp)
  have k2 : wr.cell? ⟨w.heap.size + 1, 2, none⟩ = some (.slice none 0 0) := by rw [← hwr]; exact cell_at rfl (by simp)
  have f0 : ∀ i, wr.frozen? ⟨w.heap.size + 1, i, none⟩ = false := fun i => by rw [← hwr]; simp
  have K0 := hide k0
  have K1 := hide k1
  have K2 := hide k2
  have F0 := hide f0
  have B0 := hide hb0
  clear hwr k0 k1 k2 f0 hb0
  have Hl := Lib.hid (show (ruled rule a).length = n from (ruled_bits BA.out.1).1)
  have Hs := Lib.hid (show (sum2 (ruled rule a) b).length = n from (sum2_bits (ruled_bits BA.out.1).1).1)
  have bl := hide (show Bits n (ruled rule a) from ruled_bits BA.out.1)
  go_region_held3 (fun w' => w'.cell? ⟨w.heap.size, 0, none⟩ = some (.int .i64 rule) ∧ w'.cell? ⟨w.heap.size, 1, none⟩ = some (.slice A n c) ∧ w'.cell? ⟨w.heap.size, 2, none⟩ = some (.slice B n d) ∧ Below w.heap.size w w') (first | exact ⟨c0, c1, c2, below_drewN B0.out 1⟩ | exact ⟨d0, d1, d2, B0.out.trans (D.out.mono (by omega))⟩ | exact ⟨e0, e1, e2, E.out⟩ | exact keep_store e0 e1 e2 E.out | (trace_state; fail)) (first | (go_at_call 41; refine (ruled_any rule A n c a wr.drew (HA.out.below (below_drewN B0.out 1)) hr hn0 hn BA.out).mono ?_; rintro e w1 ⟨⟨v1, rfl, ho1⟩, hb1⟩; have D := hide ((below_drewN (Below.refl wr.heap.size wr) 1).trans hb1); have d0 := (D.out.cell (p := ⟨w.heap.size, 0, none⟩) (by simp; omega)).trans c0; have d1 := (D.out.cell (p := ⟨w.heap.size, 1, none⟩) (by simp; omega)).trans c1; have d2 := (D.out.cell (p := ⟨w.heap.size, 2, none⟩) (by simp; omega)).trans c2; have O1 := hide ho1; clear ho1 hb1; obtain ⟨A1, x1, rfl, r1⟩ := O1.out.sliceN Hl.out; have R1 := hide r1; clear r1) | (go_at_call 40; refine (sum_any A1 B n x1 n d (ruled rule a) b w1 R1.out (HB.out.below (B0.out.trans (D.out.mono (by omega)))) (Nat.le_refl _) hn bl.out BB.out).mono ?_; rintro e w2 ⟨⟨v2, rfl, ho2⟩, hb2⟩; have hs2 := hb2.size; have hs1 := D.out.size; have e0 := (hb2.cell (p := ⟨w.heap.size, 0, none⟩) (by simp; omega)).trans d0; have e1 := (hb2.cell (p := ⟨w.heap.size, 1, none⟩) (by simp; omega)).trans d1; have e2 := (hb2.cell (p := ⟨w.heap.size, 2, none⟩) (by simp; omega)).trans d2; have E := hide ((B0.out.trans (D.out.mono (by omega))).trans (hb2.mono (by omega))); have m0 := (hb2.cell (p := ⟨w.heap.size + 1, 0, none⟩) (by simp; omega)).trans ((D.out.cell (p := ⟨w.heap.size + 1, 0, none⟩) (by simp; omega)).trans K0.out); have m1 := (hb2.cell (p := ⟨w.heap.size + 1, 1, none⟩) (by simp; omega)).trans ((D.out.cell (p := ⟨w.heap.size + 1, 1, none⟩) (by simp; omega)).trans K1.out); have m2 := (hb2.cell (p := ⟨w.heap.size + 1, 2, none⟩) (by simp; omega)).trans ((D.out.cell (p := ⟨w.heap.size + 1, 2, none⟩) (by simp; omega)).trans K2.out); have q0 := (hb2.frozen (p := ⟨w.heap.size + 1, 0, none⟩) (by simp; omega)).trans ((D.out.frozen (p := ⟨w.heap.size + 1, 0, none⟩) (by simp; omega)).trans (F0.out 0)); have q1 := (hb2.frozen (p := ⟨w.heap.size + 1, 1, none⟩) (by simp; omega)).trans ((D.out.frozen (p := ⟨w.heap.size + 1, 1, none⟩) (by simp; omega)).trans (F0.out 1)); have q2 := (hb2.frozen (p := ⟨w.heap.size + 1, 2, none⟩) (by simp; omega)).trans ((D.out.frozen (p := ⟨w.heap.size + 1, 2, none⟩) (by simp; omega)).trans (F0.out 2)); have O2 := hide ho2; clear hb2 ho2; obtain ⟨A2, x2, rfl, r2⟩ := O2.out.sliceN Hs.out; clear r2))
  have P0 := cells_store (x0 := .int .i64 rule) (x1 := .slice A2 n x2) (x2 := .slice A n c) m0 m1 m2
  have OS := hide (own_store3 (x0 := .int .i64 rule) (x1 := .slice A2 n x2) (x2 := .slice A n c) O2.out (show w.heap.size + 1 < w1.heap.size by omega))
  have ES := hide (keep_store (x0 := .int .i64 rule) (x1 := .slice A2 n x2) (x2 := .slice A n c) e0 e1 e2 E.out).2.2.2
  go_wp2
  generalize (((w2.setCell ⟨w.heap.size + 1, 0, none⟩ (.int .i64 rule)).setCell ⟨w.heap.size + 1, 1, none⟩ (.slice A2 n x2)).setCell ⟨w.heap.size + 1, 2, none⟩ (.slice A n c)) = wx at *
  obtain ⟨p0, p1, p2⟩ := P0
  refine bodyPost_ret (v := .agg #[.int .i64 rule, .slice A2 n x2, .slice A n c]) (by simp [results, Try.results49, go_sem, p0, p1, p2]) rfl ⟨⟨_, rfl, ?_⟩, ES.out⟩
  exact OS.out.base_le (by omega)
/- slices.Clone of a slice that is not empty -/
set_option maxHeartbeats 400000 in
theorem clone_any (A : Option Addr) (n c : Nat) (a : List Int) (w : World) (ha : IR w A n a) (hn0 : 0 < n) (hn : n ≤ 1000000) :
    Calls Try.prog 47 #[.slice A n c] w (RInts w a) := by
  obtain ⟨hla, hma, hta⟩ := ha
  have ha : IR w A n a := ⟨hla, hma, hta⟩
  obtain ⟨p1, o1, rfl, hbl1, hc1⟩ := hta hn0
  have hk := fun (wx : World) => Lib.run_eql_slice_nil (P := Try.prog) wx 25 3 (some ⟨p1, o1, none⟩) n c 0 0 Try.underlying25
  have HA := hide (ha.below ((Below.refl _ w).alloc (Nat.le_refl _) (.cells #[] 3)))
  have HO := hide (Own.nil0 w w.heap.size (Nat.le_refl _))
  clear ha hta hc1
  go_enter Try.func47, Try.ntmps47
  go_wp2_with (at_builtin; refine wpList_append_ints HO.out HA.out (.tmp 5) (.tmp 6) (by rfl) rfl rfl rfl (by simp; omega) (by simp) ?_; intro v' w' h2 h3 h4)
  go_ret
  exact ⟨⟨_, rfl, by simpa using h2⟩, ((Below.refl _ w).alloc (Nat.le_refl _) _).grown h3 (by simp) (fun k hk => (HO.out.lt k hk).1)⟩
/- slices.Clip of a slice that is known: the same numbers, and no room -/
set_option maxHeartbeats 400000 in
theorem clip_any (A : Option Addr) (n c : Nat) (w : World) (hn : n ≤ c) (hc : c ≤ maxLen) :
    Calls Try.prog 50 #[.slice A n c] w fun e w' => e = .returned (.slice A n n) ∧ w = w' := by
  have hc' : c ≤ 9223372036854775807 := by unfold maxLen at hc; omega
  go_enter Try.func50, Try.ntmps50
  go_wp2
  go_ret
  exact ⟨rfl, rfl⟩
set_option maxHeartbeats 400000 in
theorem equal_any (A B : Option Addr) (n c m d : Nat) (xs ys : List Int) (w : World) (hx : IR w A n xs) (hy : IR w B m ys) :
    Calls Try.prog 60 #[.slice A n c, .slice B m d] w fun e w' => e = .returned (.bool (xs == ys)) ∧ ∃ q, w' = w.drewN q := by
  obtain ⟨hlx, hmx, hax⟩ := hx
  obtain ⟨hly, hmy, hay⟩ := hy
  by_cases hnm : n = m
  · subst hnm
    go_enter Try.func60, Try.ntmps60
    go_wp2
    go_loopw [13] (fun i wr => ∃ k q : Nat, k ≤ n ∧ i = .int .i64 k ∧ (∀ j, j < k → nth xs j = nth ys j) ∧ wr = w.drewN q) (fun i _ => n - (intOf i).toNat)
    case atStart => exact ⟨0, 0, by omega, rfl, fun j hj => absurd hj (by omega), rfl⟩
    case round =>
      obtain ⟨k, q, hk, rfl, heq, rfl⟩ := hrel
      have HE := Lib.hid heq
      clear heq
      by_cases hlt : k < n
      · obtain ⟨b, o, rfl, hbl, hc⟩ := hax (by omega)
        obtain ⟨b', o', rfl, hbl', hc'⟩ := hay (by omega)
        have h1 := hc k hlt
        have h2 := hc' k hlt
        clear hc hc' hax hay
        go_wp2
        go_quiet (fail)
        by_cases he : nth xs k = nth ys k
        · have e1 : (nth xs k == nth ys k) = true := by simpa using he
          have e2 : (nth xs k != nth ys k) = false := by simpa using he
          clear he
          go_wp2
          go_roundw
          case rel =>
            refine ⟨k + 1, _, by omega, by go_num, fun j hj => ?_, rfl⟩
            rcases Nat.lt_or_ge j k with h | h
            · exact HE.out j h
            · obtain rfl : j = k := by omega
              simpa using e1
          case measure => simp [intOf]; omega
        · have e1 : (nth xs k == nth ys k) = false := by simpa using he
          have e2 : (nth xs k != nth ys k) = true := by simpa using he
          have e3 := Lib.hid (ne_of_nth he)
          clear he
          go_wp2
          go_ret
          exact ⟨by rw [e3.out]; rfl, q + nq, by rw [World.drewN_drewN]⟩
      · obtain rfl : k = n := by omega
        have e3 := Lib.hid (eq_of_nth (xs := xs) (ys := ys) (by omega) (by rw [hlx]; exact HE.out))
        go_wp2
        go_ret
        exact ⟨by rw [e3.out]; rfl, _, rfl⟩
  · have e0 : ((n : Int) != (m : Int)) = true := by simp; omega
    have e0' : ((n : Int) == (m : Int)) = false := by simp; omega
    have e1 : (xs == ys) = false := by
      rw [beq_eq_false_iff_ne]; rintro rfl; omega
    have E1 := Lib.hid e1
    clear e1
    go_enter Try.func60, Try.ntmps60
    go_wp2
    go_ret
    exact ⟨by rw [E1.out]; rfl, 0, rfl⟩
end Go.Proofs.Ytefkbjccgajbiaa
