/-
  The reference's search for the least circuit of two lines.
  No condition.
-/
import Derived.Test.YtlaidoomjnhlaaaSrch
namespace Go.Proofs.Ytlaidoomjnhlaaa
open Go.RowKit Go.Sort base
def t4 (z : List Int) : T4 := ((nth z 0).toNat, (nth z 1).toNat, (nth z 2).toNat, (nth z 3).toNat)
def leastOf (z : List Int) : Int := if tableOk 2 z then least4 (t4 z) else -1
theorem goodAt_range {z : List Int} {k : Nat} (h : goodAt z k = true) : 0 ≤ nth z k ∧ nth z k ≤ (z.length : Int) - 1 := by
  simp [goodAt] at h
  exact h.1
theorem table_two {z : List Int} (h : tableOk 2 z = true) : z.length = 4 ∧ z = ints4 (t4 z) ∧ Small4 (t4 z) := by
  simp only [tableOk, Bool.and_eq_true, decide_eq_true_eq] at h
  obtain ⟨⟨_, h2⟩, h3⟩ := h
  have hl : z.length = 4 := by
    have : pw 2 = 4 := by decide
    omega
  have hg := goodL_iff.1 h3
  have r : ∀ k, k < 4 → 0 ≤ nth z k ∧ nth z k ≤ 3 := fun k hk => by
    have := goodAt_range (hg k (by omega))
    omega
  have r0 := r 0 (by omega)
  have r1 := r 1 (by omega)
  have r2 := r 2 (by omega)
  have r3 := r 3 (by omega)
  refine ⟨hl, nth_ext (by simp [ints4, hl]) (fun j hj => ?_), ?_⟩
  · rw [ints4_nth _ (by omega)]
    rcases (show j = 0 ∨ j = 1 ∨ j = 2 ∨ j = 3 by omega) with rfl | rfl | rfl | rfl
    all_goals
      show _ = ((nth z _).toNat : Int)
      omega
  · refine ⟨?_, ?_, ?_, ?_⟩
    all_goals
      show (nth z _).toNat < 4
      omega
theorem least_hit {t : T4} {k : Nat} (hk : k < 24) (h : tab4 k = t) : leastFrom t (24 - k) k = far4 k := by
  obtain ⟨n, hn⟩ : ∃ n, 24 - k = n + 1 := ⟨23 - k, by omega⟩
  rw [hn, leastFrom, if_pos h]
theorem least_miss {t : T4} {k : Nat} (hk : k < 24) (h : ¬ tab4 k = t) : leastFrom t (24 - k) k = leastFrom t (24 - (k + 1)) (k + 1) := by
  obtain ⟨n, hn⟩ : ∃ n, 24 - k = n + 1 := ⟨23 - k, by omega⟩
  rw [hn, leastFrom, if_neg h, show 24 - (k + 1) = n by omega]
/-- the five gates lie in a block that is none of three others -/
def Gt (g : Nat) (v3 v4 v5 : Value) (wr : World) : Prop := GR wr (some ⟨g, 0, none⟩) 5 gates5 ∧ v3.ownBlock ≠ some g ∧ v4.ownBlock ≠ some g ∧ v5.ownBlock ≠ some g
theorem gr_grown {w w' : World} {b n : Nat} {gs : List G4} {row : Option Nat} (h : GR w (some ⟨b, 0, none⟩) n gs) (hg : w.grownBy w' row) (hne : some b ≠ row) : GR w' (some ⟨b, 0, none⟩) n gs :=
  ⟨h.len, h.max, fun hn => by
    obtain ⟨b', o, e, hb, hc⟩ := h.at_ hn
    simp only [Option.some.injEq, Addr.mk.injEq, and_true] at e
    obtain ⟨rfl, rfl⟩ := e
    have k : ∀ q, w'.cell? ⟨b, q, none⟩ = w.cell? ⟨b, q, none⟩ := fun q => World.cell?_of_block (hg.block b hb hne)
    refine ⟨b, 0, rfl, by have := hg.size; omega, fun i hi => ?_⟩
    obtain ⟨c0, c1, c2, c3⟩ := hc i hi
    exact ⟨(k _).trans c0, (k _).trans c1, (k _).trans c2, (k _).trans c3⟩⟩
theorem Gt.size {g : Nat} {v3 v4 v5 : Value} {w : World} (h : Gt g v3 v4 v5 w) : g < w.heap.size := by
  obtain ⟨b', o, e, hb, _⟩ := h.1.at_ (by omega)
  simp only [Option.some.injEq, Addr.mk.injEq, and_true] at e
  obtain ⟨rfl, rfl⟩ := e
  exact hb
theorem Gt.move {g : Nat} {v3 v4 v5 u3 u4 u5 : Value} {wr wr' : World} {row : Option Nat} (h : Gt g v3 v4 v5 wr) (hg : wr.grownBy wr' row) (h3 : Fresh v3 u3 wr.heap.size) (h4 : Fresh v4 u4 wr.heap.size) (h5 : Fresh v5 u5 wr.heap.size) (hr : row = none ∨ row = v3.ownBlock ∨ row = v4.ownBlock ∨ row = v5.ownBlock) : Gt g u3 u4 u5 wr' := by
  have hl := h.size
  obtain ⟨hi, n3, n4, n5⟩ := h
  refine ⟨gr_grown hi hg ?_, fresh_ne h3 hl n3, fresh_ne h4 hl n4, fresh_ne h5 hl n5⟩
  rcases hr with e | e | e | e
  · rw [e]; simp
  · rw [e]; exact fun x => n3 x.symm
  · rw [e]; exact fun x => n4 x.symm
  · rw [e]; exact fun x => n5 x.symm
theorem Gt.below {g : Nat} {v3 v4 v5 : Value} {wr wr' : World} (h : Gt g v3 v4 v5 wr) (hb : Below wr.heap.size wr wr') : Gt g v3 v4 v5 wr' := h.move (grown_of_below hb none) (.same _ _) (.same _ _) (.same _ _) (.inl rfl)
theorem St.start {w w1 : World} (hb : Below w.heap.size w w1) : St w 1 1 1 (.slice (some ⟨w1.heap.size, 0, none⟩) 1 1) (.slice (some ⟨w1.heap.size + 2, 0, none⟩) 1 1) (.slice (some ⟨w1.heap.size + 3, 0, none⟩) 1 1)
    ((((w1.alloc (.cells #[.int .i64 27] 3)).alloc (.cells #[.int .i64 0, .int .i64 1, .int .i64 2, .int .i64 3] 3)).alloc (.cells #[.slice (some ⟨w1.heap.size + 1, 0, none⟩) 4 4] 22)).alloc (.cells #[.int .i64 0] 3)) := by
  have hs := hb.size
  obtain ⟨wa, hwa⟩ : ∃ wa, wa = w1.alloc (.cells #[.int .i64 27] 3) := ⟨_, rfl⟩
  have o3 : Own wa w.heap.size (.slice (some ⟨w1.heap.size, 0, none⟩) 1 1) (rks 1) := by rw [hwa]; exact Own.lit w1 w.heap.size [27] hs (by decide)
  have s1 : wa.heap.size = w1.heap.size + 1 := by rw [hwa]; simp
  have b1 : Below w.heap.size w wa := by rw [hwa]; exact hb.alloc hs _
  rw [← hwa]
  obtain ⟨wb, hwb⟩ : ∃ wb, wb = wa.alloc (.cells #[.int .i64 0, .int .i64 1, .int .i64 2, .int .i64 3] 3) := ⟨_, rfl⟩
  have i2 : IR wb (some ⟨w1.heap.size + 1, 0, none⟩) 4 (ints4 (tab4 0)) := by rw [hwb, ← s1]; exact (Own.lit wa wa.heap.size [0, 1, 2, 3] (Nat.le_refl _) (by decide)).reads
  have s2 : wb.heap.size = w1.heap.size + 2 := by rw [hwb]; simp; omega
  have b2 : Below w.heap.size w wb := by rw [hwb]; exact b1.alloc (by omega) _
  have o3b : Own wb w.heap.size (.slice (some ⟨w1.heap.size, 0, none⟩) 1 1) (rks 1) := by rw [hwb]; exact o3.alloc _
  rw [← hwb]
  obtain ⟨wc, hwc⟩ : ∃ wc, wc = wb.alloc (.cells #[.slice (some ⟨w1.heap.size + 1, 0, none⟩) 4 4] 22) := ⟨_, rfl⟩
  have r3 : wc.ownsRow w.heap.size 22 1 (.slice (some ⟨w1.heap.size + 2, 0, none⟩) 1 1) 1 [.slice (some ⟨w1.heap.size + 1, 0, none⟩) 4 4] := by
    rw [hwc, ← s2]; exact World.ownsRow_lit wb _ 1 (by omega) (by unfold maxLen; omega) rfl
  have s3 : wc.heap.size = w1.heap.size + 3 := by rw [hwc]; simp; omega
  have b3 : Below w.heap.size w wc := by rw [hwc]; exact b2.alloc (by omega) _
  have o3c : Own wc w.heap.size (.slice (some ⟨w1.heap.size, 0, none⟩) 1 1) (rks 1) := by rw [hwc]; exact o3b.alloc _
  have i3 : IR wc (some ⟨w1.heap.size + 1, 0, none⟩) 4 (ints4 (tab4 0)) := by rw [hwc]; exact i2.below ((Below.refl _ wb).alloc (Nat.le_refl _) _)
  rw [← hwc]
  obtain ⟨wd, hwd⟩ : ∃ wd, wd = wc.alloc (.cells #[.int .i64 0] 3) := ⟨_, rfl⟩
  have o5 : Own wd w.heap.size (.slice (some ⟨w1.heap.size + 3, 0, none⟩) 1 1) (frs 1) := by rw [hwd, ← s3]; exact Own.lit wc w.heap.size [0] (by omega) (by decide)
  have s4 : wd.heap.size = w1.heap.size + 4 := by rw [hwd]; simp; omega
  have b4 : Below w.heap.size w wd := by rw [hwd]; exact b3.alloc (by omega) _
  have o3d : Own wd w.heap.size (.slice (some ⟨w1.heap.size, 0, none⟩) 1 1) (rks 1) := by rw [hwd]; exact o3c.alloc _
  have i4 : IR wd (some ⟨w1.heap.size + 1, 0, none⟩) 4 (ints4 (tab4 0)) := by rw [hwd]; exact i3.below ((Below.refl _ wc).alloc (Nat.le_refl _) _)
  have r4 : wd.ownsRow w.heap.size 22 1 (.slice (some ⟨w1.heap.size + 2, 0, none⟩) 1 1) 1 [.slice (some ⟨w1.heap.size + 1, 0, none⟩) 4 4] := by rw [hwd]; exact r3.alloc _
  rw [← hwd]
  refine ⟨b4, o3d, ⟨_, r4, fun i hi => ?_⟩, o5, ?_, ?_, ?_⟩
  · obtain rfl : i = 0 := by omega
    exact ⟨_, rfl, _, _, rfl, i4, by omega, by omega, by simp [Value.ownBlock], by simp [Value.ownBlock], by simp [Value.ownBlock]⟩
  · simp [Value.ownBlock]
  · simp [Value.ownBlock]
  · simp [Value.ownBlock]
theorem St.lt {w wr : World} {L3 L4 L5 : Nat} {v3 v4 v5 : Value} (h : St w L3 L4 L5 v3 v4 v5 wr) {b : Nat} (hb : wr.heap.size ≤ b) : v3.ownBlock ≠ some b ∧ v4.ownBlock ≠ some b ∧ v5.ownBlock ≠ some b := by
  obtain ⟨cs, hr, _⟩ := h.row
  refine ⟨fun e => ?_, fun e => ?_, fun e => ?_⟩
  · have := (h.seen.lt _ e).2; omega
  · have := (hr.lt _ e).2; omega
  · have := (h.steps.lt _ e).2; omega
theorem rank_b {t : T4} (A : Option Addr) (c n : Nat) (w : World) (hn : n = 4) (h : IR w A 4 (ints4 t)) (ht : Small4 t) :
    Calls Try.prog 9 #[.slice A n c] w fun e w' => e = .returned (.int .i64 (rank4 t)) ∧ ∃ q, w' = w.drewN q := by subst hn; exact rank_any A c t w h ht
theorem nth_rks {L i : Nat} (h : i < L) : nth (rks L) i = (rank4 (tab4 i) : Int) := tab_nth h
theorem nth_frs {L i : Nat} (h : i < L) : nth (frs L) i = (far4 i : Int) := tab_nth h
theorem found_more5 : ∀ k, k < 24 → ∀ j, j < 6 → k < found (5 * k + j) := by decide +kernel
theorem gateRun_one {j x : Nat} (hj : j < 5) (hx : x < 4) (w : World) :
    Calls Try.prog 11 #[.int .i64 2, .agg #[.int .i64 (gth gates5 j).1, .int .i64 (gth gates5 j).2.1, .int .i64 (gth gates5 j).2.2.1, .int .i64 (gth gates5 j).2.2.2], .int .i64 (x : Int)] w fun e w' => e = .returned (.int .i64 (one4 j x : Int)) ∧ Below w.heap.size w w' := by
  have := sGateRun_any 2 (gth gates5 j).1 (gth gates5 j).2.1 (gth gates5 j).2.2.1 (gth gates5 j).2.2.2 x w
  rw [run_one hj hx] at this
  exact this
theorem Own.at0 {w : World} {base : Nat} {v : Value} {zs : List Int} (h : Own w base v zs) (h0 : 0 < zs.length) : ∃ g c, v = .slice (some ⟨g, 0, none⟩) zs.length c ∧ base ≤ g ∧ IR w (some ⟨g, 0, none⟩) zs.length zs := by
  rcases h.form with ⟨_, e⟩ | ⟨g, c, e, hb, _⟩
  · subst e; simp at h0
  · subst e; exact ⟨g, c, rfl, hb, h.reads⟩
theorem Own.at0n {w : World} {base n : Nat} {v : Value} {zs : List Int} (h : Own w base v zs) (hn : zs.length = n) (h0 : 0 < n) : ∃ g c, v = .slice (some ⟨g, 0, none⟩) n c ∧ base ≤ g ∧ IR w (some ⟨g, 0, none⟩) n zs := by
  subst hn; exact h.at0 h0
theorem ir_lt {w : World} {b n : Nat} {zs : List Int} (h : IR w (some ⟨b, 0, none⟩) n zs) (hn : 0 < n) : b < w.heap.size := by
  obtain ⟨b', o, e, hb, _⟩ := h.at_ hn
  simp only [Option.some.injEq, Addr.mk.injEq, and_true] at e
  obtain ⟨rfl, rfl⟩ := e
  exact hb
theorem tab4_small {k : Nat} (hk : k < 24) : Small4 (tab4 k) := tab_small k hk
end Go.Proofs.Ytlaidoomjnhlaaa
