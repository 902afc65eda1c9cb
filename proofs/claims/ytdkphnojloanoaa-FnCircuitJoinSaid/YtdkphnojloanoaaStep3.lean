/-
  The gates of a step by the reference; what they compute; the walk of the law FnStepGates.
  No condition.
-/
import Derived.Test.YtdkphnojloanoaaStep
import Derived.Test.YtdkphnojloanoaaWalkFnRipple
namespace Go.Proofs.Ytdkphnojloanoaa
open Go.RowKit Go.Sort base
theorem gates_lit (w : World) (gs : List G4) : (∀ j u, (gcells gs)[j]? = some u → (w.alloc (.cells (gcells gs).toArray 33)).cell? ((⟨w.heap.size, 0, none⟩ : Addr).add j) = some u) := by
  intro j u hu
  rw [Addr.add_lit, World.cell?_alloc_at _ _ _ _ rfl]
  simpa using hu
/-- 'append(out, g, ..)' onto a slice of the call's own: the gates are laid in a block of their own first -/
theorem wpList_appendGs {ops : Array Oper} {rest : List Oper} {o : Oper} {a : Act} {Q : Exit → Act → World → Prop} {w : World} {base : Nat} {v : Value} {gs : List G4} (ns : List G4) (hown : OwnG w base v gs) (s y : Operand) (hg : o.guard = none)
    (ho : o.op = .call { callee := .builtin .append, args := #[s, y], argTypes := #[24, 24] }) (hs : a.eval s = v) (hx : a.eval y = .slice (some ⟨w.heap.size, 0, none⟩) ns.length ns.length)
    (hl : gs.length + ns.length ≤ 1000) (hb : base ≤ w.heap.size)
    (h : ∀ v' w', OwnG w' base v' (gs ++ ns) → w.grownBy w' v.ownBlock → wpList Try.prog ops Q rest (a.put o.dst v') w') : wpList Try.prog ops Q (o :: rest) a (w.alloc (.cells (gcells ns).toArray 33)) := by
  obtain ⟨i0, hi, hz0, hz1, hz2⟩ := info_parts gate_info'
  refine wpList_append_own _ hg s y 24 ho base 33 i0 _ 4 32 Try.underlying24 hi hz0 hz1 hz2 rfl (by decide) v gs.length (gcells gs) hs (hown.alloc _) ⟨w.heap.size, 0, none⟩ ns.length ns.length (gcells ns) hx (gcells_len ns) (gates_lit w ns) (oneCells ns) (by unfold maxLen; omega) (by omega) (by simp; omega) ?_
  intro v' w' h1 h2 _
  refine h v' w' ?_ (grown_seq (World.grownBy_alloc w _ _) h2)
  unfold OwnG
  rw [List.length_append, show gcells (gs ++ ns) = gcells gs ++ gcells ns by simp [gcells]]
  exact h1
theorem gateQ_ne {x y l : Int} (h : gateQ 8 2 x y l = true) : x ≠ y := by have := gate2.1 h; omega
/-- both conditions say the same -/
theorem step_same (op x y l : Int) (h : 0 ≤ op ∧ op ≤ 4) : stepG op x y l = if circQ 8 (stepL op x y l) = true ∧ ¬ (op ≠ 3 ∧ x = y) then stepL op x y l else [] := by
  have hc : circQ 8 (stepL op x y l) = (stepL op x y l).all (gateOk 8) := by
    have h1 : lnOk 8 = true := rfl
    have h2 : (stepL op x y l).length ≤ 24 := by unfold stepL; split; · simp
                                                 split; · simp
                                                 split; · simp
                                                 split <;> simp
    rw [circQ, h1]; simp [h2]
  rw [hc]
  unfold stepG
  rcases (show op = 0 ∨ op = 1 ∨ op = 2 ∨ op = 3 ∨ op = 4 by omega) with rfl | rfl | rfl | rfl | rfl
  · by_cases hq : gateQ 8 2 x y l = true
    · have := gateQ_ne hq
      simp [stepQ, stepL, gateOk, hq, this]
    · simp [stepQ, stepL, gateOk, hq]
  · by_cases hq : gateQ 8 2 x y l = true
    · have := gateQ_ne hq
      simp [stepQ, stepL, gateOk, hq, this]
    · simp [stepQ, stepL, gateOk, hq]
  · by_cases hxy : x = y
    · subst hxy
      have hq : gateQ 8 2 x x l = false := by
        cases hq : gateQ 8 2 x x l
        · rfl
        · exact absurd rfl (gateQ_ne hq)
      simp [stepQ, hq]
    · have hq : (gateQ 8 2 x y l = true) ↔ (gateQ 8 1 x l 0 = true ∧ gateQ 8 1 y l 0 = true) := by
        rw [gate2, gate1, gate1]; omega
      by_cases hq1 : gateQ 8 1 x l 0 = true ∧ gateQ 8 1 y l 0 = true
      · simp [stepQ, stepL, gateOk, hq.2 hq1, hq1, hxy]
      · have hq2 : gateQ 8 2 x y l = false := by
          cases h2 : gateQ 8 2 x y l
          · rfl
          · exact absurd (hq.1 h2) hq1
        rw [if_neg (by simp [stepQ, hq2]), if_neg]
        rintro ⟨h1, _⟩
        simp [stepL, gateOk] at h1
        exact hq1 h1
  · have e : ((3 : Int) == 3) = true := rfl
    rw [stepQ, e, Bool.true_or, Bool.true_and]
    by_cases ha : (stepL 3 x y l).all (gateOk 8) = true
    · rw [if_pos ha, if_pos ⟨ha, fun h => h.1 rfl⟩]
    · rw [if_neg ha, if_neg (fun h => ha h.1)]
  · simp [stepQ, stepL]

set_option maxRecDepth 100000 in
set_option maxHeartbeats 8000000 in
theorem sStepGates_0 (x y l : Int) (w : World) : Calls Try.prog 25 #[.agg #[.int .i64 0, .int .i64 x, .int .i64 y], .int .i64 l] w (StepPost 0 x y l w) := by
  have HL : Hid (stepL 0 x y l = [(2, x, y, l)]) := rfl
  have HQ := Lib.hid (step_same 0 x y l (by omega))
  go_enter Try.func25, Try.ntmps25
  go_upto_region 7 with fail
  refine wp_named fun wz hwz => ?_
  have BZ := hide (show Below w.heap.size w wz by rw [← hwz]; go_grown)
  have hsz : w.heap.size + 5 ≤ wz.heap.size := by rw [← hwz]; simp
  have c0 : wz.cell? ⟨w.heap.size, 0, none⟩ = some (.int .i64 0) := by rw [← hwz]; exact cell_old (cell_old (cell_old (cell_old (cell_at rfl rfl))))
  have c1 : wz.cell? ⟨w.heap.size, 1, none⟩ = some (.int .i64 x) := by rw [← hwz]; exact cell_old (cell_old (cell_old (cell_old (cell_at rfl rfl))))
  have c2 : wz.cell? ⟨w.heap.size, 2, none⟩ = some (.int .i64 y) := by rw [← hwz]; exact cell_old (cell_old (cell_old (cell_old (cell_at rfl rfl))))
  have OZ : Hid (OwnG wz (w.heap.size + 1) (.slice (some ⟨w.heap.size + 1, 0, none⟩) 0 0) []) := by
    have := OwnG.nil0 (w.alloc (.cells #[.int .i64 0, .int .i64 x, .int .i64 y] 39)) (w.heap.size + 1) (by simp)
    rw [World.size_alloc] at this
    rw [← hwz]
    exact ((this.alloc _).alloc _).alloc _
  have z0 : wz.cell? ⟨w.heap.size + 4, 0, none⟩ = some (.int .i64 2) := by rw [← hwz]; exact cell_at rfl (by simp)
  have z1 : wz.cell? ⟨w.heap.size + 4, 1, none⟩ = some (.int .i64 x) := by rw [← hwz]; exact cell_at rfl (by simp)
  have z2 : wz.cell? ⟨w.heap.size + 4, 2, none⟩ = some (.int .i64 y) := by rw [← hwz]; exact cell_at rfl (by simp)
  have z3 : wz.cell? ⟨w.heap.size + 4, 3, none⟩ = some (.int .i64 l) := by rw [← hwz]; exact cell_at rfl (by simp)
  clear hwz
  go_wp2_with (at_builtin; refine wpList_appendGs [(2, x, y, l)] OZ.out (.tmp 28) (.tmp 30) rfl rfl rfl rfl (by simp) (by omega) ?_; intro v9 w9 ho9 hg9; have O9 := hide (show OwnG w9 (w.heap.size + 1) v9 [(2, x, y, l)] from ho9); have B9 := hide (BZ.out.grown hg9 BZ.out.size (by simp [Value.ownBlock])); have d0 := hg9.cell c0 (by simp [Value.ownBlock]); have d1 := hg9.cell c1 (by simp [Value.ownBlock]); have d2 := hg9.cell c2 (by simp [Value.ownBlock]); clear ho9 hg9)
  obtain ⟨A9, c9, hv9, hgr⟩ := O9.out.gr
  subst hv9
  have G9 := hide (show GR w9 A9 1 [(2, x, y, l)] from hgr)
  have hs9 : w.heap.size < w9.heap.size := World.block_lt_of_cell? w9 _ d0
  clear hgr c0 c1 c2 z0 z1 z2 z3
  cases hq : circQ 8 [(2, x, y, l)]
  · have HC := Lib.hid hq
    have HS := Lib.hid (show stepG 0 x y l = [] by rw [HQ.out, if_neg]; rw [HL.out, hq]; simp)
    clear hq d0 d1 d2
    refine (sCircuitValid_b false 8 _ _ _ [(2, x, y, l)] _ G9.out HC.out).mono ?_
    rintro e w10 ⟨rfl, hb⟩
    have B10 := hide (B9.out.trans (hb.mono B9.out.size))
    clear hb
    go_wp2_with fail
    go_ret
    exact ⟨⟨_, _, _, rfl, by rw [HS.out]; exact GR.nil_ _ _⟩, B10.out.alloc B10.out.size _⟩
  · have HC := Lib.hid hq
    refine (sCircuitValid_b true 8 _ _ _ [(2, x, y, l)] _ G9.out HC.out).mono ?_
    rintro e w10 ⟨rfl, hb⟩
    have B10 := hide (B9.out.trans (hb.mono B9.out.size))
    have G10 := hide (G9.out.below hb)
    have e0 : w10.cell? ⟨w.heap.size, 0, none⟩ = some (.int .i64 0) := (hb.cell (p := ⟨w.heap.size, 0, none⟩) hs9).trans d0
    have e1 : w10.cell? ⟨w.heap.size, 1, none⟩ = some (.int .i64 x) := (hb.cell (p := ⟨w.heap.size, 1, none⟩) hs9).trans d1
    have e2 : w10.cell? ⟨w.heap.size, 2, none⟩ = some (.int .i64 y) := (hb.cell (p := ⟨w.heap.size, 2, none⟩) hs9).trans d2
    clear hb d0 d1 d2
    by_cases hxy : x = y
    · have HS := Lib.hid (show stepG 0 x y l = [] by rw [HQ.out, if_neg (fun h => h.2 ⟨by decide, hxy⟩)])
      have f1 : (x == y) = true := by simpa using hxy
      clear hq hxy
      go_wp2_with fail
      go_ret
      exact ⟨⟨_, _, _, rfl, by rw [HS.out]; exact GR.nil_ _ _⟩, B10.out.alloc B10.out.size _⟩
    · have HS := Lib.hid (show stepG 0 x y l = [(2, x, y, l)] by rw [HQ.out, if_pos ⟨by rw [HL.out]; exact hq, fun h => hxy h.2⟩, HL.out])
      have f1 : (x == y) = false := by simpa using hxy
      clear hq hxy
      go_wp2_with fail
      go_ret
      exact ⟨⟨_, _, _, rfl, by rw [HS.out]; exact G10.out⟩, B10.out⟩
set_option maxRecDepth 100000 in
set_option maxHeartbeats 8000000 in
theorem sStepGates_1 (x y l : Int) (w : World) : Calls Try.prog 25 #[.agg #[.int .i64 1, .int .i64 x, .int .i64 y], .int .i64 l] w (StepPost 1 x y l w) := by
  have HL : Hid (stepL 1 x y l = [(1, x, l, 0), (1, y, l, 0), (2, x, y, l)]) := rfl
  have HQ := Lib.hid (step_same 1 x y l (by omega))
  go_enter Try.func25, Try.ntmps25
  go_upto_region 9 with fail
  refine wp_named fun wz hwz => ?_
  have BZ := hide (show Below w.heap.size w wz by rw [← hwz]; go_grown)
  have hsz : w.heap.size + 5 ≤ wz.heap.size := by rw [← hwz]; simp
  have c0 : wz.cell? ⟨w.heap.size, 0, none⟩ = some (.int .i64 1) := by rw [← hwz]; exact cell_old (cell_old (cell_old (cell_old (cell_at rfl rfl))))
  have c1 : wz.cell? ⟨w.heap.size, 1, none⟩ = some (.int .i64 x) := by rw [← hwz]; exact cell_old (cell_old (cell_old (cell_old (cell_at rfl rfl))))
  have c2 : wz.cell? ⟨w.heap.size, 2, none⟩ = some (.int .i64 y) := by rw [← hwz]; exact cell_old (cell_old (cell_old (cell_old (cell_at rfl rfl))))
  have OZ : Hid (OwnG wz (w.heap.size + 1) (.slice (some ⟨w.heap.size + 1, 0, none⟩) 0 0) []) := by
    have := OwnG.nil0 (w.alloc (.cells #[.int .i64 1, .int .i64 x, .int .i64 y] 39)) (w.heap.size + 1) (by simp)
    rw [World.size_alloc] at this
    rw [← hwz]
    exact ((this.alloc _).alloc _).alloc _
  have x0 : wz.cell? ⟨w.heap.size + 2, 0, none⟩ = some (.int .i64 1) := by rw [← hwz]; exact cell_old (cell_old (cell_at rfl (by simp)))
  have x1 : wz.cell? ⟨w.heap.size + 2, 1, none⟩ = some (.int .i64 x) := by rw [← hwz]; exact cell_old (cell_old (cell_at rfl (by simp)))
  have x2 : wz.cell? ⟨w.heap.size + 2, 2, none⟩ = some (.int .i64 l) := by rw [← hwz]; exact cell_old (cell_old (cell_at rfl (by simp)))
  have x3 : wz.cell? ⟨w.heap.size + 2, 3, none⟩ = some (.int .i64 0) := by rw [← hwz]; exact cell_old (cell_old (cell_at rfl (by simp)))
  have y0 : wz.cell? ⟨w.heap.size + 3, 0, none⟩ = some (.int .i64 1) := by rw [← hwz]; exact cell_old (cell_at rfl (by simp))
  have y1 : wz.cell? ⟨w.heap.size + 3, 1, none⟩ = some (.int .i64 y) := by rw [← hwz]; exact cell_old (cell_at rfl (by simp))
  have y2 : wz.cell? ⟨w.heap.size + 3, 2, none⟩ = some (.int .i64 l) := by rw [← hwz]; exact cell_old (cell_at rfl (by simp))
  have y3 : wz.cell? ⟨w.heap.size + 3, 3, none⟩ = some (.int .i64 0) := by rw [← hwz]; exact cell_old (cell_at rfl (by simp))
  have z0 : wz.cell? ⟨w.heap.size + 4, 0, none⟩ = some (.int .i64 2) := by rw [← hwz]; exact cell_at rfl (by simp)
  have z1 : wz.cell? ⟨w.heap.size + 4, 1, none⟩ = some (.int .i64 x) := by rw [← hwz]; exact cell_at rfl (by simp)
  have z2 : wz.cell? ⟨w.heap.size + 4, 2, none⟩ = some (.int .i64 y) := by rw [← hwz]; exact cell_at rfl (by simp)
  have z3 : wz.cell? ⟨w.heap.size + 4, 3, none⟩ = some (.int .i64 l) := by rw [← hwz]; exact cell_at rfl (by simp)
  clear hwz
  go_wp2_with (at_builtin; refine wpList_appendGs [(1, x, l, 0), (1, y, l, 0), (2, x, y, l)] OZ.out (.tmp 34) (.tmp 38) rfl rfl rfl rfl (by simp) (by omega) ?_; intro v9 w9 ho9 hg9; have O9 := hide (show OwnG w9 (w.heap.size + 1) v9 [(1, x, l, 0), (1, y, l, 0), (2, x, y, l)] from ho9); have B9 := hide (BZ.out.grown hg9 BZ.out.size (by simp [Value.ownBlock])); have d0 := hg9.cell c0 (by simp [Value.ownBlock]); have d1 := hg9.cell c1 (by simp [Value.ownBlock]); have d2 := hg9.cell c2 (by simp [Value.ownBlock]); clear ho9 hg9)
  obtain ⟨A9, c9, hv9, hgr⟩ := O9.out.gr
  subst hv9
  have G9 := hide (show GR w9 A9 3 [(1, x, l, 0), (1, y, l, 0), (2, x, y, l)] from hgr)
  have hs9 : w.heap.size < w9.heap.size := World.block_lt_of_cell? w9 _ d0
  clear hgr c0 c1 c2 x0 x1 x2 x3 y0 y1 y2 y3 z0 z1 z2 z3
  cases hq : circQ 8 [(1, x, l, 0), (1, y, l, 0), (2, x, y, l)]
  · have HC := Lib.hid hq
    have HS := Lib.hid (show stepG 1 x y l = [] by rw [HQ.out, if_neg]; rw [HL.out, hq]; simp)
    clear hq d0 d1 d2
    refine (sCircuitValid_b false 8 _ _ _ [(1, x, l, 0), (1, y, l, 0), (2, x, y, l)] _ G9.out HC.out).mono ?_
    rintro e w10 ⟨rfl, hb⟩
    have B10 := hide (B9.out.trans (hb.mono B9.out.size))
    clear hb
    go_wp2_with fail
    go_ret
    exact ⟨⟨_, _, _, rfl, by rw [HS.out]; exact GR.nil_ _ _⟩, B10.out.alloc B10.out.size _⟩
  · have HC := Lib.hid hq
    refine (sCircuitValid_b true 8 _ _ _ [(1, x, l, 0), (1, y, l, 0), (2, x, y, l)] _ G9.out HC.out).mono ?_
    rintro e w10 ⟨rfl, hb⟩
    have B10 := hide (B9.out.trans (hb.mono B9.out.size))
    have G10 := hide (G9.out.below hb)
    have e0 : w10.cell? ⟨w.heap.size, 0, none⟩ = some (.int .i64 1) := (hb.cell (p := ⟨w.heap.size, 0, none⟩) hs9).trans d0
    have e1 : w10.cell? ⟨w.heap.size, 1, none⟩ = some (.int .i64 x) := (hb.cell (p := ⟨w.heap.size, 1, none⟩) hs9).trans d1
    have e2 : w10.cell? ⟨w.heap.size, 2, none⟩ = some (.int .i64 y) := (hb.cell (p := ⟨w.heap.size, 2, none⟩) hs9).trans d2
    clear hb d0 d1 d2
    by_cases hxy : x = y
    · have HS := Lib.hid (show stepG 1 x y l = [] by rw [HQ.out, if_neg (fun h => h.2 ⟨by decide, hxy⟩)])
      have f1 : (x == y) = true := by simpa using hxy
      clear hq hxy
      go_wp2_with fail
      go_ret
      exact ⟨⟨_, _, _, rfl, by rw [HS.out]; exact GR.nil_ _ _⟩, B10.out.alloc B10.out.size _⟩
    · have HS := Lib.hid (show stepG 1 x y l = [(1, x, l, 0), (1, y, l, 0), (2, x, y, l)] by rw [HQ.out, if_pos ⟨by rw [HL.out]; exact hq, fun h => hxy h.2⟩, HL.out])
      have f1 : (x == y) = false := by simpa using hxy
      clear hq hxy
      go_wp2_with fail
      go_ret
      exact ⟨⟨_, _, _, rfl, by rw [HS.out]; exact G10.out⟩, B10.out⟩
set_option maxRecDepth 100000 in
set_option maxHeartbeats 8000000 in
theorem sStepGates_2 (x y l : Int) (w : World) : Calls Try.prog 25 #[.agg #[.int .i64 2, .int .i64 x, .int .i64 y], .int .i64 l] w (StepPost 2 x y l w) := by
  have HL : Hid (stepL 2 x y l = [(1, x, l, 0), (1, y, l, 0)]) := rfl
  have HQ := Lib.hid (step_same 2 x y l (by omega))
  go_enter Try.func25, Try.ntmps25
  go_upto_region 11 with fail
  refine wp_named fun wz hwz => ?_
  have BZ := hide (show Below w.heap.size w wz by rw [← hwz]; go_grown)
  have hsz : w.heap.size + 5 ≤ wz.heap.size := by rw [← hwz]; simp
  have c0 : wz.cell? ⟨w.heap.size, 0, none⟩ = some (.int .i64 2) := by rw [← hwz]; exact cell_old (cell_old (cell_old (cell_old (cell_at rfl rfl))))
  have c1 : wz.cell? ⟨w.heap.size, 1, none⟩ = some (.int .i64 x) := by rw [← hwz]; exact cell_old (cell_old (cell_old (cell_old (cell_at rfl rfl))))
  have c2 : wz.cell? ⟨w.heap.size, 2, none⟩ = some (.int .i64 y) := by rw [← hwz]; exact cell_old (cell_old (cell_old (cell_old (cell_at rfl rfl))))
  have OZ : Hid (OwnG wz (w.heap.size + 1) (.slice (some ⟨w.heap.size + 1, 0, none⟩) 0 0) []) := by
    have := OwnG.nil0 (w.alloc (.cells #[.int .i64 2, .int .i64 x, .int .i64 y] 39)) (w.heap.size + 1) (by simp)
    rw [World.size_alloc] at this
    rw [← hwz]
    exact ((this.alloc _).alloc _).alloc _
  have x0 : wz.cell? ⟨w.heap.size + 2, 0, none⟩ = some (.int .i64 1) := by rw [← hwz]; exact cell_old (cell_old (cell_at rfl (by simp)))
  have x1 : wz.cell? ⟨w.heap.size + 2, 1, none⟩ = some (.int .i64 x) := by rw [← hwz]; exact cell_old (cell_old (cell_at rfl (by simp)))
  have x2 : wz.cell? ⟨w.heap.size + 2, 2, none⟩ = some (.int .i64 l) := by rw [← hwz]; exact cell_old (cell_old (cell_at rfl (by simp)))
  have x3 : wz.cell? ⟨w.heap.size + 2, 3, none⟩ = some (.int .i64 0) := by rw [← hwz]; exact cell_old (cell_old (cell_at rfl (by simp)))
  have y0 : wz.cell? ⟨w.heap.size + 3, 0, none⟩ = some (.int .i64 1) := by rw [← hwz]; exact cell_old (cell_at rfl (by simp))
  have y1 : wz.cell? ⟨w.heap.size + 3, 1, none⟩ = some (.int .i64 y) := by rw [← hwz]; exact cell_old (cell_at rfl (by simp))
  have y2 : wz.cell? ⟨w.heap.size + 3, 2, none⟩ = some (.int .i64 l) := by rw [← hwz]; exact cell_old (cell_at rfl (by simp))
  have y3 : wz.cell? ⟨w.heap.size + 3, 3, none⟩ = some (.int .i64 0) := by rw [← hwz]; exact cell_old (cell_at rfl (by simp))
  clear hwz
  go_wp2_with (at_builtin; refine wpList_appendGs [(1, x, l, 0), (1, y, l, 0)] OZ.out (.tmp 42) (.tmp 45) rfl rfl rfl rfl (by simp) (by omega) ?_; intro v9 w9 ho9 hg9; have O9 := hide (show OwnG w9 (w.heap.size + 1) v9 [(1, x, l, 0), (1, y, l, 0)] from ho9); have B9 := hide (BZ.out.grown hg9 BZ.out.size (by simp [Value.ownBlock])); have d0 := hg9.cell c0 (by simp [Value.ownBlock]); have d1 := hg9.cell c1 (by simp [Value.ownBlock]); have d2 := hg9.cell c2 (by simp [Value.ownBlock]); clear ho9 hg9)
  obtain ⟨A9, c9, hv9, hgr⟩ := O9.out.gr
  subst hv9
  have G9 := hide (show GR w9 A9 2 [(1, x, l, 0), (1, y, l, 0)] from hgr)
  have hs9 : w.heap.size < w9.heap.size := World.block_lt_of_cell? w9 _ d0
  clear hgr c0 c1 c2 x0 x1 x2 x3 y0 y1 y2 y3
  cases hq : circQ 8 [(1, x, l, 0), (1, y, l, 0)]
  · have HC := Lib.hid hq
    have HS := Lib.hid (show stepG 2 x y l = [] by rw [HQ.out, if_neg]; rw [HL.out, hq]; simp)
    clear hq d0 d1 d2
    refine (sCircuitValid_b false 8 _ _ _ [(1, x, l, 0), (1, y, l, 0)] _ G9.out HC.out).mono ?_
    rintro e w10 ⟨rfl, hb⟩
    have B10 := hide (B9.out.trans (hb.mono B9.out.size))
    clear hb
    go_wp2_with fail
    go_ret
    exact ⟨⟨_, _, _, rfl, by rw [HS.out]; exact GR.nil_ _ _⟩, B10.out.alloc B10.out.size _⟩
  · have HC := Lib.hid hq
    refine (sCircuitValid_b true 8 _ _ _ [(1, x, l, 0), (1, y, l, 0)] _ G9.out HC.out).mono ?_
    rintro e w10 ⟨rfl, hb⟩
    have B10 := hide (B9.out.trans (hb.mono B9.out.size))
    have G10 := hide (G9.out.below hb)
    have e0 : w10.cell? ⟨w.heap.size, 0, none⟩ = some (.int .i64 2) := (hb.cell (p := ⟨w.heap.size, 0, none⟩) hs9).trans d0
    have e1 : w10.cell? ⟨w.heap.size, 1, none⟩ = some (.int .i64 x) := (hb.cell (p := ⟨w.heap.size, 1, none⟩) hs9).trans d1
    have e2 : w10.cell? ⟨w.heap.size, 2, none⟩ = some (.int .i64 y) := (hb.cell (p := ⟨w.heap.size, 2, none⟩) hs9).trans d2
    clear hb d0 d1 d2
    by_cases hxy : x = y
    · have HS := Lib.hid (show stepG 2 x y l = [] by rw [HQ.out, if_neg (fun h => h.2 ⟨by decide, hxy⟩)])
      have f1 : (x == y) = true := by simpa using hxy
      clear hq hxy
      go_wp2_with fail
      go_ret
      exact ⟨⟨_, _, _, rfl, by rw [HS.out]; exact GR.nil_ _ _⟩, B10.out.alloc B10.out.size _⟩
    · have HS := Lib.hid (show stepG 2 x y l = [(1, x, l, 0), (1, y, l, 0)] by rw [HQ.out, if_pos ⟨by rw [HL.out]; exact hq, fun h => hxy h.2⟩, HL.out])
      have f1 : (x == y) = false := by simpa using hxy
      clear hq hxy
      go_wp2_with fail
      go_ret
      exact ⟨⟨_, _, _, rfl, by rw [HS.out]; exact G10.out⟩, B10.out⟩
set_option maxRecDepth 100000 in
set_option maxHeartbeats 8000000 in
theorem sStepGates_3 (x y l : Int) (w : World) : Calls Try.prog 25 #[.agg #[.int .i64 3, .int .i64 x, .int .i64 y], .int .i64 l] w (StepPost 3 x y l w) := by
  have HL : Hid (stepL 3 x y l = [(1, x, l, 0), (0, l, 0, 0)]) := rfl
  have HQ := Lib.hid (step_same 3 x y l (by omega))
  go_enter Try.func25, Try.ntmps25
  go_upto_region 13 with fail
  refine wp_named fun wz hwz => ?_
  have BZ := hide (show Below w.heap.size w wz by rw [← hwz]; go_grown)
  have hsz : w.heap.size + 5 ≤ wz.heap.size := by rw [← hwz]; simp
  have c0 : wz.cell? ⟨w.heap.size, 0, none⟩ = some (.int .i64 3) := by rw [← hwz]; exact cell_old (cell_old (cell_old (cell_old (cell_at rfl rfl))))
  have c1 : wz.cell? ⟨w.heap.size, 1, none⟩ = some (.int .i64 x) := by rw [← hwz]; exact cell_old (cell_old (cell_old (cell_old (cell_at rfl rfl))))
  have c2 : wz.cell? ⟨w.heap.size, 2, none⟩ = some (.int .i64 y) := by rw [← hwz]; exact cell_old (cell_old (cell_old (cell_old (cell_at rfl rfl))))
  have OZ : Hid (OwnG wz (w.heap.size + 1) (.slice (some ⟨w.heap.size + 1, 0, none⟩) 0 0) []) := by
    have := OwnG.nil0 (w.alloc (.cells #[.int .i64 3, .int .i64 x, .int .i64 y] 39)) (w.heap.size + 1) (by simp)
    rw [World.size_alloc] at this
    rw [← hwz]
    exact ((this.alloc _).alloc _).alloc _
  have x0 : wz.cell? ⟨w.heap.size + 2, 0, none⟩ = some (.int .i64 1) := by rw [← hwz]; exact cell_old (cell_old (cell_at rfl (by simp)))
  have x1 : wz.cell? ⟨w.heap.size + 2, 1, none⟩ = some (.int .i64 x) := by rw [← hwz]; exact cell_old (cell_old (cell_at rfl (by simp)))
  have x2 : wz.cell? ⟨w.heap.size + 2, 2, none⟩ = some (.int .i64 l) := by rw [← hwz]; exact cell_old (cell_old (cell_at rfl (by simp)))
  have x3 : wz.cell? ⟨w.heap.size + 2, 3, none⟩ = some (.int .i64 0) := by rw [← hwz]; exact cell_old (cell_old (cell_at rfl (by simp)))
  clear hwz
  go_wp2_with (at_builtin; refine wpList_appendGs [(1, x, l, 0), (0, l, 0, 0)] OZ.out (.tmp 49) (.tmp 53) rfl rfl rfl rfl (by simp) (by omega) ?_; intro v9 w9 ho9 hg9; have O9 := hide (show OwnG w9 (w.heap.size + 1) v9 [(1, x, l, 0), (0, l, 0, 0)] from ho9); have B9 := hide (BZ.out.grown hg9 BZ.out.size (by simp [Value.ownBlock])); have d0 := hg9.cell c0 (by simp [Value.ownBlock]); have d1 := hg9.cell c1 (by simp [Value.ownBlock]); have d2 := hg9.cell c2 (by simp [Value.ownBlock]); clear ho9 hg9)
  obtain ⟨A9, c9, hv9, hgr⟩ := O9.out.gr
  subst hv9
  have G9 := hide (show GR w9 A9 2 [(1, x, l, 0), (0, l, 0, 0)] from hgr)
  have hs9 : w.heap.size < w9.heap.size := World.block_lt_of_cell? w9 _ d0
  clear hgr c0 c1 c2 x0 x1 x2 x3
  cases hq : circQ 8 [(1, x, l, 0), (0, l, 0, 0)]
  · have HC := Lib.hid hq
    have HS := Lib.hid (show stepG 3 x y l = [] by rw [HQ.out, if_neg]; rw [HL.out, hq]; simp)
    clear hq d0 d1 d2
    refine (sCircuitValid_b false 8 _ _ _ [(1, x, l, 0), (0, l, 0, 0)] _ G9.out HC.out).mono ?_
    rintro e w10 ⟨rfl, hb⟩
    have B10 := hide (B9.out.trans (hb.mono B9.out.size))
    clear hb
    go_wp2_with fail
    go_ret
    exact ⟨⟨_, _, _, rfl, by rw [HS.out]; exact GR.nil_ _ _⟩, B10.out.alloc B10.out.size _⟩
  · have HC := Lib.hid hq
    refine (sCircuitValid_b true 8 _ _ _ [(1, x, l, 0), (0, l, 0, 0)] _ G9.out HC.out).mono ?_
    rintro e w10 ⟨rfl, hb⟩
    have B10 := hide (B9.out.trans (hb.mono B9.out.size))
    have G10 := hide (G9.out.below hb)
    have e0 : w10.cell? ⟨w.heap.size, 0, none⟩ = some (.int .i64 3) := (hb.cell (p := ⟨w.heap.size, 0, none⟩) hs9).trans d0
    have e1 : w10.cell? ⟨w.heap.size, 1, none⟩ = some (.int .i64 x) := (hb.cell (p := ⟨w.heap.size, 1, none⟩) hs9).trans d1
    have e2 : w10.cell? ⟨w.heap.size, 2, none⟩ = some (.int .i64 y) := (hb.cell (p := ⟨w.heap.size, 2, none⟩) hs9).trans d2
    clear hb d0 d1 d2
    have HS := Lib.hid (show stepG 3 x y l = [(1, x, l, 0), (0, l, 0, 0)] by rw [HQ.out, if_pos ⟨by rw [HL.out]; exact hq, fun h => h.1 rfl⟩, HL.out])
    clear hq
    go_wp2_with fail
    go_ret
    exact ⟨⟨_, _, _, rfl, by rw [HS.out]; exact G10.out⟩, B10.out⟩
set_option maxRecDepth 100000 in
set_option maxHeartbeats 8000000 in
theorem sStepGates_4 (x y l : Int) (w : World) : Calls Try.prog 25 #[.agg #[.int .i64 4, .int .i64 x, .int .i64 y], .int .i64 l] w (StepPost 4 x y l w) := by
  have HL : Hid (stepL 4 x y l = []) := rfl
  have HQ := Lib.hid (step_same 4 x y l (by omega))
  go_enter Try.func25, Try.ntmps25
  go_upto_region 14 with fail
  refine wp_named fun wz hwz => ?_
  have BZ := hide (show Below w.heap.size w wz by rw [← hwz]; go_grown)
  have hsz : w.heap.size + 5 ≤ wz.heap.size := by rw [← hwz]; simp
  have c0 : wz.cell? ⟨w.heap.size, 0, none⟩ = some (.int .i64 4) := by rw [← hwz]; exact cell_old (cell_old (cell_old (cell_old (cell_at rfl rfl))))
  have c1 : wz.cell? ⟨w.heap.size, 1, none⟩ = some (.int .i64 x) := by rw [← hwz]; exact cell_old (cell_old (cell_old (cell_old (cell_at rfl rfl))))
  have c2 : wz.cell? ⟨w.heap.size, 2, none⟩ = some (.int .i64 y) := by rw [← hwz]; exact cell_old (cell_old (cell_old (cell_old (cell_at rfl rfl))))
  have OZ : Hid (OwnG wz (w.heap.size + 1) (.slice (some ⟨w.heap.size + 1, 0, none⟩) 0 0) []) := by
    have := OwnG.nil0 (w.alloc (.cells #[.int .i64 4, .int .i64 x, .int .i64 y] 39)) (w.heap.size + 1) (by simp)
    rw [World.size_alloc] at this
    rw [← hwz]
    exact ((this.alloc _).alloc _).alloc _
  clear hwz
  obtain ⟨w9, hw9⟩ : ∃ w9, wz = w9 := ⟨_, rfl⟩
  subst hw9
  have G9 := hide (GR.nil_ wz (some ⟨w.heap.size + 1, 0, none⟩))
  have B9 := BZ
  have hs9 : w.heap.size < wz.heap.size := by omega
  have d0 := c0
  have d1 := c1
  have d2 := c2
  clear c0 c1 c2
  go_wp2_with fail
  cases hq : circQ 8 []
  · have HC := Lib.hid hq
    have HS := Lib.hid (show stepG 4 x y l = [] by rw [HQ.out, if_neg]; rw [HL.out, hq]; simp)
    clear hq d0 d1 d2
    refine (sCircuitValid_b false 8 _ _ _ [] _ G9.out HC.out).mono ?_
    rintro e w10 ⟨rfl, hb⟩
    have B10 := hide (B9.out.trans (hb.mono B9.out.size))
    clear hb
    go_wp2_with fail
    go_ret
    exact ⟨⟨_, _, _, rfl, by rw [HS.out]; exact GR.nil_ _ _⟩, B10.out.alloc B10.out.size _⟩
  · have HC := Lib.hid hq
    refine (sCircuitValid_b true 8 _ _ _ [] _ G9.out HC.out).mono ?_
    rintro e w10 ⟨rfl, hb⟩
    have B10 := hide (B9.out.trans (hb.mono B9.out.size))
    have G10 := hide (G9.out.below hb)
    have e0 : w10.cell? ⟨w.heap.size, 0, none⟩ = some (.int .i64 4) := (hb.cell (p := ⟨w.heap.size, 0, none⟩) hs9).trans d0
    have e1 : w10.cell? ⟨w.heap.size, 1, none⟩ = some (.int .i64 x) := (hb.cell (p := ⟨w.heap.size, 1, none⟩) hs9).trans d1
    have e2 : w10.cell? ⟨w.heap.size, 2, none⟩ = some (.int .i64 y) := (hb.cell (p := ⟨w.heap.size, 2, none⟩) hs9).trans d2
    clear hb d0 d1 d2
    by_cases hxy : x = y
    · have HS := Lib.hid (show stepG 4 x y l = [] by rw [HQ.out, if_neg (fun h => h.2 ⟨by decide, hxy⟩)])
      have f1 : (x == y) = true := by simpa using hxy
      clear hq hxy
      go_wp2_with fail
      go_ret
      exact ⟨⟨_, _, _, rfl, by rw [HS.out]; exact GR.nil_ _ _⟩, B10.out.alloc B10.out.size _⟩
    · have HS := Lib.hid (show stepG 4 x y l = [] by rw [HQ.out, if_pos ⟨by rw [HL.out]; exact hq, fun h => hxy h.2⟩, HL.out])
      have f1 : (x == y) = false := by simpa using hxy
      clear hq hxy
      go_wp2_with fail
      go_ret
      exact ⟨⟨_, _, _, rfl, by rw [HS.out]; exact G10.out⟩, B10.out⟩
end Go.Proofs.Ytdkphnojloanoaa
