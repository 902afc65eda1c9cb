/-
  The gates of a step, by the program and by the reference.
  No condition.
-/
import Derived.Outline
import Derived.Deep.RegionWith
import Derived.Deep.RegionHeld3
import Derived.Deep.DeepCutAuto
import Derived.Deep.CutBlock
import Derived.Test.YtpklpebngholcaaOwnG
import Derived.Test.YtpklpebngholcaaCirc2
import Derived.Test.YtpklpebngholcaaNode
namespace Go.Proofs.Ytpklpebngholcaa
open Go.RowKit Go.Sort base
def stepL (op x y l : Int) : List G4 :=
  if op = 0 then [(2, x, y, l)] else if op = 1 then [(1, x, l, 0), (1, y, l, 0), (2, x, y, l)] else if op = 2 then [(1, x, l, 0), (1, y, l, 0)] else if op = 3 then [(1, x, l, 0), (0, l, 0, 0)] else []
def stepQ (op x y l : Int) : Bool := (op == 3 || gateQ 8 2 x y l) && (stepL op x y l).all (gateOk 8)
def stepG (op x y l : Int) : List G4 := if stepQ op x y l = true then stepL op x y l else []
set_option maxHeartbeats 1000000 in
theorem copyOf_any (x l : Int) (b : Nat) (w : World) (hb : w.cell? ⟨b, 0, none⟩ = some (.int .i64 l)) :
    Calls Try.prog 49 #[.int .i64 x, .pointer (some ⟨b, 0, none⟩)] w fun e w' => e = .returned (.agg #[.int .i64 1, .int .i64 x, .int .i64 l, .int .i64 0]) ∧ Below w.heap.size w w' := by
  have hlt : b < w.heap.size := World.block_lt_of_cell? w _ hb
  go_enter Try.func49, Try.ntmps49
  go_wp2_with fail
  refine bodyPost_ret (v := .agg #[.int .i64 1, .int .i64 x, .int .i64 l, .int .i64 0]) (by simp [results, Try.results49, go_sem]) rfl ⟨rfl, by go_grown⟩
set_option maxHeartbeats 1000000 in
theorem both_any (x y l : Int) (b : Nat) (w : World) (hb : w.cell? ⟨b, 0, none⟩ = some (.int .i64 l)) :
    Calls Try.prog 50 #[.int .i64 x, .int .i64 y, .pointer (some ⟨b, 0, none⟩)] w fun e w' => e = .returned (.agg #[.int .i64 2, .int .i64 x, .int .i64 y, .int .i64 l]) ∧ Below w.heap.size w w' := by
  have hlt : b < w.heap.size := World.block_lt_of_cell? w _ hb
  go_enter Try.func50, Try.ntmps50
  go_wp2_with fail
  refine bodyPost_ret (v := .agg #[.int .i64 2, .int .i64 x, .int .i64 y, .int .i64 l]) (by simp [results, Try.results50, go_sem]) rfl ⟨rfl, by go_grown⟩
theorem ta_andNode (v : Value) (w : World) : (Instr.typeAssert (.iface 76 v) 73 76 true).run Try.prog w = .ok (.tuple #[v, .bool true]) w := by kernel_rfl
theorem tn_andNode (w : World) : (Instr.typeAssert .nilIface 73 76 true).run Try.prog w = .ok (.tuple #[.agg #[.int .i64 0, .int .i64 0], .bool false]) w := by kernel_rfl
theorem tf_xorNode_andNode (v : Value) (w : World) : (Instr.typeAssert (.iface 77 v) 73 76 true).run Try.prog w = .ok (.tuple #[.agg #[.int .i64 0, .int .i64 0], .bool false]) w := by kernel_rfl
theorem tf_orNode_andNode (v : Value) (w : World) : (Instr.typeAssert (.iface 78 v) 73 76 true).run Try.prog w = .ok (.tuple #[.agg #[.int .i64 0, .int .i64 0], .bool false]) w := by kernel_rfl
theorem tf_notNode_andNode (v : Value) (w : World) : (Instr.typeAssert (.iface 80 v) 73 76 true).run Try.prog w = .ok (.tuple #[.agg #[.int .i64 0, .int .i64 0], .bool false]) w := by kernel_rfl
theorem ta_xorNode (v : Value) (w : World) : (Instr.typeAssert (.iface 77 v) 73 77 true).run Try.prog w = .ok (.tuple #[v, .bool true]) w := by kernel_rfl
theorem tn_xorNode (w : World) : (Instr.typeAssert .nilIface 73 77 true).run Try.prog w = .ok (.tuple #[.agg #[.int .i64 0, .int .i64 0], .bool false]) w := by kernel_rfl
theorem tf_andNode_xorNode (v : Value) (w : World) : (Instr.typeAssert (.iface 76 v) 73 77 true).run Try.prog w = .ok (.tuple #[.agg #[.int .i64 0, .int .i64 0], .bool false]) w := by kernel_rfl
theorem tf_orNode_xorNode (v : Value) (w : World) : (Instr.typeAssert (.iface 78 v) 73 77 true).run Try.prog w = .ok (.tuple #[.agg #[.int .i64 0, .int .i64 0], .bool false]) w := by kernel_rfl
theorem tf_notNode_xorNode (v : Value) (w : World) : (Instr.typeAssert (.iface 80 v) 73 77 true).run Try.prog w = .ok (.tuple #[.agg #[.int .i64 0, .int .i64 0], .bool false]) w := by kernel_rfl
theorem ta_orNode (v : Value) (w : World) : (Instr.typeAssert (.iface 78 v) 73 78 true).run Try.prog w = .ok (.tuple #[v, .bool true]) w := by kernel_rfl
theorem tn_orNode (w : World) : (Instr.typeAssert .nilIface 73 78 true).run Try.prog w = .ok (.tuple #[.agg #[.int .i64 0, .int .i64 0], .bool false]) w := by kernel_rfl
theorem tf_andNode_orNode (v : Value) (w : World) : (Instr.typeAssert (.iface 76 v) 73 78 true).run Try.prog w = .ok (.tuple #[.agg #[.int .i64 0, .int .i64 0], .bool false]) w := by kernel_rfl
theorem tf_xorNode_orNode (v : Value) (w : World) : (Instr.typeAssert (.iface 77 v) 73 78 true).run Try.prog w = .ok (.tuple #[.agg #[.int .i64 0, .int .i64 0], .bool false]) w := by kernel_rfl
theorem tf_notNode_orNode (v : Value) (w : World) : (Instr.typeAssert (.iface 80 v) 73 78 true).run Try.prog w = .ok (.tuple #[.agg #[.int .i64 0, .int .i64 0], .bool false]) w := by kernel_rfl
theorem ta_notNode (v : Value) (w : World) : (Instr.typeAssert (.iface 80 v) 73 80 true).run Try.prog w = .ok (.tuple #[v, .bool true]) w := by kernel_rfl
theorem tn_notNode (w : World) : (Instr.typeAssert .nilIface 73 80 true).run Try.prog w = .ok (.tuple #[.agg #[.int .i64 0], .bool false]) w := by kernel_rfl
theorem tf_andNode_notNode (v : Value) (w : World) : (Instr.typeAssert (.iface 76 v) 73 80 true).run Try.prog w = .ok (.tuple #[.agg #[.int .i64 0], .bool false]) w := by kernel_rfl
theorem tf_xorNode_notNode (v : Value) (w : World) : (Instr.typeAssert (.iface 77 v) 73 80 true).run Try.prog w = .ok (.tuple #[.agg #[.int .i64 0], .bool false]) w := by kernel_rfl
theorem tf_orNode_notNode (v : Value) (w : World) : (Instr.typeAssert (.iface 78 v) 73 80 true).run Try.prog w = .ok (.tuple #[.agg #[.int .i64 0], .bool false]) w := by kernel_rfl
theorem step_cells {op x y l : Int} {w w1 : World} (hb : Below ((w.alloc (.cells #[.int .i64 op, .int .i64 x, .int .i64 y] 44)).alloc (.cells #[.int .i64 l] 3)).heap.size ((w.alloc (.cells #[.int .i64 op, .int .i64 x, .int .i64 y] 44)).alloc (.cells #[.int .i64 l] 3)) w1) :
    w1.cell? ⟨w.heap.size, 0, none⟩ = some (.int .i64 op) ∧ w1.cell? ⟨w.heap.size, 1, none⟩ = some (.int .i64 x) ∧ w1.cell? ⟨w.heap.size, 2, none⟩ = some (.int .i64 y) ∧ w1.cell? ⟨w.heap.size + 1, 0, none⟩ = some (.int .i64 l) := by
  have hz : ((w.alloc (.cells #[.int .i64 op, .int .i64 x, .int .i64 y] 44)).alloc (.cells #[.int .i64 l] 3)).heap.size = w.heap.size + 2 := by simp
  refine ⟨?_, ?_, ?_, ?_⟩
  · exact (hb.cell (p := ⟨w.heap.size, 0, none⟩) (by rw [hz]; show w.heap.size < _; omega)).trans (cell_old (cell_at rfl rfl))
  · exact (hb.cell (p := ⟨w.heap.size, 1, none⟩) (by rw [hz]; show w.heap.size < _; omega)).trans (cell_old (cell_at rfl rfl))
  · exact (hb.cell (p := ⟨w.heap.size, 2, none⟩) (by rw [hz]; show w.heap.size < _; omega)).trans (cell_old (cell_at rfl rfl))
  · exact (hb.cell (p := ⟨w.heap.size + 1, 0, none⟩) (by rw [hz]; show w.heap.size + 1 < _; omega)).trans (cell_at rfl (by simp))
def StepPost (op x y l : Int) (w : World) (e : Ending) (w' : World) : Prop := (∃ A n c, e = .returned (.slice A n c) ∧ GR w' A n (stepG op x y l)) ∧ Below w.heap.size w w'

theorem GR.lit (w : World) (gs : List G4) (hl : gs.length ≤ 1000) : GR (w.alloc (.cells (gcells gs).toArray 60)) (some ⟨w.heap.size, 0, none⟩) gs.length gs := by
  have h := World.ownsRow_lit (e := 60) (size := 4) w (gcells gs).toArray gs.length (Nat.le_refl _) (by unfold maxLen; omega) (by simp [gcells_len])
  have ho : OwnG (w.alloc (.cells (gcells gs).toArray 60)) w.heap.size (.slice (some ⟨w.heap.size, 0, none⟩) gs.length gs.length) gs := by simpa [OwnG] using h
  exact ⟨rfl, by omega, fun _ => ⟨w.heap.size, 0, rfl, by simp, fun i hi => by rw [Nat.zero_add]; exact ho.at_ i hi⟩⟩
theorem GR.nil_ (w : World) (A : Option Addr) : GR w A 0 [] := ⟨rfl, by omega, fun h => absurd h (by omega)⟩
theorem any_bad (gs : List G4) : gs.any (badGate 8) = !gs.all (gateOk 8) := by
  rw [Bool.eq_iff_iff]; simp [badGate]
set_option maxHeartbeats 1000000 in
theorem badGate3_any (g : G4) (w : World) :
    Calls Try.prog 54 (#[.agg #[.int .i64 g.1, .int .i64 g.2.1, .int .i64 g.2.2.1, .int .i64 g.2.2.2]] ++ #[]) w fun e w' => e = .returned (.bool (badGate 8 g)) ∧ Below w.heap.size w w' := by
  obtain ⟨k, a, b, c⟩ := g
  show Calls Try.prog 54 #[.agg #[.int .i64 k, .int .i64 a, .int .i64 b, .int .i64 c]] w _
  have HB0 := hide (show Below w.heap.size w (w.alloc (.cells #[.int .i64 k, .int .i64 a, .int .i64 b, .int .i64 c] 60)) by go_grown)
  obtain ⟨v, hv⟩ : ∃ v, gateQ 8 k a b c = v := ⟨_, rfl⟩
  have HV := Lib.hid hv
  have HW := Lib.hid (show badGate 8 (k, a, b, c) = !v by rw [badGate, gateOk, hv])
  clear hv
  go_enter Try.func54, Try.ntmps54
  go_wp2_with fail
  refine (gateValid_b v _ _ _ _ _ HV.out _).mono ?_
  rintro e w1 ⟨rfl, hb1⟩
  have HB1 := hide (HB0.out.trans (hb1.mono HB0.out.size))
  clear hb1
  go_wp2_with fail
  go_ret
  exact ⟨by rw [HW.out]; rfl, HB1.out⟩

set_option maxHeartbeats 1000000 in
theorem indexGate3_any (A : Option Addr) (n c : Nat) (gs : List G4) (w : World) (h : GR w A n gs) :
    Calls Try.prog 61 #[.slice A n c, .func (.func 54) #[] #[]] w fun e w' => (∃ r : Int, e = .returned (.int .i64 r) ∧ decide (0 ≤ r) = gs.any (badGate 8)) ∧ Below w.heap.size w w' := by
  have hcf : ∀ (args : Array Value) (w : World), (callFunc 54 args).run Try.prog w = .ok (.enter 54 args) w := fun _ _ => by kernel_rfl
  have HR0 := hide h
  have hmax := h.max
  have HLen := Lib.hid h.len
  clear h
  go_enter Try.func61, Try.ntmps61
  go_wp2
  go_loopw [8] (fun iv wr => ∃ j : Nat, j ≤ n ∧ iv = .int .i64 j ∧ Hid ((gs.take j).any (badGate 8) = false) ∧ Hid (Below w.heap.size w wr)) (fun iv _ => n - (intOf iv).toNat)
  case atStart => exact ⟨0, by omega, rfl, rfl, Below.refl _ _⟩
  case round =>
    obtain ⟨j, hj, rfl, HN, HB⟩ := hrel
    have HR := hide (HR0.out.below HB.out)
    by_cases hlt2 : j < n
    · obtain ⟨b, o, rfl, hbl, hcc⟩ := HR.out.at_ (by omega)
      obtain ⟨g0, g1, g2, g3⟩ := hcc j hlt2
      clear hcc
      have HT := Lib.hid (any_take_succ_g (k := j) (badGate 8) (by rw [HLen.out]; exact hlt2))
      cases hp : badGate 8 (gth gs j)
      · have HP := Lib.hid hp
        clear hp
        go_wp2_with fail
        refine (badGate3_any (gth gs j) _).mono ?_
        rintro e w1 ⟨he, hb1⟩
        rw [HP.out] at he
        subst he
        have HB1 := hide (bseq HB.out hb1)
        clear hb1 g0 g1 g2 g3
        go_wp2
        go_roundw
        case rel => exact ⟨j + 1, by omega, by go_num, by rw [HT.out, HN.out, HP.out]; rfl, HB1.out⟩
        case measure => simp [intOf]; omega
      · have HP := Lib.hid (any_of_gth _ (by rw [HLen.out]; exact hlt2) hp)
        have HP' := Lib.hid hp
        clear hp
        go_wp2_with fail
        refine (badGate3_any (gth gs j) _).mono ?_
        rintro e w1 ⟨he, hb1⟩
        rw [HP'.out] at he
        subst he
        have HB1 := hide (bseq HB.out hb1)
        clear hb1 g0 g1 g2 g3
        go_wp2
        go_ret
        exact ⟨⟨j, rfl, by rw [HP.out]; simp⟩, HB1.out⟩
    · obtain rfl : j = n := by omega
      have HN' := Lib.hid (show gs.any (badGate 8) = false by have := HN.out; rwa [List.take_of_length_le (by rw [HLen.out]; omega)] at this)
      go_wp2
      go_ret
      exact ⟨⟨-1, rfl, by rw [HN'.out]; rfl⟩, HB.out⟩
set_option maxHeartbeats 400000 in
theorem containsGate3_any (A : Option Addr) (n c : Nat) (gs : List G4) (w : World) (h : GR w A n gs) :
    Calls Try.prog 53 #[.slice A n c, .func (.func 54) #[] #[]] w fun e w' => e = .returned (.bool (gs.any (badGate 8))) ∧ Below w.heap.size w w' := by
  have HI := hide (indexGate3_any A n c gs w h)
  clear h
  go_enter Try.func53, Try.ntmps53
  go_wp2_with fail
  refine HI.out.mono ?_
  rintro e w1 ⟨⟨r, rfl, hr⟩, hb1⟩
  have HR := Lib.hid hr
  have HB := hide hb1
  clear hr hb1
  go_wp2_with fail
  go_ret
  exact ⟨by rw [← HR.out]; rfl, HB.out⟩

set_option maxRecDepth 100000 in
set_option maxHeartbeats 8000000 in
theorem stepGates_0 (x y l : Int) (w : World) : Calls Try.prog 42 #[.agg #[.int .i64 0, .int .i64 x, .int .i64 y], .int .i64 l] w (StepPost 0 x y l w) := by
  have t0 := ta_andNode
  have HL : Hid (stepL 0 x y l = [(2, x, y, l)]) := rfl
  go_enter Try.func42, Try.ntmps42
  go_wp2_with fail
  refine (node_0 x y _).mono ?_
  rintro e w1 ⟨rfl, hb1⟩
  have B1 := hide ((show Below w.heap.size w ((w.alloc (.cells #[.int .i64 0, .int .i64 x, .int .i64 y] 44)).alloc (.cells #[.int .i64 l] 3)) by go_grown).trans (hb1.mono (by simp; omega)))
  obtain ⟨c0, c1, c2, cl⟩ := step_cells hb1
  have hs1 : w.heap.size + 2 ≤ w1.heap.size := by have := hb1.size; simpa using this
  clear hb1
  go_wp2_with fail
  refine (both_any x y l (w.heap.size + 1) _ (cell_old cl)).mono ?_
  rintro e w3 ⟨rfl, hb3⟩
  have D3 := hide (((Below.refl _ w1).alloc (Nat.le_refl _) (.cells #[.int .i64 x, .int .i64 y] 76)).trans (hb3.mono (by simp)))
  clear hb3
  have D4 := hide (D3.out.alloc D3.out.size (.cells (gcells [(2, x, y, l)]).toArray 60))
  have Q4 := hide (GR.lit w3 [(2, x, y, l)] (by simp))
  obtain ⟨w4, hw4⟩ : ∃ w4, (w3.alloc (.cells (gcells [(2, x, y, l)]).toArray 60)) = w4 := ⟨_, rfl⟩
  have hw4' : w3.alloc (.cells #[.int .i64 2, .int .i64 x, .int .i64 y, .int .i64 l] 60) = w4 := hw4
  rw [hw4] at D4 Q4
  have B4 := hide (B1.out.trans (D4.out.mono B1.out.size))
  have e0 : w4.cell? ⟨w.heap.size, 0, none⟩ = some (.int .i64 0) := (D4.out.cell (p := ⟨w.heap.size, 0, none⟩) (by show w.heap.size < _; omega)).trans c0
  have e1 : w4.cell? ⟨w.heap.size, 1, none⟩ = some (.int .i64 x) := (D4.out.cell (p := ⟨w.heap.size, 1, none⟩) (by show w.heap.size < _; omega)).trans c1
  have e2 : w4.cell? ⟨w.heap.size, 2, none⟩ = some (.int .i64 y) := (D4.out.cell (p := ⟨w.heap.size, 2, none⟩) (by show w.heap.size < _; omega)).trans c2
  have el : w4.cell? ⟨w.heap.size + 1, 0, none⟩ = some (.int .i64 l) := (D4.out.cell (p := ⟨w.heap.size + 1, 0, none⟩) (by show w.heap.size + 1 < _; omega)).trans cl
  clear c0 c1 c2 cl
  have HW := Lib.hid hw4'
  clear hw4 hw4'
  go_upto_region 17 with fail
  rw [HW.out]
  go_wp2_with fail
  refine (both_any x y l (w.heap.size + 1) _ el).mono ?_
  rintro e w5 ⟨rfl, hb5⟩
  have B5 := hide (B4.out.trans (hb5.mono B4.out.size))
  have Q5 := hide (Q4.out.below hb5)
  clear hb5
  cases hq : gateQ 8 2 x y l
  · have HQ := Lib.hid hq
    have HS := Lib.hid (show stepG 0 x y l = [] by rw [stepG, if_neg]; simp [stepQ, hq])
    clear hq
    go_wp2_with fail
    refine (gateValid_b false _ _ _ _ _ HQ.out _).mono ?_
    rintro e w6 ⟨rfl, hb6⟩
    have B6 := hide (B5.out.trans (hb6.mono B5.out.size))
    clear hb6
    go_wp2_with fail
    go_ret
    exact ⟨⟨none, 0, 0, rfl, by rw [HS.out]; exact GR.nil_ _ _⟩, B6.out⟩
  have HQ := Lib.hid hq
  clear hq
  go_wp2_with fail
  refine (gateValid_b true _ _ _ _ _ HQ.out _).mono ?_
  rintro e w6 ⟨rfl, hb6⟩
  have B6 := hide (B5.out.trans (hb6.mono B5.out.size))
  have Q6 := hide (Q5.out.below hb6)
  clear hb6
  have HC := hide (containsGate3_any (some ⟨w3.heap.size, 0, none⟩) 1 1 [(2, x, y, l)] _ Q6.out)
  rw [any_bad] at HC
  cases ha : ([(2, x, y, l)] : List G4).all (gateOk 8)
  · rw [ha] at HC
    have HS := Lib.hid (show stepG 0 x y l = [] by rw [stepG, if_neg]; rw [stepQ, HL.out, ha]; simp)
    clear ha
    go_wp2_with fail
    refine HC.out.mono ?_
    rintro e w7 ⟨rfl, hb7⟩
    have B7 := hide (B6.out.trans (hb7.mono B6.out.size))
    clear hb7
    go_wp2_with fail
    go_ret
    exact ⟨⟨none, 0, 0, rfl, by rw [HS.out]; exact GR.nil_ _ _⟩, B7.out⟩
  · rw [ha] at HC
    have HS := Lib.hid (show stepG 0 x y l = [(2, x, y, l)] by rw [stepG, if_pos, HL.out]; rw [stepQ, HL.out, ha]; rw [HQ.out]; rfl)
    clear ha
    go_wp2_with fail
    refine HC.out.mono ?_
    rintro e w7 ⟨rfl, hb7⟩
    have B7 := hide (B6.out.trans (hb7.mono B6.out.size))
    have Q7 := hide (Q6.out.below hb7)
    clear hb7
    go_wp2_with fail
    go_ret
    exact ⟨⟨_, _, _, rfl, by rw [HS.out]; exact Q7.out⟩, B7.out⟩
set_option maxRecDepth 100000 in
set_option maxHeartbeats 8000000 in
theorem stepGates_1 (x y l : Int) (w : World) : Calls Try.prog 42 #[.agg #[.int .i64 1, .int .i64 x, .int .i64 y], .int .i64 l] w (StepPost 1 x y l w) := by
  have t0 := tf_orNode_andNode
  have t1 := tf_orNode_xorNode
  have t2 := ta_orNode
  have HL : Hid (stepL 1 x y l = [(1, x, l, 0), (1, y, l, 0), (2, x, y, l)]) := rfl
  go_enter Try.func42, Try.ntmps42
  go_wp2_with fail
  refine (node_1 x y _).mono ?_
  rintro e w1 ⟨rfl, hb1⟩
  have B1 := hide ((show Below w.heap.size w ((w.alloc (.cells #[.int .i64 1, .int .i64 x, .int .i64 y] 44)).alloc (.cells #[.int .i64 l] 3)) by go_grown).trans (hb1.mono (by simp; omega)))
  obtain ⟨c0, c1, c2, cl⟩ := step_cells hb1
  have hs1 : w.heap.size + 2 ≤ w1.heap.size := by have := hb1.size; simpa using this
  clear hb1
  go_wp2_with fail
  refine wp_named fun wr hwr => ?_
  have D2 := hide (show Below w1.heap.size w1 wr by rw [← hwr]; go_grown)
  have n0 : wr.cell? ⟨w1.heap.size, 0, none⟩ = some (.int .i64 x) := by rw [← hwr]; exact cell_at rfl rfl
  have n1 : wr.cell? ⟨w1.heap.size, 1, none⟩ = some (.int .i64 y) := by rw [← hwr]; exact cell_at rfl rfl
  have kl := cell_regrown (show wr.cell? ⟨w.heap.size + 1, 0, none⟩ = some (.int .i64 l) from (D2.out.cell (p := ⟨w.heap.size + 1, 0, none⟩) (by show w.heap.size + 1 < _; omega)).trans cl)
  have k0 := cell_regrown n0
  have k1 := cell_regrown n1
  clear hwr n0 n1
  refine wp_region_below_tail 14 (by kernel_rfl) (by kernel_rfl) ?_
  simp only [List.take_succ_cons, List.take_zero, List.drop_succ_cons, List.drop_zero]
  repeat (go_big_quiet_step ((first | (go_at_call 49; with_reducible exact Calls.regrown_of (copyOf_any _ l (w.heap.size + 1) _ (kl _ _))) | (go_at_call 50; with_reducible exact Calls.regrown_of (both_any _ _ l (w.heap.size + 1) _ (kl _ _))))))
  refine wpQuiet_nil ?_
  intro p
  obtain ⟨w3, hw3⟩ : ∃ w3, grow (redrawn wr p.d) p.os = w3 := ⟨_, rfl⟩
  have hb3 : Below wr.heap.size wr w3 := by rw [← hw3]; exact below_regrown wr p.d p.os
  rw [hw3]
  have D3 := hide (D2.out.trans (hb3.mono D2.out.size))
  clear hw3 hb3 kl k0 k1
  have D4 := hide (D3.out.alloc D3.out.size (.cells (gcells [(1, x, l, 0), (1, y, l, 0), (2, x, y, l)]).toArray 60))
  have Q4 := hide (GR.lit w3 [(1, x, l, 0), (1, y, l, 0), (2, x, y, l)] (by simp))
  obtain ⟨w4, hw4⟩ : ∃ w4, (w3.alloc (.cells (gcells [(1, x, l, 0), (1, y, l, 0), (2, x, y, l)]).toArray 60)) = w4 := ⟨_, rfl⟩
  have hw4' : w3.alloc (.cells #[.int .i64 1, .int .i64 x, .int .i64 l, .int .i64 0, .int .i64 1, .int .i64 y, .int .i64 l, .int .i64 0, .int .i64 2, .int .i64 x, .int .i64 y, .int .i64 l] 60) = w4 := hw4
  rw [hw4] at D4 Q4
  have B4 := hide (B1.out.trans (D4.out.mono B1.out.size))
  have e0 : w4.cell? ⟨w.heap.size, 0, none⟩ = some (.int .i64 1) := (D4.out.cell (p := ⟨w.heap.size, 0, none⟩) (by show w.heap.size < _; omega)).trans c0
  have e1 : w4.cell? ⟨w.heap.size, 1, none⟩ = some (.int .i64 x) := (D4.out.cell (p := ⟨w.heap.size, 1, none⟩) (by show w.heap.size < _; omega)).trans c1
  have e2 : w4.cell? ⟨w.heap.size, 2, none⟩ = some (.int .i64 y) := (D4.out.cell (p := ⟨w.heap.size, 2, none⟩) (by show w.heap.size < _; omega)).trans c2
  have el : w4.cell? ⟨w.heap.size + 1, 0, none⟩ = some (.int .i64 l) := (D4.out.cell (p := ⟨w.heap.size + 1, 0, none⟩) (by show w.heap.size + 1 < _; omega)).trans cl
  clear c0 c1 c2 cl
  have HW := Lib.hid hw4'
  clear hw4 hw4'
  go_upto_region 17 with fail
  rw [HW.out]
  go_wp2_with fail
  refine (both_any x y l (w.heap.size + 1) _ el).mono ?_
  rintro e w5 ⟨rfl, hb5⟩
  have B5 := hide (B4.out.trans (hb5.mono B4.out.size))
  have Q5 := hide (Q4.out.below hb5)
  clear hb5
  cases hq : gateQ 8 2 x y l
  · have HQ := Lib.hid hq
    have HS := Lib.hid (show stepG 1 x y l = [] by rw [stepG, if_neg]; simp [stepQ, hq])
    clear hq
    go_wp2_with fail
    refine (gateValid_b false _ _ _ _ _ HQ.out _).mono ?_
    rintro e w6 ⟨rfl, hb6⟩
    have B6 := hide (B5.out.trans (hb6.mono B5.out.size))
    clear hb6
    go_wp2_with fail
    go_ret
    exact ⟨⟨none, 0, 0, rfl, by rw [HS.out]; exact GR.nil_ _ _⟩, B6.out⟩
  have HQ := Lib.hid hq
  clear hq
  go_wp2_with fail
  refine (gateValid_b true _ _ _ _ _ HQ.out _).mono ?_
  rintro e w6 ⟨rfl, hb6⟩
  have B6 := hide (B5.out.trans (hb6.mono B5.out.size))
  have Q6 := hide (Q5.out.below hb6)
  clear hb6
  have HC := hide (containsGate3_any (some ⟨w3.heap.size, 0, none⟩) 3 3 [(1, x, l, 0), (1, y, l, 0), (2, x, y, l)] _ Q6.out)
  rw [any_bad] at HC
  cases ha : ([(1, x, l, 0), (1, y, l, 0), (2, x, y, l)] : List G4).all (gateOk 8)
  · rw [ha] at HC
    have HS := Lib.hid (show stepG 1 x y l = [] by rw [stepG, if_neg]; rw [stepQ, HL.out, ha]; simp)
    clear ha
    go_wp2_with fail
    refine HC.out.mono ?_
    rintro e w7 ⟨rfl, hb7⟩
    have B7 := hide (B6.out.trans (hb7.mono B6.out.size))
    clear hb7
    go_wp2_with fail
    go_ret
    exact ⟨⟨none, 0, 0, rfl, by rw [HS.out]; exact GR.nil_ _ _⟩, B7.out⟩
  · rw [ha] at HC
    have HS := Lib.hid (show stepG 1 x y l = [(1, x, l, 0), (1, y, l, 0), (2, x, y, l)] by rw [stepG, if_pos, HL.out]; rw [stepQ, HL.out, ha]; rw [HQ.out]; rfl)
    clear ha
    go_wp2_with fail
    refine HC.out.mono ?_
    rintro e w7 ⟨rfl, hb7⟩
    have B7 := hide (B6.out.trans (hb7.mono B6.out.size))
    have Q7 := hide (Q6.out.below hb7)
    clear hb7
    go_wp2_with fail
    go_ret
    exact ⟨⟨_, _, _, rfl, by rw [HS.out]; exact Q7.out⟩, B7.out⟩
set_option maxRecDepth 100000 in
set_option maxHeartbeats 8000000 in
theorem stepGates_2 (x y l : Int) (w : World) : Calls Try.prog 42 #[.agg #[.int .i64 2, .int .i64 x, .int .i64 y], .int .i64 l] w (StepPost 2 x y l w) := by
  have t0 := tf_xorNode_andNode
  have t1 := ta_xorNode
  have HL : Hid (stepL 2 x y l = [(1, x, l, 0), (1, y, l, 0)]) := rfl
  go_enter Try.func42, Try.ntmps42
  go_wp2_with fail
  refine (node_2 x y _).mono ?_
  rintro e w1 ⟨rfl, hb1⟩
  have B1 := hide ((show Below w.heap.size w ((w.alloc (.cells #[.int .i64 2, .int .i64 x, .int .i64 y] 44)).alloc (.cells #[.int .i64 l] 3)) by go_grown).trans (hb1.mono (by simp; omega)))
  obtain ⟨c0, c1, c2, cl⟩ := step_cells hb1
  have hs1 : w.heap.size + 2 ≤ w1.heap.size := by have := hb1.size; simpa using this
  clear hb1
  go_wp2_with fail
  refine wp_named fun wr hwr => ?_
  have D2 := hide (show Below w1.heap.size w1 wr by rw [← hwr]; go_grown)
  have n0 : wr.cell? ⟨w1.heap.size, 0, none⟩ = some (.int .i64 x) := by rw [← hwr]; exact cell_at rfl rfl
  have n1 : wr.cell? ⟨w1.heap.size, 1, none⟩ = some (.int .i64 y) := by rw [← hwr]; exact cell_at rfl rfl
  have kl := cell_regrown (show wr.cell? ⟨w.heap.size + 1, 0, none⟩ = some (.int .i64 l) from (D2.out.cell (p := ⟨w.heap.size + 1, 0, none⟩) (by show w.heap.size + 1 < _; omega)).trans cl)
  have k0 := cell_regrown n0
  have k1 := cell_regrown n1
  clear hwr n0 n1
  refine wp_region_below_tail 8 (by kernel_rfl) (by kernel_rfl) ?_
  simp only [List.take_succ_cons, List.take_zero, List.drop_succ_cons, List.drop_zero]
  repeat (go_big_quiet_step ((first | (go_at_call 49; with_reducible exact Calls.regrown_of (copyOf_any _ l (w.heap.size + 1) _ (kl _ _))) | (go_at_call 50; with_reducible exact Calls.regrown_of (both_any _ _ l (w.heap.size + 1) _ (kl _ _))))))
  refine wpQuiet_nil ?_
  intro p
  obtain ⟨w3, hw3⟩ : ∃ w3, grow (redrawn wr p.d) p.os = w3 := ⟨_, rfl⟩
  have hb3 : Below wr.heap.size wr w3 := by rw [← hw3]; exact below_regrown wr p.d p.os
  rw [hw3]
  have D3 := hide (D2.out.trans (hb3.mono D2.out.size))
  clear hw3 hb3 kl k0 k1
  have D4 := hide (D3.out.alloc D3.out.size (.cells (gcells [(1, x, l, 0), (1, y, l, 0)]).toArray 60))
  have Q4 := hide (GR.lit w3 [(1, x, l, 0), (1, y, l, 0)] (by simp))
  obtain ⟨w4, hw4⟩ : ∃ w4, (w3.alloc (.cells (gcells [(1, x, l, 0), (1, y, l, 0)]).toArray 60)) = w4 := ⟨_, rfl⟩
  have hw4' : w3.alloc (.cells #[.int .i64 1, .int .i64 x, .int .i64 l, .int .i64 0, .int .i64 1, .int .i64 y, .int .i64 l, .int .i64 0] 60) = w4 := hw4
  rw [hw4] at D4 Q4
  have B4 := hide (B1.out.trans (D4.out.mono B1.out.size))
  have e0 : w4.cell? ⟨w.heap.size, 0, none⟩ = some (.int .i64 2) := (D4.out.cell (p := ⟨w.heap.size, 0, none⟩) (by show w.heap.size < _; omega)).trans c0
  have e1 : w4.cell? ⟨w.heap.size, 1, none⟩ = some (.int .i64 x) := (D4.out.cell (p := ⟨w.heap.size, 1, none⟩) (by show w.heap.size < _; omega)).trans c1
  have e2 : w4.cell? ⟨w.heap.size, 2, none⟩ = some (.int .i64 y) := (D4.out.cell (p := ⟨w.heap.size, 2, none⟩) (by show w.heap.size < _; omega)).trans c2
  have el : w4.cell? ⟨w.heap.size + 1, 0, none⟩ = some (.int .i64 l) := (D4.out.cell (p := ⟨w.heap.size + 1, 0, none⟩) (by show w.heap.size + 1 < _; omega)).trans cl
  clear c0 c1 c2 cl
  have HW := Lib.hid hw4'
  clear hw4 hw4'
  go_upto_region 17 with fail
  rw [HW.out]
  go_wp2_with fail
  refine (both_any x y l (w.heap.size + 1) _ el).mono ?_
  rintro e w5 ⟨rfl, hb5⟩
  have B5 := hide (B4.out.trans (hb5.mono B4.out.size))
  have Q5 := hide (Q4.out.below hb5)
  clear hb5
  cases hq : gateQ 8 2 x y l
  · have HQ := Lib.hid hq
    have HS := Lib.hid (show stepG 2 x y l = [] by rw [stepG, if_neg]; simp [stepQ, hq])
    clear hq
    go_wp2_with fail
    refine (gateValid_b false _ _ _ _ _ HQ.out _).mono ?_
    rintro e w6 ⟨rfl, hb6⟩
    have B6 := hide (B5.out.trans (hb6.mono B5.out.size))
    clear hb6
    go_wp2_with fail
    go_ret
    exact ⟨⟨none, 0, 0, rfl, by rw [HS.out]; exact GR.nil_ _ _⟩, B6.out⟩
  have HQ := Lib.hid hq
  clear hq
  go_wp2_with fail
  refine (gateValid_b true _ _ _ _ _ HQ.out _).mono ?_
  rintro e w6 ⟨rfl, hb6⟩
  have B6 := hide (B5.out.trans (hb6.mono B5.out.size))
  have Q6 := hide (Q5.out.below hb6)
  clear hb6
  have HC := hide (containsGate3_any (some ⟨w3.heap.size, 0, none⟩) 2 2 [(1, x, l, 0), (1, y, l, 0)] _ Q6.out)
  rw [any_bad] at HC
  cases ha : ([(1, x, l, 0), (1, y, l, 0)] : List G4).all (gateOk 8)
  · rw [ha] at HC
    have HS := Lib.hid (show stepG 2 x y l = [] by rw [stepG, if_neg]; rw [stepQ, HL.out, ha]; simp)
    clear ha
    go_wp2_with fail
    refine HC.out.mono ?_
    rintro e w7 ⟨rfl, hb7⟩
    have B7 := hide (B6.out.trans (hb7.mono B6.out.size))
    clear hb7
    go_wp2_with fail
    go_ret
    exact ⟨⟨none, 0, 0, rfl, by rw [HS.out]; exact GR.nil_ _ _⟩, B7.out⟩
  · rw [ha] at HC
    have HS := Lib.hid (show stepG 2 x y l = [(1, x, l, 0), (1, y, l, 0)] by rw [stepG, if_pos, HL.out]; rw [stepQ, HL.out, ha]; rw [HQ.out]; rfl)
    clear ha
    go_wp2_with fail
    refine HC.out.mono ?_
    rintro e w7 ⟨rfl, hb7⟩
    have B7 := hide (B6.out.trans (hb7.mono B6.out.size))
    have Q7 := hide (Q6.out.below hb7)
    clear hb7
    go_wp2_with fail
    go_ret
    exact ⟨⟨_, _, _, rfl, by rw [HS.out]; exact Q7.out⟩, B7.out⟩
set_option maxRecDepth 100000 in
set_option maxHeartbeats 8000000 in
theorem stepGates_3 (x y l : Int) (w : World) : Calls Try.prog 42 #[.agg #[.int .i64 3, .int .i64 x, .int .i64 y], .int .i64 l] w (StepPost 3 x y l w) := by
  have t0 := tf_notNode_andNode
  have t1 := tf_notNode_xorNode
  have t2 := tf_notNode_orNode
  have t3 := ta_notNode
  have HL : Hid (stepL 3 x y l = [(1, x, l, 0), (0, l, 0, 0)]) := rfl
  go_enter Try.func42, Try.ntmps42
  go_wp2_with fail
  refine (node_3 x y _).mono ?_
  rintro e w1 ⟨rfl, hb1⟩
  have B1 := hide ((show Below w.heap.size w ((w.alloc (.cells #[.int .i64 3, .int .i64 x, .int .i64 y] 44)).alloc (.cells #[.int .i64 l] 3)) by go_grown).trans (hb1.mono (by simp; omega)))
  obtain ⟨c0, c1, c2, cl⟩ := step_cells hb1
  have hs1 : w.heap.size + 2 ≤ w1.heap.size := by have := hb1.size; simpa using this
  clear hb1
  go_wp2_with fail
  refine wp_named fun wr hwr => ?_
  have D2 := hide (show Below w1.heap.size w1 wr by rw [← hwr]; go_grown)
  have n0 : wr.cell? ⟨w1.heap.size, 0, none⟩ = some (.int .i64 x) := by rw [← hwr]; exact cell_at rfl rfl
  have kl := cell_regrown (show wr.cell? ⟨w.heap.size + 1, 0, none⟩ = some (.int .i64 l) from (D2.out.cell (p := ⟨w.heap.size + 1, 0, none⟩) (by show w.heap.size + 1 < _; omega)).trans cl)
  have k0 := cell_regrown n0
  clear hwr n0 
  refine wp_region_below_tail 6 (by kernel_rfl) (by kernel_rfl) ?_
  simp only [List.take_succ_cons, List.take_zero, List.drop_succ_cons, List.drop_zero]
  repeat (go_big_quiet_step ((first | (go_at_call 49; with_reducible exact Calls.regrown_of (copyOf_any _ l (w.heap.size + 1) _ (kl _ _))) | (go_at_call 50; with_reducible exact Calls.regrown_of (both_any _ _ l (w.heap.size + 1) _ (kl _ _))))))
  refine wpQuiet_nil ?_
  intro p
  obtain ⟨w3, hw3⟩ : ∃ w3, grow (redrawn wr p.d) p.os = w3 := ⟨_, rfl⟩
  have hb3 : Below wr.heap.size wr w3 := by rw [← hw3]; exact below_regrown wr p.d p.os
  rw [hw3]
  have D3 := hide (D2.out.trans (hb3.mono D2.out.size))
  clear hw3 hb3 kl k0 
  have D4 := hide (D3.out.alloc D3.out.size (.cells (gcells [(1, x, l, 0), (0, l, 0, 0)]).toArray 60))
  have Q4 := hide (GR.lit w3 [(1, x, l, 0), (0, l, 0, 0)] (by simp))
  obtain ⟨w4, hw4⟩ : ∃ w4, (w3.alloc (.cells (gcells [(1, x, l, 0), (0, l, 0, 0)]).toArray 60)) = w4 := ⟨_, rfl⟩
  have hw4' : w3.alloc (.cells #[.int .i64 1, .int .i64 x, .int .i64 l, .int .i64 0, .int .i64 0, .int .i64 l, .int .i64 0, .int .i64 0] 60) = w4 := hw4
  rw [hw4] at D4 Q4
  have B4 := hide (B1.out.trans (D4.out.mono B1.out.size))
  have e0 : w4.cell? ⟨w.heap.size, 0, none⟩ = some (.int .i64 3) := (D4.out.cell (p := ⟨w.heap.size, 0, none⟩) (by show w.heap.size < _; omega)).trans c0
  have e1 : w4.cell? ⟨w.heap.size, 1, none⟩ = some (.int .i64 x) := (D4.out.cell (p := ⟨w.heap.size, 1, none⟩) (by show w.heap.size < _; omega)).trans c1
  have e2 : w4.cell? ⟨w.heap.size, 2, none⟩ = some (.int .i64 y) := (D4.out.cell (p := ⟨w.heap.size, 2, none⟩) (by show w.heap.size < _; omega)).trans c2
  have el : w4.cell? ⟨w.heap.size + 1, 0, none⟩ = some (.int .i64 l) := (D4.out.cell (p := ⟨w.heap.size + 1, 0, none⟩) (by show w.heap.size + 1 < _; omega)).trans cl
  clear c0 c1 c2 cl
  have HW := Lib.hid hw4'
  clear hw4 hw4'
  go_upto_region 17 with fail
  rw [HW.out]
  have HC := hide (containsGate3_any (some ⟨w3.heap.size, 0, none⟩) 2 2 [(1, x, l, 0), (0, l, 0, 0)] _ Q4.out)
  rw [any_bad] at HC
  cases ha : ([(1, x, l, 0), (0, l, 0, 0)] : List G4).all (gateOk 8)
  · rw [ha] at HC
    have HS := Lib.hid (show stepG 3 x y l = [] by rw [stepG, if_neg]; rw [stepQ, HL.out, ha]; simp)
    clear ha
    go_wp2_with fail
    refine HC.out.mono ?_
    rintro e w7 ⟨rfl, hb7⟩
    have B7 := hide (B4.out.trans (hb7.mono B4.out.size))
    clear hb7
    go_wp2_with fail
    go_ret
    exact ⟨⟨none, 0, 0, rfl, by rw [HS.out]; exact GR.nil_ _ _⟩, B7.out⟩
  · rw [ha] at HC
    have HS := Lib.hid (show stepG 3 x y l = [(1, x, l, 0), (0, l, 0, 0)] by rw [stepG, if_pos, HL.out]; rw [stepQ, HL.out, ha]; rfl)
    clear ha
    go_wp2_with fail
    refine HC.out.mono ?_
    rintro e w7 ⟨rfl, hb7⟩
    have B7 := hide (B4.out.trans (hb7.mono B4.out.size))
    have Q7 := hide (Q4.out.below hb7)
    clear hb7
    go_wp2_with fail
    go_ret
    exact ⟨⟨_, _, _, rfl, by rw [HS.out]; exact Q7.out⟩, B7.out⟩
set_option maxRecDepth 100000 in
set_option maxHeartbeats 8000000 in
theorem stepGates_4 (x y l : Int) (w : World) : Calls Try.prog 42 #[.agg #[.int .i64 4, .int .i64 x, .int .i64 y], .int .i64 l] w (StepPost 4 x y l w) := by
  have t0 := tn_andNode
  have t1 := tn_xorNode
  have t2 := tn_orNode
  have t3 := tn_notNode
  have HL : Hid (stepL 4 x y l = []) := rfl
  go_enter Try.func42, Try.ntmps42
  go_wp2_with fail
  refine (node_4 x y _).mono ?_
  rintro e w1 ⟨rfl, hb1⟩
  have B1 := hide ((show Below w.heap.size w ((w.alloc (.cells #[.int .i64 4, .int .i64 x, .int .i64 y] 44)).alloc (.cells #[.int .i64 l] 3)) by go_grown).trans (hb1.mono (by simp; omega)))
  obtain ⟨c0, c1, c2, cl⟩ := step_cells hb1
  have hs1 : w.heap.size + 2 ≤ w1.heap.size := by have := hb1.size; simpa using this
  clear hb1
  have D3 := hide (Below.refl w1.heap.size w1)
  obtain ⟨w4, hw4', D4, Q4⟩ : ∃ w4, w1 = w4 ∧ Hid (Below w1.heap.size w1 w4) ∧ Hid (GR w4 none 0 []) := ⟨w1, rfl, hide (Below.refl _ _), hide (GR.nil_ _ _)⟩
  have B4 := hide (B1.out.trans (D4.out.mono B1.out.size))
  have e0 : w4.cell? ⟨w.heap.size, 0, none⟩ = some (.int .i64 4) := (D4.out.cell (p := ⟨w.heap.size, 0, none⟩) (by show w.heap.size < _; omega)).trans c0
  have e1 : w4.cell? ⟨w.heap.size, 1, none⟩ = some (.int .i64 x) := (D4.out.cell (p := ⟨w.heap.size, 1, none⟩) (by show w.heap.size < _; omega)).trans c1
  have e2 : w4.cell? ⟨w.heap.size, 2, none⟩ = some (.int .i64 y) := (D4.out.cell (p := ⟨w.heap.size, 2, none⟩) (by show w.heap.size < _; omega)).trans c2
  have el : w4.cell? ⟨w.heap.size + 1, 0, none⟩ = some (.int .i64 l) := (D4.out.cell (p := ⟨w.heap.size + 1, 0, none⟩) (by show w.heap.size + 1 < _; omega)).trans cl
  clear c0 c1 c2 cl
  have HW := Lib.hid hw4'
  clear hw4'
  go_upto_region 17 with fail
  rw [HW.out]
  go_wp2_with fail
  refine (both_any x y l (w.heap.size + 1) _ el).mono ?_
  rintro e w5 ⟨rfl, hb5⟩
  have B5 := hide (B4.out.trans (hb5.mono B4.out.size))
  have Q5 := hide (Q4.out.below hb5)
  clear hb5
  cases hq : gateQ 8 2 x y l
  · have HQ := Lib.hid hq
    have HS := Lib.hid (show stepG 4 x y l = [] by rw [stepG, if_neg]; simp [stepQ, hq])
    clear hq
    go_wp2_with fail
    refine (gateValid_b false _ _ _ _ _ HQ.out _).mono ?_
    rintro e w6 ⟨rfl, hb6⟩
    have B6 := hide (B5.out.trans (hb6.mono B5.out.size))
    clear hb6
    go_wp2_with fail
    go_ret
    exact ⟨⟨none, 0, 0, rfl, by rw [HS.out]; exact GR.nil_ _ _⟩, B6.out⟩
  have HQ := Lib.hid hq
  clear hq
  go_wp2_with fail
  refine (gateValid_b true _ _ _ _ _ HQ.out _).mono ?_
  rintro e w6 ⟨rfl, hb6⟩
  have B6 := hide (B5.out.trans (hb6.mono B5.out.size))
  have Q6 := hide (Q5.out.below hb6)
  clear hb6
  have HC := hide (containsGate3_any none 0 0 [] _ Q6.out)
  rw [any_bad] at HC
  cases ha : ([] : List G4).all (gateOk 8)
  · rw [ha] at HC
    have HS := Lib.hid (show stepG 4 x y l = [] by rw [stepG, if_neg]; rw [stepQ, HL.out, ha]; simp)
    clear ha
    go_wp2_with fail
    refine HC.out.mono ?_
    rintro e w7 ⟨rfl, hb7⟩
    have B7 := hide (B6.out.trans (hb7.mono B6.out.size))
    clear hb7
    go_wp2_with fail
    go_ret
    exact ⟨⟨none, 0, 0, rfl, by rw [HS.out]; exact GR.nil_ _ _⟩, B7.out⟩
  · rw [ha] at HC
    have HS := Lib.hid (show stepG 4 x y l = [] by rw [stepG, if_pos, HL.out]; rw [stepQ, HL.out, ha]; rw [HQ.out]; rfl)
    clear ha
    go_wp2_with fail
    refine HC.out.mono ?_
    rintro e w7 ⟨rfl, hb7⟩
    have B7 := hide (B6.out.trans (hb7.mono B6.out.size))
    have Q7 := hide (Q6.out.below hb7)
    clear hb7
    go_wp2_with fail
    go_ret
    exact ⟨⟨_, _, _, rfl, by rw [HS.out]; exact Q7.out⟩, B7.out⟩
end Go.Proofs.Ytpklpebngholcaa
