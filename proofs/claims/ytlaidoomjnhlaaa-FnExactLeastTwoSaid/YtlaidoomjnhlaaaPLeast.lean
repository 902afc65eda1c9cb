/-
  The program's search for the least circuit of two lines: the walk.
  No condition.
-/
import Derived.Deep.RegionWith
import Derived.Deep.DeepCutAuto
import Derived.Deep.LoopGhost
import Derived.Test.YtlaidoomjnhlaaaPState
namespace Go.Proofs.Ytlaidoomjnhlaaa
open Go.RowKit Go.Sort base
set_option maxRecDepth 100000 in
set_option maxHeartbeats 8000000 in
theorem least_any (A : Option Addr) (n c : Nat) (z : List Int) (w : World) (h : IR w A n z) :
    Calls Try.prog 6 #[.slice A n c] w fun e w' => e = .returned (.int .i64 (leastOf z)) ∧ Below w.heap.size w w' := by
  have HA := hide h
  cases hv : tableOk 2 z
  · have HE := Lib.hid (show leastOf z = -1 by simp [leastOf, hv])
    have HV := Lib.hid hv
    clear hv h
    go_enter Try.func6, Try.ntmps6
    go_wp2_with fail
    refine (tableValid_any 2 A n c z _ HA.out).mono ?_
    rintro e w1 ⟨he, hb⟩
    rw [HV.out] at he
    subst he
    have HB := hide hb
    clear hb
    go_wp2_with fail
    go_ret
    exact ⟨by rw [HE.out]; rfl, HB.out⟩
  · obtain ⟨hl, hz, hsm⟩ := table_two hv
    have HE := Lib.hid (show leastOf z = least4 (t4 z) by simp [leastOf, hv])
    have HV := Lib.hid hv
    have HSM := hide hsm
    obtain rfl : n = 4 := by have := h.len; omega
    have HAZ := hide (show IR w A 4 (ints4 (t4 z)) by rw [← hz]; exact h)
    obtain ⟨p, o, rfl, _, _⟩ := h.at_ (by omega)
    generalize t4 z = t at *
    have haa : ∀ W, (Instr.arrayAt 35 (.slice (some ⟨p, o, none⟩) 4 c)).run Try.prog W = .ok (.pointer (some ⟨p, o, none⟩)) W := fun W => run_arrayAt W _ _ _ _ _ _ Try.underlying35 (by omega)
    have hmm := @run_makeMap Try.prog
    clear hv h hz hsm
    go_enter Try.func6, Try.ntmps6
    go_wp2_with fail
    refine (tableValid_any 2 _ 4 c z _ HA.out).mono ?_
    rintro e w0 ⟨he, hb0⟩
    rw [HV.out] at he
    subst he
    have HB0 := hide hb0
    have HA0 := hide (HAZ.out.below hb0)
    clear hb0 HA HV hl HAZ
    go_upto_region 4 with fail
    refine wp_named fun W1 hW1 => ?_
    have HG1 := hide (gates_lit w0 W1 hW1.symm)
    have hb1 : Below w0.heap.size w0 W1 := by rw [← hW1]; exact (Below.refl _ w0).alloc (Nat.le_refl _) _
    have hs1 : W1.heap.size = w0.heap.size + 1 := by rw [← hW1]; simp
    have HS1 := Lib.hid hs1
    have HB1 := hide (bseq HB0.out hb1)
    have hA1 := HA0.out.below hb1
    have hcell : ∀ j, j < 4 → W1.cell? ⟨p, o + j, none⟩ = some (.int .i64 (at4 t j : Int)) := fun j hj => by
      obtain ⟨b', o', e, _, hc⟩ := hA1.at_ (by omega)
      simp only [Option.some.injEq, Addr.mk.injEq, and_true] at e
      obtain ⟨rfl, rfl⟩ := e
      have := hc j hj
      rwa [ints4_nth _ hj] at this
    have a0 := hcell 0 (by omega)
    have a1 := hcell 1 (by omega)
    have a2 := hcell 2 (by omega)
    have a3 := hcell 3 (by omega)
    rw [Nat.add_zero] at a0
    clear hcell hA1 hb1 hs1 hW1 HA0 HB0
    go_upto_region 6 with fail
    refine wp_named fun wM hwM => ?_
    have HGM := hide (show GR wM (some ⟨w0.heap.size, 0, none⟩) 5 gates5 by rw [← hwM]; exact (HG1.out.below ((Below.refl _ W1).alloc (Nat.le_refl _) _)).below ((Below.refl _ _).alloc (Nat.le_refl _) _))
    have HLM := hide (show Arr4 wM W1.heap.size t by rw [← hwM]; exact (Arr4.made W1 t).below ((Below.refl _ _).alloc (Nat.le_refl _) _))
    have HFM := hide (show Arr4 wM (W1.heap.size + 1) (tab4 0) by rw [← hwM, show W1.heap.size + 1 = (W1.alloc (.cells #[.int .i64 (at4 t 0 : Int), .int .i64 (at4 t 1 : Int), .int .i64 (at4 t 2 : Int), .int .i64 (at4 t 3 : Int)] 35)).heap.size by simp]; exact Arr4.made _ (tab4 0))
    have HBM := hide (show Below w.heap.size w wM by rw [← hwM]; exact (HB1.out.alloc HB1.out.size _).alloc (by have := HB1.out.size; simp; omega) _)
    have hsM : wM.heap.size = W1.heap.size + 2 := by rw [← hwM]; simp
    have HSM2 := Lib.hid hsM
    have hsM1 : W1.heap.size + 1 < wM.heap.size := by omega
    have HM0 := hide (World.ownsMap_made wM Try.prog 35 (plainElem (H := Unit) Try.prog 3))
    have f0 : wM.cell? ⟨W1.heap.size + 1, 0, none⟩ = some (.int .i64 0) := HFM.out 0 (by omega)
    have f1 : wM.cell? ⟨W1.heap.size + 1, 1, none⟩ = some (.int .i64 1) := HFM.out 1 (by omega)
    have f2 : wM.cell? ⟨W1.heap.size + 1, 2, none⟩ = some (.int .i64 2) := HFM.out 2 (by omega)
    have f3 : wM.cell? ⟨W1.heap.size + 1, 3, none⟩ = some (.int .i64 3) := HFM.out 3 (by omega)
    clear hwM hsM a0 a1 a2 a3 haa HG1 HB1
    go_upto_region 7 with (refine wpList_insert_own _ rfl _ _ _ 36 rfl 35 3 arr_keyed Try.underlying36 (plainElem (H := Unit) Try.prog 3) wM.heap.size 0 _ rfl HM0.out (by unfold maxLen; omega) _ _ (kl (tab4 0)) rfl rfl (show keyOf Try.prog 35 (arr (tab4 0)) = _ from key_of (tab4_small (by omega))) _ [] (plainElem_int Try.underlying3 (by decide)) ?_; intro w3 hown3 hgrow3)
    have HF3 := hide (show Far w3 wM.heap.size 1 1 from hown3)
    have hg3 : wM.grownBy w3 (some wM.heap.size) := ⟨hgrow3.os, hgrow3.tape, hgrow3.output, by have := hgrow3.size; simp at this; omega, fun x hx hne => (hgrow3.block x (by simp; omega) hne).trans (Below.heap_alloc wM _ x hx)⟩
    have HB3 := hide (show Below wM.heap.size wM w3 from ⟨hgrow3.os, hgrow3.tape, hgrow3.output, hg3.size, fun x hx => hg3.block x hx (by simp; omega)⟩)
    have f0' : w3.cell? ⟨W1.heap.size + 1, 0, none⟩ = some (.int .i64 0) := (HB3.out.cell (p := ⟨W1.heap.size + 1, 0, none⟩) hsM1).trans f0
    have f1' : w3.cell? ⟨W1.heap.size + 1, 1, none⟩ = some (.int .i64 1) := (HB3.out.cell (p := ⟨W1.heap.size + 1, 1, none⟩) hsM1).trans f1
    have f2' : w3.cell? ⟨W1.heap.size + 1, 2, none⟩ = some (.int .i64 2) := (HB3.out.cell (p := ⟨W1.heap.size + 1, 2, none⟩) hsM1).trans f2
    have f3' : w3.cell? ⟨W1.heap.size + 1, 3, none⟩ = some (.int .i64 3) := (HB3.out.cell (p := ⟨W1.heap.size + 1, 3, none⟩) hsM1).trans f3
    have hs3 : wM.heap.size + 1 ≤ w3.heap.size := HF3.out.lt
    have HP3 := hide (show PS wM 1 0 1 (.slice (some ⟨w3.heap.size, 0, none⟩) 1 1) (w3.alloc (.cells #[.int .i64 0, .int .i64 1, .int .i64 2, .int .i64 3] 35)) from
      ⟨HB3.out.alloc (by omega) _, HF3.out.alloc _, ⟨w3.heap.size, 0, 1, 1, _, rfl, rfl, hs3, Go.heap_alloc_new w3 _, Nat.le_refl _, by unfold maxLen; omega, by simp, fun q hq => by
        rcases (show q = 0 ∨ q = 1 ∨ q = 2 ∨ q = 3 by omega) with rfl | rfl | rfl | rfl <;> rfl⟩⟩)
    clear f0 f1 f2 f3 hgrow3 hg3 hown3 HM0 HFM hmm
    go_wp2_with fail
    clear f0' f1' f2' f3'
    go_loopg [7] 24 (fun m v7 wr => ∃ (V : Value) (k L : Nat), V = v7 ∧ k ≤ 24 ∧ Hid (m = 24 - k) ∧ Hid (L = found (5 * k)) ∧ Hid (leastFrom t (24 - k) k = least4 t) ∧ Hid (PS wM L k L V wr))
    case atStart => exact ⟨_, 0, 1, rfl, by omega, Lib.hid rfl, Lib.hid (by decide), Lib.hid rfl, HP3⟩
    case round =>
      clear HP3 HF3 HB3 hs3
      obtain ⟨v7, k, L, rfl, hk, HGK, HL, HF, HP⟩ := hrel
      by_cases hlt : k < 24
      · have hkL : k < L := by
          have := found_more k hlt
          have := HL.out
          omega
        obtain ⟨g7, o7, c7, rfl, hq⟩ := HP.out.que.at_ hkL
        have q0 := hq 0 (by omega)
        have q1 := hq 1 (by omega)
        have q2 := hq 2 (by omega)
        have q3 := hq 3 (by omega)
        rw [Nat.add_zero] at q0
        obtain ⟨N, hN⟩ : ∃ N, L - k = N := ⟨_, rfl⟩
        have hN0 : 0 < N := by omega
        rw [hN] at HP
        have HN := Lib.hid hN
        rw [hN]
        clear hq hN
        go_upto_region 11 with fail
        refine wp_named fun wa hwa => ?_
        have hba : Below wr.heap.size wr wa := by rw [← hwa]; exact (Below.refl _ wr).alloc (Nat.le_refl _) _
        have HPa := hide (HP.out.below hba)
        have HAa := hide (show At wM wr.heap.size (tab4 k) (.slice (some ⟨g7, o7, none⟩) N c7) wa from ⟨by rw [← hwa]; exact Arr4.made wr (tab4 k), HP.out.sz, fun e => by have := (HP.out.que.lt _ e).2; omega⟩)
        obtain ⟨a0, a1, a2, a3⟩ := HAa.out.a.cells
        obtain ⟨l0, l1, l2, l3⟩ := (HLM.out.below HPa.out.b).cells
        generalize wr.heap.size = ab at *
        clear q0 q1 q2 q3 hba hwa HP
        cases hp : decide (tab4 k = t)
        · have hp' : ¬ tab4 k = t := by simpa using hp
          have HF1 := Lib.hid (show leastFrom t (24 - (k + 1)) (k + 1) = least4 t by rw [← least_miss hlt hp']; exact HF.out)
          have heq : ∀ W, (Op.equalIn 10000 35 (.agg #[.int .i64 (at4 (tab4 k) 0 : Int), .int .i64 (at4 (tab4 k) 1 : Int), .int .i64 (at4 (tab4 k) 2 : Int), .int .i64 (at4 (tab4 k) 3 : Int)]) (.agg #[.int .i64 (at4 t 0 : Int), .int .i64 (at4 t 1 : Int), .int .i64 (at4 t 2 : Int), .int .i64 (at4 t 3 : Int)])).run Try.prog W = .ok false W := fun W => by
            have := arr_eq (tab4 k) t (tab4_small hlt) HSM.out W
            rw [hp] at this
            exact this
          clear hp hp' HF
          go_wp2_with fail
          clear heq a0 a1 a2 a3 l0 l1 l2 l3
          go_loopw [7, 50] (fun v7 jv wx => ∃ (V : Value) (j M : Nat), V = v7 ∧ jv = .int .i64 j ∧ j ≤ 5 ∧ Hid (M = found (5 * k + j)) ∧ Hid (PS wM M k M V wx) ∧ Hid (At wM ab (tab4 k) V wx)) (fun _ jv _ => 5 - (intOf jv).toNat)
          case atStart => exact ⟨_, 0, L, rfl, rfl, by omega, HL, HPa, HAa⟩
          case round =>
            clear HPa HAa HL HN hN0 hkL
            obtain ⟨v7, j, M, rfl, rfl, hj, HM, HP, HA⟩ := hrel
            by_cases hlj : j < 5
            · have hkM : k < M := by
                have := found_more5 k hlt j (by omega)
                have := HM.out
                omega
              have hM24 : M ≤ 24 := by
                have := (found_all (5 * k + j) (by omega)).2
                have := HM.out
                omega
              have hjI : decide ((j : Int) < 5) = true := by rw [decide_eq_true_eq]; omega
              obtain ⟨wx, rfl⟩ : ∃ wx, wx = wr := ⟨_, rfl⟩
              obtain ⟨q0, q1, q2, q3⟩ := gr_at (HGM.out.below HP.out.b) hlj
              obtain ⟨a0, a1, a2, a3⟩ := HA.out.a.cells
              have habx : ab < wx.heap.size := HA.out.a.lt
              go_upto_region 16 with fail
              refine wp_named fun wg hwg => ?_
              have hbg : Below wx.heap.size wx wg := by rw [← hwg]; exact (Below.refl _ wx).alloc (Nat.le_refl _) _
              have hsg : wg.heap.size = wx.heap.size + 1 := by rw [← hwg]; simp
              have HGA := hide (show GAt wg wx.heap.size 0 (gth gates5 j) by rw [← hwg]; exact ⟨cell_at rfl rfl, cell_at rfl rfl, cell_at rfl rfl, cell_at rfl rfl⟩)
              have HPg := hide (HP.out.below hbg)
              have HAg := hide (HA.out.below hbg)
              have HSZ := Lib.hid hsg
              have hgx : wx.heap.size < wg.heap.size := by omega
              have HNB := hide (show ¬ wx.heap.size = wM.heap.size from by have := HP.out.sz; omega)
              clear q0 q1 q2 q3 a0 a1 a2 a3 habx hbg hsg hwg HP HA
              generalize wx.heap.size = gx at *
              obtain ⟨a0, a1, a2, a3⟩ := HAg.out.a.cells
              have habg : ab < wg.heap.size := HAg.out.a.lt
              have HN0 := hide (show Nx (wg.alloc (.cells #[.int .i64 (at4 (tab4 k) 0 : Int), .int .i64 (at4 (tab4 k) 1 : Int), .int .i64 (at4 (tab4 k) 2 : Int), .int .i64 (at4 (tab4 k) 3 : Int)] 35)) wg.heap.size j (tab4 k) 0 from Go.heap_alloc_new wg _)
              go_wp2_with fail
              clear a0 a1 a2 a3 habg
              go_loopw [56] (fun iv wy => ∃ (i : Nat), iv = .int .i64 i ∧ i ≤ 4 ∧ Hid (Nx wy wg.heap.size j (tab4 k) i) ∧ Hid (Below wg.heap.size wg wy)) (fun iv _ => 4 - (intOf iv).toNat)
              case atStart => exact ⟨0, rfl, by omega, HN0, hide ((Below.refl _ _).alloc (Nat.le_refl _) _)⟩
              case round =>
                clear HN0
                obtain ⟨i, rfl, hi, HN, HB⟩ := hrel
                by_cases hli : i < 4
                · have hix : ∀ W, (Instr.index 35 (.agg #[.int .i64 (at4 (tab4 k) 0 : Int), .int .i64 (at4 (tab4 k) 1 : Int), .int .i64 (at4 (tab4 k) 2 : Int), .int .i64 (at4 (tab4 k) 3 : Int)]) (.int .i64 (i : Int))).run Try.prog W = .ok (.int .i64 (at4 (tab4 k) i : Int)) W := fun W => run_index4 (tab4 k) hli W
                  have hx4 : at4 (tab4 k) i < 4 := at4_small (tab4_small hlt) i
                  obtain ⟨q0, q1, q2, q3⟩ : GAt wr gx 0 (gth gates5 j) := by
                    obtain ⟨c0, c1, c2, c3⟩ := HGA.out
                    exact ⟨(HB.out.cell (p := ⟨gx, 0, none⟩) hgx).trans c0, (HB.out.cell (p := ⟨gx, 0 + 1, none⟩) hgx).trans c1, (HB.out.cell (p := ⟨gx, 0 + 2, none⟩) hgx).trans c2, (HB.out.cell (p := ⟨gx, 0 + 3, none⟩) hgx).trans c3⟩
                  rw [Nat.zero_add] at q1 q2 q3
                  go_wp2_with fail
                  refine (prun_one hlj hx4 _).mono ?_
                  rintro e w5 ⟨rfl, hb5⟩
                  have HN5 := hide (HN.out.below hb5)
                  have HB5 := hide (HB.out.trans (hb5.mono HB.out.size))
                  have r1 := HN5.out.cell hli
                  have r2 := frozen_of_row w5 wg.heap.size i _ _ HN5.out
                  have HN6 := hide (HN5.out.set hli)
                  have HB6 := hide (HB5.out.setCell (p := ⟨wg.heap.size, i, none⟩) (Nat.le_refl _) (.int .i64 (one4 j (at4 (tab4 k) i) : Int)))
                  clear hb5 HN HB q0 q1 q2 q3
                  go_wp2_with fail
                  go_roundw
                  case rel => exact ⟨i + 1, by go_num, by omega, HN6, HB6⟩
                  case measure => simp [intOf]; omega
                · obtain rfl : i = 4 := by omega
                  have HPw := hide (HPg.out.below HB.out)
                  have HAw := hide (HAg.out.below HB.out)
                  have HNX := hide HN.out.done
                  obtain ⟨n0, n1, n2, n3⟩ := HNX.out.cells
                  have HSM4 := hide (act_small k hlt j hlj)
                  have hnb : wM.heap.size < wg.heap.size := HPg.out.sz
                  have hnr : wg.heap.size < wr.heap.size := HNX.out.lt
                  obtain ⟨cc, hlk⟩ := far_look_ok HPw.out.far HSM4.out
                  have hlk : (Instr.lookup 36 (.map (some wM.heap.size)) (.agg #[.int .i64 (at4 (act j (tab4 k)) 0 : Int), .int .i64 (at4 (act j (tab4 k)) 1 : Int), .int .i64 (at4 (act j (tab4 k)) 2 : Int), .int .i64 (at4 (act j (tab4 k)) 3 : Int)]) true).run Try.prog wr = .ok (.tuple #[.int .i64 cc, .bool (Go.Maps.has (farD M) (kl (act j (tab4 k))))]) wr := hlk
                  clear HN HB HPg HAg HGA hjI
                  cases hq : hasQ (rks M) (rank4 (act j (tab4 k)) : Int)
                  · obtain ⟨e1, e2, e3, e4⟩ := step_new hlt hlj (by rw [← HM.out]; exact hq)
                    rw [← HM.out] at e1 e2 e3 e4
                    have HN1 := Lib.hid e1
                    have HN3 := Lib.hid e3
                    have HN4 := Lib.hid e4
                    have hM23 : M < 24 := e2
                    have hf24 := far_small k hlt
                    have hno : Go.Maps.has (farD M) (kl (act j (tab4 k))) = false := far_has_new HSM4.out M hM24 (fun i hi e => by
                      have := (seen_iff HSM4.out hM24).2 ⟨i, hi, e⟩
                      rw [hq] at this; cases this)
                    rw [hno] at hlk
                    obtain ⟨b0, b1, b2, b3⟩ := HAw.out.a.cells
                    have hl2 : ∀ q, (Instr.lookup 36 (.map (some wM.heap.size)) (.agg #[.int .i64 (at4 (tab4 k) 0 : Int), .int .i64 (at4 (tab4 k) 1 : Int), .int .i64 (at4 (tab4 k) 2 : Int), .int .i64 (at4 (tab4 k) 3 : Int)]) false).run Try.prog (wr.drewN q) = .ok (.int .i64 (far4 k : Int)) (wr.drewN q) := fun q => far_look (w := wr.drewN q) HPw.out.far hM24 hkM
                    clear e1 e2 e3 e4 hq hno
                    go_upto_region 24 with fail
                    clear hlk
                    refine wp_region_drew_tail 6 (by kernel_rfl) (by kernel_rfl) ?_
                    simp only [List.take_succ_cons, List.take_zero, List.drop_succ_cons, List.drop_zero]
                    repeat (go_big_quiet_step ((fail)))
                    refine wpQuiet_nil ?_
                    intro wd hwd
                    have hbd : Below wr.heap.size wr wd := by obtain ⟨q, e⟩ := hwd; rw [e]; exact below_drewN (Below.refl _ _) _
                    have HPd := hide (HPw.out.below hbd)
                    have HAd := hide (HAw.out.below hbd)
                    have HNd := hide (HNX.out.below hbd)
                    clear hwd hbd hl2 n0 n1 n2 n3 b0 b1 b2 b3 HPw HAw HNX
                    go_upto_region 25 with (at_mapUpdate; refine wpList_mapUpdate_own _ rfl _ _ _ 36 rfl 35 3 arr_keyed Try.underlying36 (plainElem (H := Unit) Try.prog 3) wM.heap.size M _ rfl HPd.out.far (by unfold maxLen; omega) _ _ (kl (act j (tab4 k))) rfl rfl (show keyOf Try.prog 35 (arr (act j (tab4 k))) = _ from key_of HSM4.out) (.lit (.int .i64 ((far4 k : Int) + 1))) [] (plainElem_int Try.underlying3 (by simp [Lit.wf, IntKind.min, IntKind.max, IntKind.signed, IntKind.bits]; omega)) ?_; intro w6 hown6 hgrow6; have HF6 := hide (show Far w6 wM.heap.size (M + 1) (M + 1) by rw [Far, farD, HN3.out, show ((far4 M : Nat) : Int) = (far4 k : Int) + 1 by have := HN4.out; omega]; exact hown6); have HP6 := hide (HPd.out.upd HF6.out hgrow6); have HA6 := hide (HAd.out.upd hgrow6); have HN6 := hide (HNd.out.grown hgrow6 (by simp; omega)); clear hown6 hgrow6 HF6)
                    obtain ⟨n0, n1, n2, n3⟩ := HN6.out.cells
                    have hs6 := HP6.out.sz
                    go_wp2_with (at_builtin; refine wpList_append_que (t := act j (tab4 k)) HP6.out.que HN3.out hs6 (.tmp 80) (.tmp 82) (by rfl) rfl rfl rfl (by omega) ?_; intro v9 w9 hq9 hg9 hf9; have HP9 := hide (HP6.out.app hq9 hg9); have HA9 := hide (HA6.out.app hg9 hf9); clear hq9 hg9 hf9)
                    go_roundw
                    case rel => exact ⟨_, j + 1, M + 1, rfl, by go_num, by omega, Lib.hid HN1.out.symm, HP9, HA9⟩
                    case measure => simp [intOf]; omega
                  · have HN1 := Lib.hid (show M = found (5 * k + (j + 1)) by rw [HM.out]; exact (step_old hlt hlj (by rw [← HM.out]; exact hq)).symm)
                    have hyes : Go.Maps.has (farD M) (kl (act j (tab4 k))) = true := far_has_old HSM4.out M hM24 ((seen_iff HSM4.out hM24).1 hq)
                    rw [hyes] at hlk
                    clear hq hyes
                    go_wp2_with fail
                    go_roundw
                    case rel => exact ⟨_, j + 1, M, rfl, by go_num, by omega, HN1, HPw, HAw⟩
                    case measure => simp [intOf]; omega
            · obtain rfl : j = 5 := by omega
              have HM1 := Lib.hid (show M = found (5 * (k + 1)) by rw [HM.out, show 5 * (k + 1) = 5 * k + 5 by omega])
              have hkM : k < M := by
                have := found_more5 k hlt 5 (by omega)
                have := HM.out
                omega
              obtain ⟨v8, hpop, hq8, _⟩ := HP.out.que.pop hkM
              have HP8 := hide (show PS wM M (k + 1) M v8 wr from ⟨HP.out.b, HP.out.far, hq8⟩)
              clear HM HP HA hq8
              go_wp2_with fail
              go_roundg (24 - (k + 1))
              case measure => have := HGK.out; omega
              case rel => exact ⟨_, k + 1, M, rfl, by omega, Lib.hid rfl, HM1, HF1, HP8⟩
        · have hp' : tab4 k = t := by simpa using hp
          have HF1 := Lib.hid (show least4 t = far4 k by rw [← HF.out]; exact least_hit hlt hp')
          have heq : ∀ W, (Op.equalIn 10000 35 (.agg #[.int .i64 (at4 (tab4 k) 0 : Int), .int .i64 (at4 (tab4 k) 1 : Int), .int .i64 (at4 (tab4 k) 2 : Int), .int .i64 (at4 (tab4 k) 3 : Int)]) (.agg #[.int .i64 (at4 t 0 : Int), .int .i64 (at4 t 1 : Int), .int .i64 (at4 t 2 : Int), .int .i64 (at4 t 3 : Int)])).run Try.prog W = .ok true W := fun W => by
            have := arr_eq (tab4 k) t (tab4_small hlt) HSM.out W
            rw [hp] at this
            exact this
          have hlk : (Instr.lookup 36 (.map (some wM.heap.size)) (.agg #[.int .i64 (at4 (tab4 k) 0 : Int), .int .i64 (at4 (tab4 k) 1 : Int), .int .i64 (at4 (tab4 k) 2 : Int), .int .i64 (at4 (tab4 k) 3 : Int)]) false).run Try.prog wa = .ok (.int .i64 (far4 k : Int)) wa := far_look HPa.out.far (by have := (found_all (5 * k) (by omega)).2; have := HL.out; omega) hkL
          have HB4 := hide (HBM.out.trans (HPa.out.b.mono HBM.out.size))
          clear hp hp' HF HPa HAa
          go_wp2_with fail
          go_ret
          exact ⟨by rw [HE.out, HF1.out]; rfl, HB4.out⟩
      · obtain rfl : k = 24 := by omega
        have hL : L = 24 := HL.out
        subst hL
        obtain ⟨g7, o7, N, c7, cur, rfl, hN, _⟩ := HP.out.que
        obtain rfl : N = 0 := by omega
        have HF1 := Lib.hid (show least4 t = -1 from HF.out.symm)
        have HB4 := hide (HBM.out.trans (HP.out.b.mono HBM.out.size))
        clear HP HL HGK hN
        go_wp2_with fail
        go_ret
        exact ⟨by rw [HE.out, HF1.out]; rfl, HB4.out⟩
end Go.Proofs.Ytlaidoomjnhlaaa
