/-
  The reference's search for the least circuit of two lines: the walk.
  No condition.
-/
import Derived.Deep.RegionWith
import Derived.Deep.DeepCutAuto
import Derived.Test.YtlaidoomjnhlaaaSLeast
namespace Go.Proofs.Ytlaidoomjnhlaaa
open Go.RowKit Go.Sort base
set_option maxRecDepth 100000 in
set_option maxHeartbeats 8000000 in
theorem sLeast_any (A : Option Addr) (n c : Nat) (z : List Int) (w : World) (h : IR w A n z) (hcap : n ≤ c) :
    Calls Try.prog 4 #[.slice A n c] w fun e w' => e = .returned (.int .i64 (leastOf z)) ∧ Below w.heap.size w w' := by
  have HA := hide h
  cases hv : tableOk 2 z
  · have HE := Lib.hid (show leastOf z = -1 by simp [leastOf, hv])
    have HV := Lib.hid hv
    clear hv h
    go_enter Try.func4, Try.ntmps4
    go_wp2_with fail
    refine (sTableValid_any 2 A n c z _ HA.out hcap).mono ?_
    rintro e w1 ⟨he, q, hq⟩
    rw [HV.out] at he
    subst he
    have HB := hide (show Below w.heap.size w w1 by rw [hq]; exact below_drewN (Below.refl _ _) q)
    clear hq
    go_wp2_with fail
    go_ret
    exact ⟨by rw [HE.out]; rfl, HB.out⟩
  · obtain ⟨hl, hz, hsm⟩ := table_two hv
    have HE := Lib.hid (show leastOf z = least4 (t4 z) by simp [leastOf, hv])
    have HV := Lib.hid hv
    have HSM := hide hsm
    obtain rfl : n = 4 := by have := h.len; omega
    have HAZ := hide (show IR w A 4 (ints4 (t4 z)) by rw [← hz]; exact h)
    generalize t4 z = t at *
    clear hv h hz hsm
    go_enter Try.func4, Try.ntmps4
    go_wp2_with fail
    refine (sTableValid_any 2 A 4 c z _ HA.out hcap).mono ?_
    rintro e w0 ⟨he, q, hq⟩
    rw [HV.out] at he
    subst he
    have HB0 := hide (show Below w.heap.size w w0 by rw [hq]; exact below_drewN (Below.refl _ _) q)
    clear hq HA HV hl
    go_wp2_with fail
    refine calls_named fun W hW => ?_
    have hBW : Below w0.heap.size w0 W := by rw [← hW]; exact (Below.refl _ w0).alloc (Nat.le_refl _) _
    refine (rank_b (t := tab4 0) (some ⟨w0.heap.size, 0, none⟩) 4 4 W rfl (by rw [← hW]; exact (Own.lit w0 w0.heap.size [0, 1, 2, 3] (Nat.le_refl _) (by decide)).reads) (tab4_small (by omega))).mono ?_
    rintro e w1 ⟨rfl, q, hq⟩
    have HB1 := hide (show Below w.heap.size w w1 by rw [hq]; exact below_drewN (HB0.out.trans (hBW.mono HB0.out.size)) q)
    clear hq hBW hW HB0
    go_wp2_with fail
    go_loopw [3, 4, 5, 6] (fun v3 v4 v5 kv wr => ∃ (V3 V4 V5 : Value) (k L : Nat), V3 = v3 ∧ V4 = v4 ∧ V5 = v5 ∧ kv = .int .i64 k ∧ k ≤ 24 ∧ Hid (L = found (5 * k)) ∧ Hid (leastFrom t (24 - k) k = least4 t) ∧ Hid (St w L L L V3 V4 V5 wr)) (fun _ _ _ kv _ => 24 - (intOf kv).toNat)
    case atStart => exact ⟨_, _, _, 0, 1, rfl, rfl, rfl, rfl, by omega, Lib.hid (by decide), Lib.hid rfl, hide (St.start HB1.out)⟩
    case round =>
      clear HB1
      obtain ⟨v3, v4, v5, k, L, rfl, rfl, rfl, rfl, hk, HL, HF, HS⟩ := hrel
      have hL0 : 0 < L := by
        have := found_all (5 * k) (by omega)
        have := HL.out
        omega
      by_cases hlt : k < 24
      · have hkL : k < L := by
          have := found_more k hlt
          have := HL.out
          omega
        obtain ⟨g4, c4, rfl, hrow⟩ := HS.out.at_ hL0
        obtain ⟨b, cb, r1, hir⟩ := hrow k hkL
        have HI := hide hir
        have HA1 := hide (HAZ.out.below HS.out.b)
        clear hrow hir
        have HD := hide (show Below wr.heap.size wr wr from Below.refl _ _)
        cases hp : decide (tab4 k = t)
        · have hp' : ¬ tab4 k = t := by simpa using hp
          have e1 : ((rank4 (tab4 k) : Int) == (rank4 t : Int)) = false := by
            rw [beq_eq_false_iff_ne]
            intro e
            exact hp' (rank_inj (tab4_small hlt) HSM.out (by omega))
          have HF1 := Lib.hid (show leastFrom t (24 - (k + 1)) (k + 1) = least4 t by rw [← least_miss hlt hp']; exact HF.out)
          clear hp hp' HF
          go_wp2_with fail
          refine (rank_b (t := tab4 k) _ _ _ _ rfl HI.out (tab4_small hlt)).mono ?_
          rintro e w2 ⟨rfl, q2, hq2⟩
          have HB2 := hide (show Below wr.heap.size wr w2 by rw [hq2]; exact below_drewN (Below.refl _ _) _)
          clear hq2
          go_wp2_with fail
          refine (rank_b (t := t) _ _ _ _ rfl (HA1.out.below HB2.out) HSM.out).mono ?_
          rintro e w3 ⟨rfl, q3, hq3⟩
          have HB3 := hide (show Below wr.heap.size wr w3 by rw [hq3]; exact below_drewN HB2.out _)
          clear hq3 HB2
          have HS3 := hide (HS.out.below HB3.out)
          clear HS HB3
          go_wp2_with fail
          refine (two_any _).mono ?_
          rintro e w4 ⟨⟨g, cg, rfl, hgr, hgl⟩, hb4⟩
          have HS4 := hide (HS3.out.below hb4)
          have HG4 := hide (show Gt g v3 (.slice (some ⟨g4, 0, none⟩) L c4) v5 w4 from ⟨hgr, HS3.out.lt hgl⟩)
          clear hgr hgl hb4 HS3 e1 r1 HI HA1 HD
          go_wp2_with fail
          go_loopw [3, 4, 5, 8] (fun u3 u4 u5 jv wx => ∃ (U3 U4 U5 : Value) (j M : Nat), U3 = u3 ∧ U4 = u4 ∧ U5 = u5 ∧ jv = .int .i64 j ∧ j ≤ 5 ∧ Hid (M = found (5 * k + j)) ∧ Hid (St w M M M U3 U4 U5 wx) ∧ Hid (Gt g U3 U4 U5 wx)) (fun _ _ _ jv _ => 5 - (intOf jv).toNat)
          case atStart => exact ⟨_, _, _, 0, L, rfl, rfl, rfl, rfl, by omega, HL, HS4, HG4⟩
          case round =>
            clear HS4 HG4
            obtain ⟨u3, u4, u5, j, M, rfl, rfl, rfl, rfl, hj, HM, HS, HG⟩ := hrel
            by_cases hlj : j < 5
            · have hkM : k < M := by
                have := found_more5 k hlt j (by omega)
                have := HM.out
                omega
              have hM24 : M ≤ 24 := by
                have := (found_all (5 * k + j) (by omega)).2
                have := HM.out
                omega
              obtain ⟨wx, rfl⟩ : ∃ wx, wx = wr := ⟨_, rfl⟩
              obtain ⟨g4', c4', rfl, hrow⟩ := HS.out.at_ (by omega)
              obtain ⟨bk, ck, r1, hik⟩ := hrow k hkM
              have HIK := hide hik
              have hbk : bk < wx.heap.size := by
                obtain ⟨b', o, e, hb, _⟩ := hik.at_ (by omega)
                simp only [Option.some.injEq, Addr.mk.injEq, and_true] at e
                obtain ⟨rfl, rfl⟩ := e
                exact hb
              have hg4' : g4' < wx.heap.size := World.block_lt_of_cell? wx _ r1
              have HR1 := Lib.hid r1
              have hgx := HG.out.size
              clear hrow hik r1
              have hjI : decide ((j : Int) < 5) = true := by rw [decide_eq_true_eq]; omega
              go_wp2_with fail
              go_loopw [9, 10] (fun xv iv wy => ∃ (X : Value) (i : Nat), X = xv ∧ iv = .int .i64 i ∧ i ≤ 4 ∧ Hid (Own wy wx.heap.size X (tab i fun m => (one4 j (at4 (tab4 k) m) : Int))) ∧ Hid (Below wx.heap.size wx wy)) (fun _ iv _ => 4 - (intOf iv).toNat)
              case atStart => exact ⟨_, 0, rfl, rfl, by omega, hide (Own.lit wx wx.heap.size [] (Nat.le_refl _) (by simp)), hide ((Below.refl _ _).alloc (Nat.le_refl _) _)⟩
              case round =>
                obtain ⟨X, i, rfl, rfl, hi, HO, HB⟩ := hrel
                have hsz : wx.heap.size ≤ wr.heap.size := HB.out.size
                by_cases hli : i < 4
                · have r1 : wr.cell? ⟨g4', k, none⟩ = some (.slice (some ⟨bk, 0, none⟩) 4 ck) := (HB.out.cell (p := ⟨g4', k, none⟩) hg4').trans HR1.out
                  have r2 : wr.cell? ⟨bk, i, none⟩ = some (.int .i64 (at4 (tab4 k) i : Int)) := by
                    obtain ⟨b', o, e, _, hc⟩ := HIK.out.at_ (by omega)
                    simp only [Option.some.injEq, Addr.mk.injEq, and_true] at e
                    obtain ⟨rfl, rfl⟩ := e
                    have := hc i hli
                    rw [Nat.zero_add, ints4_nth _ hli] at this
                    exact (HB.out.cell (p := ⟨bk, i, none⟩) hbk).trans this
                  obtain ⟨q0, q1, q2, q3⟩ : GAt wr g (j * 4) (gth gates5 j) := by
                    obtain ⟨b', o, e, _, hc⟩ := (HG.out.below HB.out).1.at_ (by omega)
                    simp only [Option.some.injEq, Addr.mk.injEq, and_true] at e
                    obtain ⟨rfl, rfl⟩ := e
                    have := hc j hlj
                    rwa [Nat.zero_add] at this
                  have hx4 : at4 (tab4 k) i < 4 := at4_small (tab4_small hlt) i
                  go_wp2_with fail
                  refine wp_region_drew_tail1 12 X (by kernel_rfl) (by kernel_rfl) (fun _ _ _ h => h) rfl (.tmp 9) rfl rfl ?_
                  simp only [List.take_succ_cons, List.take_zero, List.drop_succ_cons, List.drop_zero, Act.put, List.setIfInBounds_toArray, List.set_cons_succ, List.set_cons_zero]
                  repeat (go_big_quiet_step ((fail)))
                  refine wpQuiet_nil ?_
                  intro wd hwd
                  obtain ⟨q, hq⟩ := hwd
                  have HBd := hide (show Below wx.heap.size wx wd by rw [hq]; exact below_drewN HB.out q)
                  have HOd := hide (show Own wd wx.heap.size X (tab i fun m => (one4 j (at4 (tab4 k) m) : Int)) by rw [hq]; exact HO.out)
                  clear hq r1 r2 q0 q1 q2 q3 HB HO
                  go_wp2_with fail
                  refine (gateRun_one hlj hx4 _).mono ?_
                  rintro e w5 ⟨rfl, hb5⟩
                  have HO5 := hide (HOd.out.below hb5)
                  have HB5 := hide (HBd.out.trans (hb5.mono HBd.out.size))
                  have hs5 : wx.heap.size ≤ w5.heap.size := HB5.out.size
                  clear hb5 HOd HBd
                  go_wp2_with (at_builtin; refine wpList_append1 (x := (one4 j (at4 (tab4 k) i) : Int)) HO5.out (.tmp 50) (.tmp 63) (by rfl) rfl rfl rfl (by rw [tab_len]; omega) hs5 ?_; intro v9 w9 ho9 hb9 hg9 _; have O9 := hide (show Own w9 wx.heap.size v9 (tab (i + 1) fun m => (one4 j (at4 (tab4 k) m) : Int)) by rw [tab_succ]; exact ho9); have B9 := hide (HB5.out.trans hb9); clear ho9 hb9 hg9)
                  go_roundw
                  case rel => exact ⟨_, i + 1, rfl, by go_num, by omega, O9, B9⟩
                  case measure => simp [intOf]; omega
                · obtain rfl : i = 4 := by omega
                  have HS1 := hide (HS.out.below HB.out)
                  have HG1 := hide (HG.out.below HB.out)
                  have HX := HO.out
                  rw [tab_act] at HX
                  obtain ⟨b9, c9, rfl, hb9, hi9⟩ := HX.at0n (n := 4) (by rfl) (by omega)
                  have HI9 := hide hi9
                  have HN9 := hide (HS.out.lt hb9)
                  obtain ⟨A3, c3, rfl, hr3⟩ := HS1.out.seen.sliceN (rks_len M)
                  have HR3 := hide hr3
                  have hwx := HS.out.b.size
                  clear hi9 hr3 HX HO HS HG HB HR1 HIK hjI
                  cases hq : hasQ (rks M) (rank4 (act j (tab4 k)) : Int)
                  · obtain ⟨n1, n2, n3, n4⟩ := step_new hlt hlj (by rw [← HM.out]; exact hq)
                    rw [← HM.out] at n1 n2 n3 n4
                    have HN1 := Lib.hid n1
                    have HN3 := Lib.hid n3
                    have HN4 := Lib.hid n4
                    have HQ := Lib.hid hq
                    have hf24 := far_small k hlt
                    clear n1 n3 n4 hq
                    go_wp2_with fail
                    refine (rank_b (t := act j (tab4 k)) _ _ _ _ rfl HI9.out (act_small k hlt j hlj)).mono ?_
                    rintro e w2 ⟨rfl, q2, hq2⟩
                    have hb2 : Below wr.heap.size wr w2 := by rw [hq2]; exact below_drewN (Below.refl _ _) _
                    have HS2 := hide (HS1.out.below hb2)
                    have HG2 := hide (HG1.out.below hb2)
                    have HI2 := hide (HI9.out.below hb2)
                    have HR2 := hide (HR3.out.below hb2)
                    clear hb2 hq2 HS1 HG1 HI9 HR3
                    go_wp2_with fail
                    refine (l1Has_b false A3 M c3 (rks M) _ _ HR2.out HQ.out).mono ?_
                    rintro e w3 ⟨rfl, rfl⟩
                    go_wp2_with fail
                    refine (rank_b (t := act j (tab4 k)) _ _ _ _ rfl HI2.out (act_small k hlt j hlj)).mono ?_
                    rintro e w4 ⟨rfl, q4, hq4⟩
                    have hb4 : Below w2.heap.size w2 w4 := by rw [hq4]; exact below_drewN (Below.refl _ _) _
                    have HS4 := hide (HS2.out.below hb4)
                    have HG4 := hide (HG2.out.below hb4)
                    have HI4 := hide (HI2.out.below hb4)
                    have hs4 := HS4.out.b.size
                    clear hb4 hq4 HS2 HG2 HI2 HR2
                    go_upto_region 22 with (at_builtin; refine wpList_append1 (x := (rank4 (act j (tab4 k)) : Int)) HS4.out.seen (.tmp 70) (.tmp 73) (by rfl) rfl rfl rfl (by rw [rks_len]; omega) hs4 ?_; intro v3 w5 ho5 _ hg5 hf5; have HS5 := hide (HS4.out.put3 (by rw [rks_succ, HN3.out]; exact ho5) hg5 hf5); have HG5 := hide (HG4.out.move hg5 hf5 (.same _ _) (.same _ _) (.inr (.inl rfl))); have HI5 := hide (ir_grown HI4.out hg5 (fun x => HN9.out.1 x.symm)); have HF5 := hide (fresh_ne hf5 (ir_lt HI4.out (by omega)) HN9.out.1); clear ho5 hg5 hf5 HS4 HG4 HI4)
                    go_upto_region 23 with (at_builtin; refine wpList_append_tab HS5.out HI5.out HN3.out (Nat.le_trans hwx hb9) HF5.out HN9.out.2.1 HN9.out.2.2 (.tmp 75) (.tmp 77) (by rfl) rfl rfl rfl (by omega) ?_; intro v4 w6 HS6 hg6 hf6; have HG6 := hide (HG5.out.move hg6 (.same _ _) hf6 (.same _ _) (.inr (.inr (.inl rfl)))); clear hg6 hf6 HS5 HG5 HI5)
                    obtain ⟨A5, c5, rfl, hr5⟩ := HS6.out.steps.sliceN (frs_len M)
                    obtain ⟨b5, o5, rfl, hb5, hc5⟩ := hr5.at_ (by omega)
                    have r5 := hc5 k hkM
                    rw [nth_frs hkM] at r5
                    have hs6 := HS6.out.b.size
                    clear hc5 hr5 hb5
                    go_wp2_with (at_builtin; refine wpList_append1 (x := (far4 k : Int) + 1) HS6.out.steps (.tmp 79) (.tmp 85) (by rfl) rfl rfl rfl (by rw [frs_len]; omega) hs6 ?_; intro v5 w7 ho7 _ hg7 hf7; have HS7 := hide (HS6.out.put5 (by rw [frs_succ, show ((far4 M : Nat) : Int) = (far4 k : Int) + 1 by have := HN4.out; omega]; exact ho7) hg7 hf7); have HG7 := hide (HG6.out.move hg7 (.same _ _) (.same _ _) hf7 (.inr (.inr (.inr rfl)))); clear ho7 hg7 hf7 HS6 HG6)
                    go_roundw
                    case rel => exact ⟨_, _, _, j + 1, M + 1, rfl, rfl, rfl, by go_num, by omega, Lib.hid HN1.out.symm, HS7, HG7⟩
                    case measure => simp [intOf]; omega
                  · have HN1 := Lib.hid (show M = found (5 * k + (j + 1)) by rw [HM.out]; exact (step_old hlt hlj (by rw [← HM.out]; exact hq)).symm)
                    have HQ := Lib.hid hq
                    clear hq
                    go_wp2_with fail
                    refine (rank_b (t := act j (tab4 k)) _ _ _ _ rfl HI9.out (act_small k hlt j hlj)).mono ?_
                    rintro e w2 ⟨rfl, q2, hq2⟩
                    have hb2 : Below wr.heap.size wr w2 := by rw [hq2]; exact below_drewN (Below.refl _ _) _
                    have HS2 := hide (HS1.out.below hb2)
                    have HG2 := hide (HG1.out.below hb2)
                    have HR2 := hide (HR3.out.below hb2)
                    clear hb2 hq2 HS1 HG1 HI9 HR3
                    go_wp2_with fail
                    refine (l1Has_b true A3 M c3 (rks M) _ _ HR2.out HQ.out).mono ?_
                    rintro e w3 ⟨rfl, rfl⟩
                    go_wp2_with fail
                    go_roundw
                    case rel => exact ⟨_, _, _, j + 1, M, rfl, rfl, rfl, by go_num, by omega, HN1, HS2, HG2⟩
                    case measure => simp [intOf]; omega
            · obtain rfl : j = 5 := by omega
              have HM1 := Lib.hid (show M = found (5 * (k + 1)) by rw [HM.out, show 5 * (k + 1) = 5 * k + 5 by omega])
              clear HM
              go_wp2_with fail
              go_roundw
              case rel => exact ⟨_, _, _, k + 1, M, rfl, rfl, rfl, by go_num, by omega, HM1, HF1, HS⟩
              case measure => simp [intOf]; omega
        · have hp' : tab4 k = t := by simpa using hp
          have e1 : ((rank4 (tab4 k) : Int) == (rank4 t : Int)) = true := by rw [hp']; simp
          have HF1 := Lib.hid (show least4 t = far4 k by rw [← HF.out]; exact least_hit hlt hp')
          clear hp hp' HF
          obtain ⟨A5, c5, rfl, hr5⟩ := HS.out.steps.sliceN (frs_len L)
          obtain ⟨b5, o5, rfl, hb5, hc5⟩ := hr5.at_ hL0
          have r5 := hc5 k hkL
          rw [nth_frs hkL] at r5
          clear hc5 hr5
          go_wp2_with fail
          refine (rank_b (t := tab4 k) _ _ _ _ rfl HI.out (tab4_small hlt)).mono ?_
          rintro e w2 ⟨rfl, q2, hq2⟩
          have HB2 := hide (show Below wr.heap.size wr w2 by rw [hq2]; exact below_drewN (Below.refl _ _) _)
          clear hq2
          go_wp2_with fail
          refine (rank_b (t := t) _ _ _ _ rfl (HA1.out.below HB2.out) HSM.out).mono ?_
          rintro e w3 ⟨rfl, q3, hq3⟩
          have HB3 := hide (show Below wr.heap.size wr w3 by rw [hq3]; exact below_drewN HB2.out _)
          have r5' : w3.cell? ⟨b5, o5 + k, none⟩ = some (.int .i64 (far4 k : Int)) := (HB3.out.cell (p := ⟨b5, o5 + k, none⟩) hb5).trans r5
          have HB4 := hide (HS.out.b.trans (HB3.out.mono HS.out.b.size))
          clear hq3 HB2 HB3 HS r1 r5
          go_wp2_with fail
          go_ret
          exact ⟨by rw [HE.out, HF1.out]; rfl, HB4.out⟩
      · obtain rfl : k = 24 := by omega
        have hL : L = 24 := HL.out
        subst hL
        obtain ⟨g4, c4, rfl, hrow⟩ := HS.out.at_ hL0
        have HF1 := Lib.hid (show least4 t = -1 from HF.out.symm)
        have HB4 := hide HS.out.b
        clear hrow HS HL
        go_wp2_with fail
        go_ret
        exact ⟨by rw [HE.out, HF1.out]; rfl, HB4.out⟩
end Go.Proofs.Ytlaidoomjnhlaaa
