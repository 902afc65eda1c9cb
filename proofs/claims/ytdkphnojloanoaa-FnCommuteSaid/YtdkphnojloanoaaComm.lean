/-
  Which gates commute, by the program and by the reference.
  No condition.
-/
import Derived.Test.YtdkphnojloanoaaMoves
namespace Go.Proofs.Ytdkphnojloanoaa
open Go.RowKit Go.Sort base
/-- two gates, at a word -/
def commAt (k : Int) (a b c : Nat) (k' : Int) (a' b' c' : Nat) (x : Nat) : Bool := runG k a b c (runG k' a' b' c' x) == runG k' a' b' c' (runG k a b c x)
def commQ (l k a b c k' a' b' c' : Int) : Bool := gateQ l k a b c && gateQ l k' a' b' c' && (List.range (2 ^ l.toNat)).all (commAt k a.toNat b.toNat c.toNat k' a'.toNat b'.toNat c'.toNat)
theorem commQ_ok {n a b c a' b' c' : Nat} {k k' : Int} (h : gateQ n k a b c = true) (h' : gateQ n k' a' b' c' = true) : commQ n k a b c k' a' b' c' = (List.range (2 ^ n)).all (commAt k a b c k' a' b' c') := by
  simp [commQ, h, h']
theorem all_range_no {n j : Nat} {p : Nat → Bool} (hj : j < n) (h : p j = false) : (List.range n).all p = false := by
  rw [List.all_eq_false]; exact ⟨j, by simpa using hj, by simp [h]⟩
theorem all_range_yes {n : Nat} {p : Nat → Bool} (h : ∀ i, i < n → p i = true) : (List.range n).all p = true := by simpa using h
/-- a cell of a box in a world that has grown -/
theorem Box4.cells {w : World} {g : Nat} {k a b c : Int} (h : Box4 w g k a b c) : ∀ (d : Nat) (os : Array Obj), Box4 (grow (redrawn w d) os) g k a b c := fun d os => h.below (below_regrown w d os)
set_option maxHeartbeats 8000000 in
theorem commute_any (l k a b c k' a' b' c' : Int) (w : World) :
    Calls Try.prog 30 #[.int .i64 l, .agg #[.int .i64 k, .int .i64 a, .int .i64 b, .int .i64 c], .agg #[.int .i64 k', .int .i64 a', .int .i64 b', .int .i64 c']] w fun e w' => e = .returned (.bool (commQ l k a b c k' a' b' c')) ∧ Below w.heap.size w w' := by
  have HB0 := hide (show Below w.heap.size w ((w.alloc (.cells #[.int .i64 k, .int .i64 a, .int .i64 b, .int .i64 c] 33)).alloc (.cells #[.int .i64 k', .int .i64 a', .int .i64 b', .int .i64 c'] 33)) by go_grown)
  have HX0 := hide ((Box4.made w k a b c 33).below ((Below.refl _ (w.alloc (.cells #[.int .i64 k, .int .i64 a, .int .i64 b, .int .i64 c] 33))).alloc (Nat.le_refl _) (.cells #[.int .i64 k', .int .i64 a', .int .i64 b', .int .i64 c'] 33)))
  have HY0 : Hid (Box4 ((w.alloc (.cells #[.int .i64 k, .int .i64 a, .int .i64 b, .int .i64 c] 33)).alloc (.cells #[.int .i64 k', .int .i64 a', .int .i64 b', .int .i64 c'] 33)) (w.heap.size + 1) k' a' b' c') := by
    have := Box4.made (w.alloc (.cells #[.int .i64 k, .int .i64 a, .int .i64 b, .int .i64 c] 33)) k' a' b' c' 33
    rwa [World.size_alloc] at this
  cases hg : gateQ l k a b c
  · have HG := Lib.hid hg
    have HQ := Lib.hid (show commQ l k a b c k' a' b' c' = false by simp [commQ, hg])
    clear hg
    go_enter Try.func30, Try.ntmps30
    go_wp2_with fail
    refine (gateValid_b false _ _ _ _ _ HG.out _).mono ?_
    rintro e w1 ⟨rfl, hb1⟩
    have HB1 := hide (HB0.out.trans (hb1.mono HB0.out.size))
    clear hb1
    go_wp2_with fail
    go_ret
    exact ⟨by rw [HQ.out]; rfl, HB1.out⟩
  · have HG := Lib.hid hg
    cases hg' : gateQ l k' a' b' c'
    · have HG' := Lib.hid hg'
      have HQ := Lib.hid (show commQ l k a b c k' a' b' c' = false by simp [commQ, hg'])
      clear hg hg'
      go_enter Try.func30, Try.ntmps30
      go_wp2_with fail
      refine (gateValid_b true _ _ _ _ _ HG.out _).mono ?_
      rintro e w1 ⟨rfl, hb1⟩
      have HB1 := hide (HB0.out.trans (hb1.mono HB0.out.size))
      obtain ⟨d0, d1, d2, d3⟩ := HY0.out.below hb1
      clear hb1
      go_wp2_with fail
      refine (gateValid_b false _ _ _ _ _ HG'.out _).mono ?_
      rintro e w2 ⟨rfl, hb2⟩
      have HB2 := hide (HB1.out.trans (hb2.mono HB1.out.size))
      clear hb2
      go_wp2_with fail
      go_ret
      exact ⟨by rw [HQ.out]; rfl, HB2.out⟩
    · obtain ⟨n, a, b, c, rfl, rfl, rfl, rfl, hn1, hn8, ha, hb, hc⟩ := natsG hg
      obtain ⟨n', a', b', c', hn', rfl, rfl, rfl, _, _, ha', hb', hc'⟩ := natsG hg'
      obtain rfl : n = n' := by omega
      have HG' := Lib.hid hg'
      have HK := Lib.hid (gateQ_kind hg)
      have HK' := Lib.hid (gateQ_kind hg')
      have HR := Lib.hid (commQ_ok hg hg')
      clear hg hg' hn'
      have HLt : ∀ x, x < 2 ^ n → runG k a b c x < 2 ^ n := fun x hx => runG_lt ha hb hc hx
      have HLt' : ∀ x, x < 2 ^ n → runG k' a' b' c' x < 2 ^ n := fun x hx => runG_lt ha' hb' hc' hx
      have ha7 : a ≤ 7 := by omega
      have hb7 : b ≤ 7 := by omega
      have hc7 : c ≤ 7 := by omega
      have ha7' : a' ≤ 7 := by omega
      have hb7' : b' ≤ 7 := by omega
      have hc7' : c' ≤ 7 := by omega
      have hw := wrap_pow8 hn8
      have hP := pow_le8 hn8
      obtain ⟨P, hPP⟩ : ∃ P : Nat, 2 ^ n = P := ⟨_, rfl⟩
      rw [hPP] at hw hP HR HLt HLt'
      have HLT := hide HLt
      have HLT' := hide HLt'
      clear hPP HLt HLt'
      go_enter Try.func30, Try.ntmps30
      go_wp2_with fail
      refine (gateValid_b true _ _ _ _ _ HG.out _).mono ?_
      rintro e w1 ⟨rfl, hb1⟩
      have HB1 := hide (HB0.out.trans (hb1.mono HB0.out.size))
      have HX1 := hide (HX0.out.below hb1)
      have HY1 := hide (HY0.out.below hb1)
      obtain ⟨d0, d1, d2, d3⟩ := HY1.out
      clear hb1
      go_wp2_with fail
      clear d0 d1 d2 d3
      refine (gateValid_b true _ _ _ _ _ HG'.out _).mono ?_
      rintro e w2 ⟨rfl, hb2⟩
      have HB2 := hide (HB1.out.trans (hb2.mono HB1.out.size))
      have HX2 := hide (HX1.out.below hb2)
      have HY2 := hide (HY1.out.below hb2)
      clear hb2
      go_wp2_with fail
      rw [hw]
      go_loopw [20] (fun iv wr => ∃ j : Nat, j ≤ P ∧ iv = .int .i64 j ∧ Hid (∀ i, i < j → commAt k a b c k' a' b' c' i = true) ∧ Hid (Below w.heap.size w wr) ∧ Hid (Box4 wr w.heap.size k a b c) ∧ Hid (Box4 wr (w.heap.size + 1) k' a' b' c')) (fun iv _ => P - (intOf iv).toNat)
      case atStart => exact ⟨0, by omega, rfl, fun i hi => absurd hi (by omega), HB2.out, HX2.out, HY2.out⟩
      case round =>
        obtain ⟨j, hj, rfl, HE, HB, HX, HY⟩ := hrel
        by_cases hlt : j < P
        · have hr1 := HLT.out j hlt
          have hr2 := HLT'.out j hlt
          have hx1 : j < 256 := by omega
          have hx2 : runG k a b c j < 256 := by omega
          have hx3 : runG k' a' b' c' j < 256 := by omega
          clear hr1 hr2
          obtain ⟨c0, c1, c2, c3⟩ := HX.out
          obtain ⟨d0, d1, d2, d3⟩ := HY.out
          have k0 := cell_regrown c0
          have k1 := cell_regrown c1
          have k2 := cell_regrown c2
          have k3 := cell_regrown c3
          have l0 := cell_regrown d0
          have l1 := cell_regrown d1
          have l2 := cell_regrown d2
          have l3 := cell_regrown d3
          clear c0 c1 c2 c3 d0 d1 d2 d3
          cases hcv : commAt k a b c k' a' b' c' j
          · have HCV := Lib.hid hcv
            have e1 : (((runG k a b c (runG k' a' b' c' j) : Nat) : Int) != ((runG k' a' b' c' (runG k a b c j) : Nat) : Int)) = true := by
              rw [commAt] at hcv; simp at hcv ⊢; omega
            clear hcv
            go_wp2_with fail
            refine wp_region_below (by kernel_rfl) (by kernel_rfl) ?_
            repeat (go_big_quiet_step ((go_at_call 52; exact below_of rfl (fun W => run_any _ _ _ _ _ (by first | exact HK.out | exact HK'.out) (by assumption) (by assumption) (by assumption) (by assumption) W))))
            refine wpQuiet_nil ?_
            intro p
            obtain ⟨w3, hw3⟩ : ∃ w3, grow (redrawn wr p.d) p.os = w3 := ⟨_, rfl⟩
            have hb3 : Below wr.heap.size wr w3 := by rw [← hw3]; exact below_regrown wr p.d p.os
            rw [hw3]
            have HB3 := hide (bseq HB.out hb3)
            have HX3 := hide (HX.out.below hb3)
            have HY3 := hide (HY.out.below hb3)
            clear hw3 hb3 k0 k1 k2 k3 l0 l1 l2 l3
            have HQ := Lib.hid (all_range_no hlt HCV.out)
            go_wp2_with fail
            go_ret
            exact ⟨by rw [HR.out, HQ.out]; rfl, HB3.out⟩
          · have HCV := Lib.hid hcv
            have e1 : (((runG k a b c (runG k' a' b' c' j) : Nat) : Int) != ((runG k' a' b' c' (runG k a b c j) : Nat) : Int)) = false := by
              rw [commAt] at hcv; simp at hcv ⊢; omega
            clear hcv
            go_wp2_with fail
            refine wp_region_below (by kernel_rfl) (by kernel_rfl) ?_
            repeat (go_big_quiet_step ((go_at_call 52; exact below_of rfl (fun W => run_any _ _ _ _ _ (by first | exact HK.out | exact HK'.out) (by assumption) (by assumption) (by assumption) (by assumption) W))))
            refine wpQuiet_nil ?_
            intro p
            obtain ⟨w3, hw3⟩ : ∃ w3, grow (redrawn wr p.d) p.os = w3 := ⟨_, rfl⟩
            have hb3 : Below wr.heap.size wr w3 := by rw [← hw3]; exact below_regrown wr p.d p.os
            rw [hw3]
            have HB3 := hide (bseq HB.out hb3)
            have HX3 := hide (HX.out.below hb3)
            have HY3 := hide (HY.out.below hb3)
            clear hw3 hb3 k0 k1 k2 k3 l0 l1 l2 l3
            go_wp2_with fail
            go_roundw
            case rel =>
              refine ⟨j + 1, by omega, by go_num, fun i hi => ?_, HB3.out, HX3.out, HY3.out⟩
              rcases Nat.lt_or_ge i j with h | h
              · exact HE.out i h
              · obtain rfl : i = j := by omega
                exact HCV.out
            case measure => simp [intOf]; omega
        · obtain rfl : j = P := by omega
          have HA := Lib.hid (all_range_yes HE.out)
          go_wp2_with fail
          go_ret
          exact ⟨by rw [HR.out, HA.out]; rfl, HB.out⟩
end Go.Proofs.Ytdkphnojloanoaa
