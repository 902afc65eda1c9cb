/-
  Which circuits make the same, by the program and by the reference.
  No condition.
-/
import Derived.Test.YtefndlmbidiodaaTab
namespace Go.Proofs.Ytefndlmbidiodaa
open Go.RowKit Go.Sort base
set_option maxHeartbeats 400000 in
theorem equal_any (A B : Option Addr) (n c m d : Nat) (xs ys : List Int) (w : World) (hx : IR w A n xs) (hy : IR w B m ys) :
    Calls Try.prog 45 #[.slice A n c, .slice B m d] w fun e w' => e = .returned (.bool (xs == ys)) ∧ ∃ q, w' = w.drewN q := by
  obtain ⟨hlx, hmx, hax⟩ := hx
  obtain ⟨hly, hmy, hay⟩ := hy
  by_cases hnm : n = m
  · subst hnm
    go_enter Try.func45, Try.ntmps45
    go_wp2
    go_loopw [13] (fun i wr => ∃ k q : Nat, k ≤ n ∧ i = .int .i64 k ∧ (∀ j, j < k → nth xs j = nth ys j) ∧ wr = w.drewN q) (fun i _ => n - (intOf i).toNat)
    case atStart => exact ⟨0, 0, by omega, rfl, fun j hj => absurd hj (by omega), rfl⟩
    case round =>
      obtain ⟨k, q, hk, rfl, heq, rfl⟩ := hrel
      have HE := Lib.hid heq
      clear heq
      by_cases hlt : k < n
      · obtain ⟨b, o, rfl, hbl, hc⟩ := hax (by omega)
        obtain ⟨b', o', rfl, hbl', hc'⟩ := hay (by omega)
        have h1 := hc k hlt
        have h2 := hc' k hlt
        clear hc hc' hax hay
        go_wp2
        go_quiet (fail)
        by_cases he : nth xs k = nth ys k
        · have e1 : (nth xs k == nth ys k) = true := by simpa using he
          have e2 : (nth xs k != nth ys k) = false := by simpa using he
          clear he
          go_wp2
          go_roundw
          case rel =>
            refine ⟨k + 1, _, by omega, by go_num, fun j hj => ?_, rfl⟩
            rcases Nat.lt_or_ge j k with h | h
            · exact HE.out j h
            · obtain rfl : j = k := by omega
              simpa using e1
          case measure => simp [intOf]; omega
        · have e1 : (nth xs k == nth ys k) = false := by simpa using he
          have e2 : (nth xs k != nth ys k) = true := by simpa using he
          have e3 := Lib.hid (ne_of_nth he)
          clear he
          go_wp2
          go_ret
          exact ⟨by rw [e3.out]; rfl, q + nq, by rw [World.drewN_drewN]⟩
      · obtain rfl : k = n := by omega
        have e3 := Lib.hid (eq_of_nth (xs := xs) (ys := ys) (by omega) (by rw [hlx]; exact HE.out))
        go_wp2
        go_ret
        exact ⟨by rw [e3.out]; rfl, _, rfl⟩
  · have e0 : ((n : Int) != (m : Int)) = true := by simp; omega
    have e0' : ((n : Int) == (m : Int)) = false := by simp; omega
    have e1 : (xs == ys) = false := by
      rw [beq_eq_false_iff_ne]; rintro rfl; omega
    have E1 := Lib.hid e1
    clear e1
    go_enter Try.func45, Try.ntmps45
    go_wp2
    go_ret
    exact ⟨by rw [E1.out]; rfl, 0, rfl⟩

def sameQ (l : Int) (a b : List G4) : Bool := circQ l a && circQ l b && (circTab l a == circTab l b)
theorem circTab_len2 {l : Int} {a b : List G4} (ha : circQ l a = true) (hb : circQ l b = true) : (circTab l a).length = (circTab l b).length := by
  rw [circTab_ok ha, circTab_ok hb, tab_len, tab_len]
set_option maxHeartbeats 4000000 in
theorem sSame_any (l : Int) (A B : Option Addr) (n c m d : Nat) (a b : List G4) (w : World) (ha : GR w A n a) (hb : GR w B m b) :
    Calls Try.prog 22 #[.int .i64 l, .slice A n c, .slice B m d] w fun e w' => e = .returned (.bool (sameQ l a b)) ∧ Below w.heap.size w w' := by
  have HA0 := hide ha
  have HB0 := hide hb
  clear ha hb
  go_enter Try.func22, Try.ntmps22
  go_wp2_with fail
  refine (sTab_any l A n c a _ HA0.out).mono ?_
  rintro e w1 ⟨⟨v1, rfl, ho1⟩, hb1⟩
  obtain ⟨X, n1, c1, rfl, r1⟩ := ho1.slice'
  have R1 := hide r1
  have B1 := hide hb1
  clear ho1 hb1 r1
  go_wp2_with fail
  refine (sTab_any l B m d b _ (HB0.out.below B1.out)).mono ?_
  rintro e w2 ⟨⟨v2, rfl, ho2⟩, hb2⟩
  obtain ⟨Y, n2, c2, rfl, r2⟩ := ho2.slice'
  have R2 := hide r2
  have R1' := hide (R1.out.below hb2)
  have B2 := hide (bseq B1.out hb2)
  have L1 := Lib.hid R1.out.len
  have L2 := Lib.hid r2.len
  have m1 : n1 ≤ 256 := by have := circTab_len l a; have := L1.out; omega
  have m2 : n2 ≤ 256 := by have := circTab_len l b; have := L2.out; omega
  clear ho2 hb2 r2 R1
  go_wp2_with fail
  go_loopw [9] (fun iv wr => ∃ j : Nat, j ≤ n1 ∧ j ≤ n2 ∧ iv = .int .i64 j ∧ Hid (∀ i, i < j → nth (circTab l a) i = nth (circTab l b) i) ∧ Hid (∃ q, wr = w2.drewN q)) (fun iv _ => n1 - (intOf iv).toNat)
  case atStart => exact ⟨0, by omega, by omega, rfl, fun i hi => absurd hi (by omega), ⟨0, rfl⟩⟩
  case round =>
    obtain ⟨j, hj1, hj2, rfl, HE, HD⟩ := hrel
    have HX := hide (show IR wr X n1 (circTab l a) by obtain ⟨q, hq⟩ := HD.out; rw [hq]; exact R1'.out.drewN q)
    have HY := hide (show IR wr Y n2 (circTab l b) by obtain ⟨q, hq⟩ := HD.out; rw [hq]; exact R2.out.drewN q)
    have HB := hide (show Below w.heap.size w wr by obtain ⟨q, hq⟩ := HD.out; rw [hq]; exact below_drewN B2.out q)
    by_cases hlt : j < n1 ∧ j < n2
    · obtain ⟨h1, h2⟩ := hlt
      obtain ⟨b1, o1, rfl, _, hc1⟩ := HX.out.at_ (by omega)
      obtain ⟨b2, o2, rfl, _, hc2⟩ := HY.out.at_ (by omega)
      have x1 := hc1 j h1
      have x2 := hc2 j h2
      clear hc1 hc2
      by_cases he : nth (circTab l a) j = nth (circTab l b) j
      · have e2 : (nth (circTab l a) j != nth (circTab l b) j) = false := by simpa using he
        have HE' := Lib.hid he
        clear he
        go_wp2_with fail
        go_quiet (fail)
        go_wp2_with fail
        go_roundw
        case rel =>
          refine ⟨j + 1, by omega, by omega, by go_num, fun i hi => ?_, by obtain ⟨q, hq⟩ := HD.out; exact ⟨q + nq, by rw [hq, World.drewN_drewN]⟩⟩
          rcases Nat.lt_or_ge i j with h | h
          · exact HE.out i h
          · obtain rfl : i = j := by omega
            exact HE'.out
        case measure => simp [intOf]; omega
      · have e2 : (nth (circTab l a) j != nth (circTab l b) j) = true := by simpa using he
        have HQ := Lib.hid (show sameQ l a b = false by rw [sameQ, ne_of_nth he, Bool.and_false])
        clear he
        go_wp2_with fail
        go_quiet (fail)
        go_wp2_with fail
        go_ret
        exact ⟨by rw [HQ.out]; rfl, below_drewN HB.out _⟩
    · cases hq1 : circQ l a
      · have H1 := Lib.hid hq1
        have HQ := Lib.hid (show sameQ l a b = false by simp [sameQ, hq1])
        obtain rfl : n1 = 0 := by have := L1.out; rw [circTab_no hq1] at this; exact this.symm
        clear hq1 hlt
        obtain rfl : j = 0 := by omega
        go_wp2_with fail
        refine (sCircuitValid_b false l A n c a _ (HA0.out.below HB.out) H1.out).mono ?_
        rintro e w3 ⟨rfl, hb3⟩
        have B3 := hide (bseq HB.out hb3)
        clear hb3
        go_wp2_with fail
        go_ret
        exact ⟨by rw [HQ.out]; rfl, B3.out⟩
      · have H1 := Lib.hid hq1
        cases hq2 : circQ l b
        · have H2 := Lib.hid hq2
          have HQ := Lib.hid (show sameQ l a b = false by simp [sameQ, hq2])
          obtain rfl : n2 = 0 := by have := L2.out; rw [circTab_no hq2] at this; exact this.symm
          clear hq1 hq2 hlt
          obtain rfl : j = 0 := by omega
          by_cases h0 : 0 < n1
          all_goals
            go_wp2_with fail
            refine (sCircuitValid_b true l A n c a _ (HA0.out.below HB.out) H1.out).mono ?_
            rintro e w3 ⟨rfl, hb3⟩
            have B3 := hide (bseq HB.out hb3)
            clear hb3
            go_wp2_with fail
            refine (sCircuitValid_b false l B m d b _ (HB0.out.below B3.out) H2.out).mono ?_
            rintro e w4 ⟨rfl, hb4⟩
            have B4 := hide (bseq B3.out hb4)
            clear hb4
            go_wp2_with fail
            go_ret
            exact ⟨by rw [HQ.out]; rfl, B4.out⟩
        · have H2 := Lib.hid hq2
          have hn12 : n1 = n2 := by have := circTab_len2 hq1 hq2; have := L1.out; have := L2.out; omega
          subst hn12
          obtain rfl : j = n1 := by omega
          have HQ := Lib.hid (show sameQ l a b = true by rw [sameQ, hq1, hq2, eq_of_nth (xs := circTab l a) (ys := circTab l b) (by rw [L1.out, L2.out]) (by rw [L1.out]; exact HE.out)]; rfl)
          clear hq1 hq2 hlt
          go_wp2_with fail
          refine (sCircuitValid_b true l A n c a _ (HA0.out.below HB.out) H1.out).mono ?_
          rintro e w3 ⟨rfl, hb3⟩
          have B3 := hide (bseq HB.out hb3)
          clear hb3
          go_wp2_with fail
          refine (sCircuitValid_b true l B m d b _ (HB0.out.below B3.out) H2.out).mono ?_
          rintro e w4 ⟨rfl, hb4⟩
          have B4 := hide (bseq B3.out hb4)
          clear hb4
          go_wp2_with fail
          go_ret
          exact ⟨by rw [HQ.out]; rfl, B4.out⟩
set_option maxHeartbeats 4000000 in
theorem same_any (l : Int) (A B : Option Addr) (n c m d : Nat) (a b : List G4) (w : World) (ha : GR w A n a) (hb : GR w B m b) :
    Calls Try.prog 23 #[.int .i64 l, .slice A n c, .slice B m d] w fun e w' => e = .returned (.bool (sameQ l a b)) ∧ Below w.heap.size w w' := by
  have HA0 := hide ha
  have HB0 := hide hb
  clear ha hb
  cases hq1 : circQ l a
  · have H1 := Lib.hid hq1
    have HQ := Lib.hid (show sameQ l a b = false by simp [sameQ, hq1])
    clear hq1
    go_enter Try.func23, Try.ntmps23
    go_wp2_with fail
    refine (circuitValid_b false l A n c a _ HA0.out H1.out).mono ?_
    rintro e w1 ⟨rfl, hb1⟩
    have B1 := hide hb1
    clear hb1
    go_wp2_with fail
    go_ret
    exact ⟨by rw [HQ.out]; rfl, B1.out⟩
  · have H1 := Lib.hid hq1
    cases hq2 : circQ l b
    · have H2 := Lib.hid hq2
      have HQ := Lib.hid (show sameQ l a b = false by simp [sameQ, hq2])
      clear hq1 hq2
      go_enter Try.func23, Try.ntmps23
      go_wp2_with fail
      refine (circuitValid_b true l A n c a _ HA0.out H1.out).mono ?_
      rintro e w1 ⟨rfl, hb1⟩
      have B1 := hide hb1
      clear hb1
      go_wp2_with fail
      refine (circuitValid_b false l B m d b _ (HB0.out.below B1.out) H2.out).mono ?_
      rintro e w2 ⟨rfl, hb2⟩
      have B2 := hide (bseq B1.out hb2)
      clear hb2
      go_wp2_with fail
      go_ret
      exact ⟨by rw [HQ.out]; rfl, B2.out⟩
    · have H2 := Lib.hid hq2
      have HQ := Lib.hid (show sameQ l a b = (circTab l a == circTab l b) by simp [sameQ, hq1, hq2])
      clear hq1 hq2
      go_enter Try.func23, Try.ntmps23
      go_wp2_with fail
      refine (circuitValid_b true l A n c a _ HA0.out H1.out).mono ?_
      rintro e w1 ⟨rfl, hb1⟩
      have B1 := hide hb1
      clear hb1
      go_wp2_with fail
      refine (circuitValid_b true l B m d b _ (HB0.out.below B1.out) H2.out).mono ?_
      rintro e w2 ⟨rfl, hb2⟩
      have B2 := hide (bseq B1.out hb2)
      clear hb2
      go_wp2_with fail
      refine (tableOf_any l A n c a _ (HA0.out.below B2.out) H1.out).mono ?_
      rintro e w3 ⟨⟨v3, rfl, ho3⟩, hb3⟩
      obtain ⟨X, n1, c1, rfl, r3⟩ := ho3.slice'
      have R3 := hide r3
      have B3 := hide (bseq B2.out hb3)
      clear ho3 hb3 r3
      go_wp2_with fail
      refine (tableOf_any l B m d b _ (HB0.out.below B3.out) H2.out).mono ?_
      rintro e w4 ⟨⟨v4, rfl, ho4⟩, hb4⟩
      obtain ⟨Y, n2, c2, rfl, r4⟩ := ho4.slice'
      have R4 := hide r4
      have R3' := hide (R3.out.below hb4)
      have B4 := hide (bseq B3.out hb4)
      clear ho4 hb4 r4
      go_wp2_with fail
      refine (equal_any _ _ _ _ _ _ (circTab l a) (circTab l b) _ R3'.out R4.out).mono ?_
      rintro e w5 ⟨rfl, q, rfl⟩
      go_wp2_with fail
      go_ret
      exact ⟨by rw [HQ.out]; rfl, below_drewN B4.out _⟩
end Go.Proofs.Ytefndlmbidiodaa
