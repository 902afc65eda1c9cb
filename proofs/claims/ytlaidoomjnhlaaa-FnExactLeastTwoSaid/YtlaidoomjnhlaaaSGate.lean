/-
  Which gates are valid, by the reference.
  No condition.
-/
import Derived.Test.YtlaidoomjnhlaaaGate
namespace Go.Proofs.Ytlaidoomjnhlaaa
open Go.RowKit Go.Sort base
theorem Own.sliceC {w : World} {base : Nat} {v : Value} {zs : List Int} (h : Own w base v zs) : ∃ A n c, v = .slice A n c ∧ IR w A n zs ∧ n ≤ c := by
  rcases h.form with ⟨rfl, rfl⟩ | ⟨g, c, rfl, _, _, hc, _⟩
  · exact ⟨none, 0, 0, rfl, IR.nil _ _, by omega⟩
  · exact ⟨_, _, c, rfl, h.reads, hc⟩
theorem Box4.drewN {w : World} {g : Nat} {k a b c : Int} (h : Box4 w g k a b c) (q : Nat) : Box4 (w.drewN q) g k a b c := h
def linesQ (k a b c : Int) : List Int := if k = 0 then [a] else if k = 1 then [a, b] else if k = 2 then [a, b, c] else if k = 3 then [a, b] else if k = 4 then [a, b, c] else []
theorem linesQ_no {k : Int} (a b c : Int) (h : kindQ k = false) : linesQ k a b c = [] := by
  simp [kindQ] at h
  unfold linesQ
  rw [if_neg (by omega), if_neg (by omega), if_neg (by omega), if_neg (by omega), if_neg (by omega)]
theorem linesQ_some {k : Int} (a b c : Int) (h : kindQ k = true) : linesQ k a b c = someOf a b c (kLines k) := by
  rcases kind_cases h with rfl | rfl | rfl | rfl | rfl <;> rfl
set_option maxHeartbeats 4000000 in
theorem linesOf_any (k a b c : Int) (w : World) : Calls Try.prog 22 #[.agg #[.int .i64 k, .int .i64 a, .int .i64 b, .int .i64 c]] w (RInts w (linesQ k a b c)) := by
  cases hk : kindQ k
  · have HQ := Lib.hid (linesQ_no a b c hk)
    have k0 : (k == 0) = false := by simp [kindQ] at hk; simp; omega
    have k1 : (k == 1) = false := by simp [kindQ] at hk; simp; omega
    have k2 : (k == 2) = false := by simp [kindQ] at hk; simp; omega
    have k3 : (k == 3) = false := by simp [kindQ] at hk; simp; omega
    have k4 : (k == 4) = false := by simp [kindQ] at hk; simp; omega
    clear hk
    go_enter Try.func22, Try.ntmps22
    go_wp2_with fail
    go_ret
    exact ⟨⟨_, rfl, by rw [HQ.out]; have := Own.lit (w.alloc (.cells #[.int .i64 k, .int .i64 a, .int .i64 b, .int .i64 c] 33)) w.heap.size [] (by simp) (by simp); simpa using this⟩, by go_grown⟩
  · rcases kind_cases hk with rfl | rfl | rfl | rfl | rfl
    · clear hk
      go_enter Try.func22, Try.ntmps22
      go_wp2_with fail
      go_ret
      exact ⟨⟨_, rfl, by rw [show linesQ 0 a b c = [a] from rfl]; have := Own.lit (w.alloc (.cells #[.int .i64 0, .int .i64 a, .int .i64 b, .int .i64 c] 33)) w.heap.size [a] (by simp) (by simp); simpa using this⟩, by go_grown⟩
    · clear hk
      go_enter Try.func22, Try.ntmps22
      go_wp2_with fail
      go_ret
      exact ⟨⟨_, rfl, by rw [show linesQ 1 a b c = [a, b] from rfl]; have := Own.lit (w.alloc (.cells #[.int .i64 1, .int .i64 a, .int .i64 b, .int .i64 c] 33)) w.heap.size [a, b] (by simp) (by simp); simpa using this⟩, by go_grown⟩
    · clear hk
      go_enter Try.func22, Try.ntmps22
      go_wp2_with fail
      go_ret
      exact ⟨⟨_, rfl, by rw [show linesQ 2 a b c = [a, b, c] from rfl]; have := Own.lit (w.alloc (.cells #[.int .i64 2, .int .i64 a, .int .i64 b, .int .i64 c] 33)) w.heap.size [a, b, c] (by simp) (by simp); simpa using this⟩, by go_grown⟩
    · clear hk
      go_enter Try.func22, Try.ntmps22
      go_wp2_with fail
      go_ret
      exact ⟨⟨_, rfl, by rw [show linesQ 3 a b c = [a, b] from rfl]; have := Own.lit (w.alloc (.cells #[.int .i64 3, .int .i64 a, .int .i64 b, .int .i64 c] 33)) w.heap.size [a, b] (by simp) (by simp); simpa using this⟩, by go_grown⟩
    · clear hk
      go_enter Try.func22, Try.ntmps22
      go_wp2_with fail
      go_ret
      exact ⟨⟨_, rfl, by rw [show linesQ 4 a b c = [a, b, c] from rfl]; have := Own.lit (w.alloc (.cells #[.int .i64 4, .int .i64 a, .int .i64 b, .int .i64 c] 33)) w.heap.size [a, b, c] (by simp) (by simp); simpa using this⟩, by go_grown⟩
/-- 's[:k]', the result's length being bounded by the length -/
theorem sTake (A : Option Addr) (n c j : Nat) (L : List Int) (w : World) (h : IR w A n L) (hc : n ≤ c) (hj : j < n) : ∃ b o, A = some ⟨b, o, none⟩ ∧ w.cell? ⟨b, o + j, none⟩ = some (.int .i64 (nth L j)) ∧ ∀ wx, (Instr.slice 22 (.slice A n c) none (some (.int .i64 (j : Int))) none).run Try.prog wx = .ok (.slice (some ⟨b, o, none⟩) j c) wx := by
  obtain ⟨b, o, rfl, hbl, hcc⟩ := h.at_ (by omega)
  exact ⟨b, o, rfl, hcc j hj, fun wx => run_take b o n c j (by omega) wx⟩
/- the loop over the lines: one after the other is looked at -/
set_option maxHeartbeats 8000000 in
theorem sGateValid_in (l k a b c : Int) (hl : lnOk l = true) (w : World) :
    Calls Try.prog 17 #[.int .i64 l, .agg #[.int .i64 k, .int .i64 a, .int .i64 b, .int .i64 c]] w fun e w' => e = .returned (.bool (gateQ l k a b c)) ∧ Below w.heap.size w w' := by
  have HB0 := hide (show Below w.heap.size w (w.alloc (.cells #[.int .i64 k, .int .i64 a, .int .i64 b, .int .i64 c] 33)) by go_grown)
  have HX0 := hide (Box4.made w k a b c 33)
  obtain ⟨hl1, hl2⟩ := lnOk_iff.1 hl
  have HLn := Lib.hid hl
  have HLn' := Lib.hid (show (decide (1 ≤ l) && decide (l ≤ 8)) = true from hl)
  clear hl
  have hX : IntKind.i64.wrap (l - 1) = l - 1 := IntWalk.i64_in _ (by omega)
  have HA := hide (linesOf_any k a b c)
  obtain ⟨L, hL⟩ : ∃ L, linesQ k a b c = L := ⟨_, rfl⟩
  rw [hL] at HA
  have HLL := Lib.hid hL
  clear hL
  have HN := Lib.hid (show goodLs l L = false → gateQ l k a b c = false by
    intro h
    cases hk : kindQ k
    · simp [gateQ, hk]
    · rw [← HLL.out, linesQ_some a b c hk] at h
      simp [gateQ, h])
  have hl3 : L.length ≤ 3 := by rw [← HLL.out]; unfold linesQ; split <;> (try split) <;> (try split) <;> (try split) <;> (try split) <;> simp
  go_enter Try.func17, Try.ntmps17
  go_wp2_with fail
  refine (HA.out _).mono ?_
  rintro e w1 ⟨⟨v, rfl, ho⟩, hb1⟩
  obtain ⟨A, n, cp, rfl, hr, hcp⟩ := ho.sliceC
  have HB1 := hide (HB0.out.trans (hb1.mono HB0.out.size))
  have HX1 := hide (HX0.out.below hb1)
  have HR1 := hide hr
  have hn : L.length = n := hr.len
  have hn3 : n ≤ 3 := by omega
  have HLen := Lib.hid hn
  clear hb1 hr ho hn hl3
  go_wp2_with fail
  go_loopw [6] (fun iv wr => ∃ j : Nat, j ≤ n ∧ iv = .int .i64 j ∧ Hid (∀ i, i < j → goodLn l L i = true) ∧ Hid (∃ q, wr = w1.drewN q)) (fun iv _ => n - (intOf iv).toNat)
  case atStart => exact ⟨0, by omega, rfl, fun i hi => absurd hi (by omega), ⟨0, rfl⟩⟩
  case round =>
    obtain ⟨j, hj, rfl, HG, HD⟩ := hrel
    have HR := hide (show IR wr A n L by obtain ⟨q, hq⟩ := HD.out; rw [hq]; exact HR1.out.drewN q)
    have HX := hide (show Box4 wr w.heap.size k a b c by obtain ⟨q, hq⟩ := HD.out; rw [hq]; exact HX1.out.drewN q)
    have HB := hide (show Below w.heap.size w wr by obtain ⟨q, hq⟩ := HD.out; rw [hq]; exact below_drewN HB1.out q)
    by_cases hlt : j < n
    · obtain ⟨bb, o, rfl, h1, hsl⟩ := sTake A n cp j L wr HR.out hcp hlt
      cases hin : (decide (0 ≤ nth L j) && decide (nth L j ≤ l - 1))
      · have HQ := Lib.hid (HN.out (goodLs_no (k := j) (by rw [HLen.out]; exact hlt) (show goodLn l L j = false by rw [goodLn, inLn, hin]; rfl)))
        have HI := Lib.hid hin
        clear hin
        go_wp2_with fail
        go_quiet (first | (go_at_call 15; exact quiet_eq (l1In_b false _ _ _ HI.out _)))
        go_wp2_with fail
        go_ret
        exact ⟨by rw [HQ.out]; rfl, below_drewN HB.out _⟩
      · have HI := Lib.hid hin
        cases hh : hasQ (L.take j) (nth L j)
        · have HG' := Lib.hid (show goodLn l L j = true by rw [goodLn, inLn, hin, hh]; rfl)
          have HH := Lib.hid hh
          clear hin hh
          go_wp2_with fail
          go_quiet (first | (go_at_call 15; exact quiet_eq (l1In_b true _ _ _ HI.out _)) | (go_at_call 12; exact quiet_eq (l1Has_b false _ j cp (L.take j) _ _ ((HR.out.drewN _).take (by omega)) HH.out)))
          go_wp2_with fail
          go_roundw
          case rel =>
            refine ⟨j + 1, by omega, by go_num, fun i hi => ?_, by obtain ⟨q, hq⟩ := HD.out; exact ⟨q + nq, by rw [hq, World.drewN_drewN]⟩⟩
            rcases Nat.lt_or_ge i j with h | h
            · exact HG.out i h
            · obtain rfl : i = j := by omega
              exact HG'.out
          case measure => simp [intOf]; omega
        · have HQ := Lib.hid (HN.out (goodLs_no (k := j) (by rw [HLen.out]; exact hlt) (show goodLn l L j = false by rw [goodLn, hh]; simp)))
          have HH := Lib.hid hh
          clear hin hh
          go_wp2_with fail
          go_quiet (first | (go_at_call 15; exact quiet_eq (l1In_b true _ _ _ HI.out _)) | (go_at_call 12; exact quiet_eq (l1Has_b true _ j cp (L.take j) _ _ ((HR.out.drewN _).take (by omega)) HH.out)))
          go_wp2_with fail
          go_ret
          exact ⟨by rw [HQ.out]; rfl, below_drewN HB.out _⟩
    · obtain rfl : j = n := by omega
      have HGood := Lib.hid (show goodLs l L = true from goodLs_iff.2 (by rw [HLen.out]; exact HG.out))
      clear hX
      obtain ⟨c0, c1, c2, c3⟩ := HX.out
      cases hk : kindQ k
      · have HQ := Lib.hid (show gateQ l k a b c = false by simp [gateQ, hk])
        obtain rfl : j = 0 := by have := HLen.out; rw [← HLL.out, linesQ_no a b c hk] at this; simpa using this.symm
        clear hk
        go_wp2_with fail
        refine (l1In_b true _ _ _ HLn'.out _).mono ?_
        rintro e w' ⟨rfl, rfl⟩
        go_wp2_with fail
        go_ret
        exact ⟨by rw [HQ.out]; rfl, HB.out⟩
      · rcases kind_cases hk with rfl | rfl | rfl | rfl | rfl
        · obtain rfl : j = 1 := by have := HLen.out; rw [← HLL.out] at this; exact this.symm
          have HQ := Lib.hid (show gateQ l 0 a b c = zeros (someOf a b c (-1 - kLines 0)) by rw [gateQ, HLn.out, hk, show goodLs l (someOf a b c (kLines 0)) = true by have := HGood.out; rwa [← HLL.out] at this]; rfl)
          clear hk
          cases hb : (b == 0)
          · have HZ := Lib.hid (show zeros (someOf a b c (-1 - kLines 0)) = false by show ((b == 0) && ((c == 0) && true)) = false; rw [hb]; rfl)
            go_wp2_with fail
            refine (l1In_b true _ _ _ HLn'.out _).mono ?_
            rintro e w' ⟨rfl, rfl⟩
            go_wp2_with fail
            go_ret
            exact ⟨by rw [HQ.out, HZ.out]; rfl, HB.out⟩
          · cases hc : (c == 0)
            all_goals
              have HZ := Lib.hid (show zeros (someOf a b c (-1 - kLines 0)) = _ by show ((b == 0) && ((c == 0) && true)) = _; rw [hb, hc])
              go_wp2_with fail
              refine (l1In_b true _ _ _ HLn'.out _).mono ?_
              rintro e w' ⟨rfl, rfl⟩
              go_wp2_with fail
              go_ret
              exact ⟨by rw [HQ.out, HZ.out]; rfl, HB.out⟩
        · obtain rfl : j = 2 := by have := HLen.out; rw [← HLL.out] at this; exact this.symm
          have HQ := Lib.hid (show gateQ l 1 a b c = zeros (someOf a b c (-1 - kLines 1)) by rw [gateQ, HLn.out, hk, show goodLs l (someOf a b c (kLines 1)) = true by have := HGood.out; rwa [← HLL.out] at this]; rfl)
          clear hk
          cases hc : (c == 0)
          all_goals
            have HZ := Lib.hid (show zeros (someOf a b c (-1 - kLines 1)) = _ by show ((c == 0) && true) = _; rw [hc])
            go_wp2_with fail
            refine (l1In_b true _ _ _ HLn'.out _).mono ?_
            rintro e w' ⟨rfl, rfl⟩
            go_wp2_with fail
            go_ret
            exact ⟨by rw [HQ.out, HZ.out]; rfl, HB.out⟩
        · obtain rfl : j = 3 := by have := HLen.out; rw [← HLL.out] at this; exact this.symm
          have HQ := Lib.hid (show gateQ l 2 a b c = zeros (someOf a b c (-1 - kLines 2)) by rw [gateQ, HLn.out, hk, show goodLs l (someOf a b c (kLines 2)) = true by have := HGood.out; rwa [← HLL.out] at this]; rfl)
          clear hk
          go_wp2_with fail
          refine (l1In_b true _ _ _ HLn'.out _).mono ?_
          rintro e w' ⟨rfl, rfl⟩
          go_wp2_with fail
          go_ret
          exact ⟨by rw [HQ.out]; rfl, HB.out⟩
        · obtain rfl : j = 2 := by have := HLen.out; rw [← HLL.out] at this; exact this.symm
          have HQ := Lib.hid (show gateQ l 3 a b c = zeros (someOf a b c (-1 - kLines 3)) by rw [gateQ, HLn.out, hk, show goodLs l (someOf a b c (kLines 3)) = true by have := HGood.out; rwa [← HLL.out] at this]; rfl)
          clear hk
          cases hc : (c == 0)
          all_goals
            have HZ := Lib.hid (show zeros (someOf a b c (-1 - kLines 3)) = _ by show ((c == 0) && true) = _; rw [hc])
            go_wp2_with fail
            refine (l1In_b true _ _ _ HLn'.out _).mono ?_
            rintro e w' ⟨rfl, rfl⟩
            go_wp2_with fail
            go_ret
            exact ⟨by rw [HQ.out, HZ.out]; rfl, HB.out⟩
        · obtain rfl : j = 3 := by have := HLen.out; rw [← HLL.out] at this; exact this.symm
          have HQ := Lib.hid (show gateQ l 4 a b c = zeros (someOf a b c (-1 - kLines 4)) by rw [gateQ, HLn.out, hk, show goodLs l (someOf a b c (kLines 4)) = true by have := HGood.out; rwa [← HLL.out] at this]; rfl)
          clear hk
          go_wp2_with fail
          refine (l1In_b true _ _ _ HLn'.out _).mono ?_
          rintro e w' ⟨rfl, rfl⟩
          go_wp2_with fail
          go_ret
          exact ⟨by rw [HQ.out]; rfl, HB.out⟩
set_option maxHeartbeats 8000000 in
theorem sGateValid_out (l k a b c : Int) (hl : lnOk l = false) (w : World) :
    Calls Try.prog 17 #[.int .i64 l, .agg #[.int .i64 k, .int .i64 a, .int .i64 b, .int .i64 c]] w fun e w' => e = .returned (.bool false) ∧ Below w.heap.size w w' := by
  have HB0 := hide (show Below w.heap.size w (w.alloc (.cells #[.int .i64 k, .int .i64 a, .int .i64 b, .int .i64 c] 33)) by go_grown)
  have HLn' := Lib.hid (show (decide (1 ≤ l) && decide (l ≤ 8)) = false from hl)
  clear hl
  obtain ⟨X, hX⟩ : ∃ X, IntKind.i64.wrap (l - 1) = X := ⟨_, rfl⟩
  have HA := hide (linesOf_any k a b c)
  obtain ⟨L, hL⟩ : ∃ L, linesQ k a b c = L := ⟨_, rfl⟩
  rw [hL] at HA
  have hl3 : L.length ≤ 3 := by rw [← hL]; unfold linesQ; split <;> (try split) <;> (try split) <;> (try split) <;> (try split) <;> simp
  clear hL
  go_enter Try.func17, Try.ntmps17
  go_wp2_with fail
  refine (HA.out _).mono ?_
  rintro e w1 ⟨⟨v, rfl, ho⟩, hb1⟩
  obtain ⟨A, n, cp, rfl, hr, hcp⟩ := ho.sliceC
  have HB1 := hide (HB0.out.trans (hb1.mono HB0.out.size))
  have HR1 := hide hr
  have hn : L.length = n := hr.len
  have hn3 : n ≤ 3 := by omega
  have HLen := Lib.hid hn
  clear hb1 hr ho hn hl3
  go_wp2_with fail
  go_loopw [6] (fun iv wr => ∃ j : Nat, j ≤ n ∧ iv = .int .i64 j ∧ Hid (∃ q, wr = w1.drewN q)) (fun iv _ => n - (intOf iv).toNat)
  case atStart => exact ⟨0, by omega, rfl, ⟨0, rfl⟩⟩
  case round =>
    obtain ⟨j, hj, rfl, HD⟩ := hrel
    have HR := hide (show IR wr A n L by obtain ⟨q, hq⟩ := HD.out; rw [hq]; exact HR1.out.drewN q)
    have HB := hide (show Below w.heap.size w wr by obtain ⟨q, hq⟩ := HD.out; rw [hq]; exact below_drewN HB1.out q)
    by_cases hlt : j < n
    · obtain ⟨bb, o, rfl, h1, hsl⟩ := sTake A n cp j L wr HR.out hcp hlt
      cases hin : (decide (0 ≤ nth L j) && decide (nth L j ≤ X))
      · have HI := Lib.hid hin
        clear hin
        go_wp2_with fail
        go_quiet (first | (go_at_call 15; exact quiet_eq (l1In_b false _ _ _ HI.out _)))
        go_wp2_with fail
        go_ret
        exact ⟨rfl, below_drewN HB.out _⟩
      · have HI := Lib.hid hin
        cases hh : hasQ (L.take j) (nth L j)
        · have HH := Lib.hid hh
          clear hin hh
          go_wp2_with fail
          go_quiet (first | (go_at_call 15; exact quiet_eq (l1In_b true _ _ _ HI.out _)) | (go_at_call 12; exact quiet_eq (l1Has_b false _ j cp (L.take j) _ _ ((HR.out.drewN _).take (by omega)) HH.out)))
          go_wp2_with fail
          go_roundw
          case rel => exact ⟨j + 1, by omega, by go_num, by obtain ⟨q, hq⟩ := HD.out; exact ⟨q + nq, by rw [hq, World.drewN_drewN]⟩⟩
          case measure => simp [intOf]; omega
        · have HH := Lib.hid hh
          clear hin hh
          go_wp2_with fail
          go_quiet (first | (go_at_call 15; exact quiet_eq (l1In_b true _ _ _ HI.out _)) | (go_at_call 12; exact quiet_eq (l1Has_b true _ j cp (L.take j) _ _ ((HR.out.drewN _).take (by omega)) HH.out)))
          go_wp2_with fail
          go_ret
          exact ⟨rfl, below_drewN HB.out _⟩
    · obtain rfl : j = n := by omega
      clear hX
      go_wp2_with fail
      refine (l1In_b false _ _ _ HLn'.out _).mono ?_
      rintro e w' ⟨rfl, rfl⟩
      go_wp2_with fail
      go_ret
      exact ⟨rfl, HB.out⟩
theorem sGateValid_any (l k a b c : Int) (w : World) :
    Calls Try.prog 17 #[.int .i64 l, .agg #[.int .i64 k, .int .i64 a, .int .i64 b, .int .i64 c]] w fun e w' => e = .returned (.bool (gateQ l k a b c)) ∧ Below w.heap.size w w' := by
  cases hl : lnOk l
  · rw [show gateQ l k a b c = false by simp [gateQ, hl]]
    exact sGateValid_out l k a b c hl w
  · exact sGateValid_in l k a b c hl w
theorem sGateValid_b (v : Bool) (l k a b c : Int) (h : gateQ l k a b c = v) (w : World) :
    Calls Try.prog 17 #[.int .i64 l, .agg #[.int .i64 k, .int .i64 a, .int .i64 b, .int .i64 c]] w fun e w' => e = .returned (.bool v) ∧ Below w.heap.size w w' := by subst h; exact sGateValid_any l k a b c w
end Go.Proofs.Ytlaidoomjnhlaaa
