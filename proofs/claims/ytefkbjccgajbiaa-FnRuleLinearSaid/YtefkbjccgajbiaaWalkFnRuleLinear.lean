/-
  The walk of the law FnRuleLinear: it returns true at every input, and turns nothing that was there.
  No condition.
-/
import Derived.Test.YtefkbjccgajbiaaDrawRings
namespace Go.Proofs.Ytefkbjccgajbiaa
open Go.RowKit Go.Sort base
def linMany (k : Nat) : Int := ((List.range k).filter fun j : Nat => lin (j : Int)).length
theorem linMany_succ (k : Nat) : linMany (k + 1) = linMany k + if lin (k : Int) then 1 else 0 := by
  unfold linMany
  rw [List.range_succ, List.filter_append, List.length_append]
  by_cases h : lin (k : Int) = true <;> simp [h]
theorem linMany_all : linMany 256 = 8 := by unfold linMany; rw [lin_eight]; rfl
theorem linMany_le (k : Nat) : 0 ≤ linMany k ∧ linMany k ≤ k := by
  unfold linMany
  have := List.length_filter_le (fun j : Nat => lin (j : Int)) (List.range k)
  rw [List.length_range] at this
  omega
/-- by a linear rule the sum of two rings goes to the sum of what both go to -/
theorem linear_sum {rule : Int} {a b : List Int} (hl : lin rule = true) (hs : (ringAdd a b).length ≠ 0) : (ruleRing rule (ringAdd a b) == ringAdd (ruleRing rule a) (ruleRing rule b)) = true := by
  have hp : pairQ a b = true := by
    cases h : pairQ a b
    · exact absurd (by simp [ringAdd, h]) hs
    · rfl
  obtain ⟨l1, l2, ta, tb⟩ := pair_bits hp
  simp only [lin, Bool.and_eq_true] at hl
  obtain ⟨hq, hlin⟩ := hl
  have e1 : ringAdd a b = sum2 a b := by simp [ringAdd, hp]
  have q1 := ring_of_bits ta l1 l2
  have q2 := ring_of_bits tb l1 l2
  have q3 := ring_of_bits (sum2_bits (b := b) ta.1) l1 l2
  have q4 := ring_of_bits (ruled_bits (rule := rule) ta.1) l1 l2
  have q5 := ring_of_bits (ruled_bits (rule := rule) tb.1) l1 l2
  rw [e1, beq_iff_eq]
  simp only [ruleRing, hq, q1, q2, q3, Bool.and_self, if_true, ringAdd, pairQ, q4, q5, (ruled_bits (rule := rule) ta.1).1, (ruled_bits (rule := rule) tb.1).1, decide_true]
  exact ruled_sum hlin (by omega) ta tb
set_option maxHeartbeats 4000000 in
theorem walk_FnRuleLinear (A : Option Addr) (n c : Nat) (zs : List Int) (B : Option Addr) (m d : Nat) (ys : List Int) (w : World) (h : IRk .u8 w A n zs) (hz : ∀ z ∈ zs, (Lit.int .u8 z).wf = true) (hc : n ≤ c) (h2 : IRk .u8 w B m ys) (hy : ∀ z ∈ ys, (Lit.int .u8 z).wf = true) (hd : m ≤ d) :
    Calls Try.prog 3 #[.slice A n c, .slice B m d] w fun e w' => e = .returned (.bool true) ∧ Below w.heap.size w w' := by
  have hmax := h.max
  have hmax2 := h2.max
  have H := hide h
  have HZ := hide hz
  have H2 := hide h2
  have HY := hide hy
  clear h hz h2 hy
  by_cases hbig : 1048576 < n
  · go_enter Try.func3, Try.ntmps3
    go_wp2_with fail
    go_ret
    exact ⟨rfl, Below.refl _ _⟩
  by_cases hbig2 : 1048576 < m
  · go_enter Try.func3, Try.ntmps3
    go_wp2_with fail
    go_ret
    exact ⟨rfl, Below.refl _ _⟩
  go_enter Try.func3, Try.ntmps3
  go_wp2_with fail
  refine (drawRuleLinear_any A n c zs _ H.out HZ.out hc).mono ?_
  rintro e w1 ⟨⟨rule, rfl⟩, hb1⟩
  have B1 := hide hb1
  clear hb1
  obtain ⟨ok, hok⟩ : ∃ ok, lin rule = ok := ⟨_, rfl⟩
  have HOK := Lib.hid hok
  clear hok
  go_wp2_with fail
  refine (ruleLin_b ok rule _ HOK.out).mono ?_
  rintro e w2 ⟨rfl, hb2⟩
  have B2 := hide (bseq B1.out hb2)
  clear hb2
  go_wp2_with fail
  refine (sRuleLin_any rule _).mono ?_
  rintro e w' ⟨rfl, rfl⟩
  rw [HOK.out]
  have en : (ok != ok) = false := by simp
  go_wp2_with fail
  go_loopw [7, 8] (fun s i wr => ∃ k : Nat, k ≤ 256 ∧ i = .int .i64 k ∧ s = .int .i64 (linMany k) ∧ Hid (Below w.heap.size w wr)) (fun _ i _ => 256 - (intOf i).toNat)
  case atStart => exact ⟨0, by omega, rfl, rfl, B2.out⟩
  case round =>
    obtain ⟨k, hk, rfl, rfl, HB⟩ := hrel
    by_cases hlt : k < 256
    · obtain ⟨m1, m2⟩ := linMany_le k
      have HM := Lib.hid (linMany_succ k)
      cases hl : lin (k : Int)
      · have HL := Lib.hid hl
        go_wp2_with fail
        refine (ruleLin_b false (k : Int) _ hl).mono ?_
        rintro e w3 ⟨rfl, hb3⟩
        have B3 := hide (bseq HB.out hb3)
        clear hb3
        go_wp2_with fail
        go_roundw
        case rel => exact ⟨k + 1, by omega, by go_num, by rw [HM.out, HL.out]; simp, B3.out⟩
        case measure => simp [intOf]; omega
      · have HL := Lib.hid hl
        go_wp2_with fail
        refine (ruleLin_b true (k : Int) _ hl).mono ?_
        rintro e w3 ⟨rfl, hb3⟩
        have B3 := hide (bseq HB.out hb3)
        clear hb3
        go_wp2_with fail
        go_roundw
        case rel => exact ⟨k + 1, by omega, by go_num, by rw [HM.out, HL.out]; rfl, B3.out⟩
        case measure => simp [intOf]; omega
    · obtain rfl : k = 256 := by omega
      rw [linMany_all]
      go_wp2_with fail
      refine (drawRingAdd_any B m d ys _ (H2.out.below HB.out) HY.out hd).mono ?_
      rintro e w4 ⟨⟨v1, v2, a, b, rfl, o1, o2, _, _⟩, hb4⟩
      have B4 := hide (bseq HB.out hb4)
      obtain ⟨A1, n1, c1, rfl, r1⟩ := o1.slice'
      obtain ⟨A2, n2, c2, rfl, r2⟩ := o2.slice'
      have R1 := hide r1
      have R2 := hide r2
      clear hb4 o1 o2 r1 r2
      go_wp2_with fail
      refine (ringAdd_any A1 A2 n1 c1 n2 c2 a b _ R1.out R2.out).mono ?_
      rintro e w5 ⟨⟨v5, rfl, o5⟩, hb5⟩
      have B5 := hide (bseq B4.out hb5)
      have R15 := hide (R1.out.below hb5)
      have R25 := hide (R2.out.below hb5)
      obtain ⟨A5, c5, rfl, r5⟩ := o5.slice
      have R5 := hide r5
      obtain ⟨L, hL⟩ : ∃ L, L = (ringAdd a b).length := ⟨_, rfl⟩
      rw [← hL] at R5
      rw [← hL]
      have HL := Lib.hid hL
      clear hb5 o5 r5 hL
      cases ok
      · go_wp2_with (go_at_call 15; refine (alive_any _).mono ?_; rintro e w' ⟨rfl, rfl⟩)
        go_ret
        exact ⟨rfl, B5.out⟩
      · by_cases h0 : L = 0
        · subst h0
          go_wp2_with (go_at_call 15; refine (alive_any _).mono ?_; rintro e w' ⟨rfl, rfl⟩)
          go_ret
          exact ⟨rfl, B5.out⟩
        · have e0 : ((L : Int) == 0) = false := by simp; omega
          have HQ := Lib.hid (linear_sum (a := a) (b := b) HOK.out (by rw [← HL.out]; exact h0))
          clear h0
          go_wp2_with fail
          refine (ruleRing_any rule A5 L c5 (ringAdd a b) _ R5.out).mono ?_
          rintro e w6 ⟨⟨v6, rfl, o6⟩, hb6⟩
          have B6 := hide (bseq B5.out hb6)
          have R16 := hide (R15.out.below hb6)
          have R26 := hide (R25.out.below hb6)
          obtain ⟨A6, n6, c6, rfl, r6⟩ := o6.slice'
          have S6 := hide r6
          clear hb6 o6 r6
          go_wp2_with fail
          refine (ruleRing_any rule A1 n1 c1 a _ R16.out).mono ?_
          rintro e w7 ⟨⟨v7, rfl, o7⟩, hb7⟩
          have B7 := hide (bseq B6.out hb7)
          have R27 := hide (R26.out.below hb7)
          have S67 := hide (S6.out.below hb7)
          obtain ⟨A7, n7, c7, rfl, r7⟩ := o7.slice'
          have S7 := hide r7
          clear hb7 o7 r7
          go_wp2_with fail
          refine (ruleRing_any rule A2 n2 c2 b _ R27.out).mono ?_
          rintro e w8 ⟨⟨v8, rfl, o8⟩, hb8⟩
          have B8 := hide (bseq B7.out hb8)
          have S68 := hide (S67.out.below hb8)
          have S78 := hide (S7.out.below hb8)
          obtain ⟨A8, n8, c8, rfl, r8⟩ := o8.slice'
          have S8 := hide r8
          clear hb8 o8 r8
          go_wp2_with fail
          refine (ringAdd_any A7 A8 n7 c7 n8 c8 (ruleRing rule a) (ruleRing rule b) _ S78.out S8.out).mono ?_
          rintro e w9 ⟨⟨v9, rfl, o9⟩, hb9⟩
          have B9 := hide (bseq B8.out hb9)
          have S69 := hide (S68.out.below hb9)
          obtain ⟨A9, n9, c9, rfl, r9⟩ := o9.slice'
          have S9 := hide r9
          clear hb9 o9 r9
          go_wp2_with fail
          refine (sameInts_any A6 A9 n6 c6 n9 c9 _ _ _ S69.out S9.out).mono ?_
          rintro e w10 ⟨rfl, q, hq⟩
          have B10 := hide (show Below w.heap.size w w10 by rw [hq]; exact below_drewN B9.out q)
          clear hq
          rw [HQ.out]
          go_wp2_with (go_at_call 15; refine (alive_any _).mono ?_; rintro e w' ⟨rfl, rfl⟩)
          go_ret
          exact ⟨rfl, B10.out⟩
end Go.Proofs.Ytefkbjccgajbiaa
