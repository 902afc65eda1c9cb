/-
  The draws of rules and rings, whole: numbers, and lists of at most 13 numbers in memory of the call's own.
  No condition.
-/
import Derived.Test.YtefkbjccgajbiaaDrawRing
namespace Go.Proofs.Ytefkbjccgajbiaa
open Go.RowKit Go.Sort base
theorem below_of_drawn {w w1 w2 : World} {R : Nat} (hb : Below w.heap.size w w1) (hg : w1.grownBy w2 (some R)) (hR : w.heap.size ≤ R) : Below w.heap.size w w2 :=
  hb.grown hg hb.size (fun k hk => by cases hk; exact hR)
set_option maxHeartbeats 400000 in
theorem drawRuleLinear_any (A : Option Addr) (n c : Nat) (zs : List Int) (w : World) (h : IRk .u8 w A n zs) (hz : ∀ z ∈ zs, (Lit.int .u8 z).wf = true) (hc : n ≤ c) :
    Calls Try.prog 8 #[.slice A n c] w fun e w' => (∃ x : Int, e = .returned (.int .i64 x)) ∧ Below w.heap.size w w' := by
  have H := hide h
  have HZ := hide hz
  clear h hz
  go_enter Try.func8, Try.ntmps8
  go_wp2_with fail
  refine (open_b A n c zs _ H.out HZ.out hc).mono ?_
  rintro e w1 ⟨R, rfl, hR, hr, hb⟩
  have H1 := hide hr
  have B1 := hide hb
  clear hr hb
  go_wp2_with fail
  refine (l20Rule_any R 0 _ H1.out (by omega)).mono ?_
  rintro e w2 ⟨x, rfl, hr, hg⟩
  have B2 := hide (below_of_drawn B1.out hg hR)
  clear hr hg
  go_wp2_with fail
  go_ret
  exact ⟨⟨_, rfl⟩, B2.out⟩
set_option maxHeartbeats 400000 in
theorem drawRingAdd_any (A : Option Addr) (n c : Nat) (zs : List Int) (w : World) (h : IRk .u8 w A n zs) (hz : ∀ z ∈ zs, (Lit.int .u8 z).wf = true) (hc : n ≤ c) :
    Calls Try.prog 11 #[.slice A n c] w fun e w' => (∃ (v1 v2 : Value) (a b : List Int), e = .returned (.tuple #[v1, v2]) ∧ Own w' w.heap.size v1 a ∧ Own w' w.heap.size v2 b ∧ a.length ≤ 13 ∧ b.length ≤ 13) ∧ Below w.heap.size w w' := by
  have H := hide h
  have HZ := hide hz
  clear h hz
  go_enter Try.func11, Try.ntmps11
  go_wp2_with fail
  refine (open_b A n c zs _ H.out HZ.out hc).mono ?_
  rintro e w1 ⟨R, rfl, hR, hr, hb⟩
  have H1 := hide hr
  have B1 := hide hb
  have hs1 := hb.size
  clear hr hb
  go_wp2_with fail
  refine (l20Rings_any R 0 _ H1.out (by omega)).mono ?_
  rintro e w2 ⟨x, v1, v2, a, b, rfl, o1, o2, l1, l2, hr, hg⟩
  have B2 := hide (below_of_drawn B1.out hg hR)
  have O1 := hide (o1.base_le hs1)
  have O2 := hide (o2.base_le hs1)
  clear hr hg o1 o2
  go_wp2_with fail
  go_ret2
  exact ⟨⟨_, _, _, _, rfl, O1.out, O2.out, l1, l2⟩, B2.out⟩
set_option maxHeartbeats 400000 in
theorem drawRuleRing_any (A : Option Addr) (n c : Nat) (zs : List Int) (w : World) (h : IRk .u8 w A n zs) (hz : ∀ z ∈ zs, (Lit.int .u8 z).wf = true) (hc : n ≤ c) :
    Calls Try.prog 22 #[.slice A n c] w fun e w' => (∃ (x : Int) (v1 : Value) (a : List Int), e = .returned (.tuple #[.int .i64 x, v1]) ∧ Own w' w.heap.size v1 a ∧ a.length ≤ 13) ∧ Below w.heap.size w w' := by
  have H := hide h
  have HZ := hide hz
  clear h hz
  go_enter Try.func22, Try.ntmps22
  go_wp2_with fail
  refine (open_b A n c zs _ H.out HZ.out hc).mono ?_
  rintro e w1 ⟨R, rfl, hR, hr, hb⟩
  have H1 := hide hr
  have B1 := hide hb
  have hs1 := hb.size
  clear hr hb
  go_wp2_with fail
  refine (l20Rule_any R 0 _ H1.out (by omega)).mono ?_
  rintro e w2 ⟨x, rfl, hr, hg⟩
  have H2 := hide hr
  have B2 := hide (below_of_drawn B1.out hg hR)
  clear hr hg
  go_wp2_with fail
  refine (l20Long_any R _ _ H2.out (by omega)).mono ?_
  rintro e w3 ⟨m, rfl, m1, m2, hr, hg⟩
  have H3 := hide hr
  have B3 := hide (below_of_drawn B2.out hg hR)
  clear hr hg
  go_wp2_with fail
  refine (l20Ring_any R _ m 9 _ H3.out (by omega) m2 (by omega)).mono ?_
  rintro e w4 ⟨v, a, rfl, ho, hl, hr, hg⟩
  have B4 := hide (below_of_drawn B3.out hg hR)
  have O4 := hide (ho.base_le B3.out.size)
  clear hr hg ho
  go_wp2_with fail
  go_ret2
  exact ⟨⟨_, _, _, rfl, O4.out, hl⟩, B4.out⟩
set_option maxHeartbeats 1000000 in
theorem drawRingRun_any (A : Option Addr) (n c : Nat) (zs : List Int) (w : World) (h : IRk .u8 w A n zs) (hz : ∀ z ∈ zs, (Lit.int .u8 z).wf = true) (hc : n ≤ c) :
    Calls Try.prog 28 #[.slice A n c] w fun e w' => (∃ (x s : Int) (v1 v2 : Value) (a b : List Int), e = .returned (.tuple #[.int .i64 x, v1, v2, .int .i64 s]) ∧ Own w' w.heap.size v1 a ∧ Own w' w.heap.size v2 b ∧ a.length ≤ 13 ∧ b.length ≤ 13 ∧ -1000 ≤ s ∧ s ≤ 1000) ∧ Below w.heap.size w w' := by
  have H := hide h
  have HZ := hide hz
  clear h hz
  go_enter Try.func28, Try.ntmps28
  go_wp2_with fail
  refine (open_b A n c zs _ H.out HZ.out hc).mono ?_
  rintro e w1 ⟨R, rfl, hR, hr, hb⟩
  have H1 := hide hr
  have B1 := hide hb
  have hs1 := hb.size
  clear hr hb
  go_wp2_with fail
  refine (l20Rings_any R 0 _ H1.out (by omega)).mono ?_
  rintro e w2 ⟨x, v1, v2, a, b, rfl, o1, o2, l1, l2, hr, hg⟩
  have hR2 : R < w1.heap.size := H1.out.lt
  have H2 := hide hr
  have B2 := hide (below_of_drawn B1.out hg hR)
  have O1 := hide o1
  have O2 := hide o2
  clear hr hg o1 o2
  go_wp2_with fail
  refine (pick_b R _ 60 _ H2.out (by omega) (by omega)).mono ?_
  rintro e w3 ⟨r3, rfl, a3, b3, _, hr, hg⟩
  have H3 := hide hr
  have B3 := hide (below_of_drawn B2.out hg hR)
  have P1 := hide (O1.out.kept hg (own_ne O1.out hR2))
  have P2 := hide (O2.out.kept hg (own_ne O2.out hR2))
  have b3' := b3 (by omega)
  clear hr hg b3
  go_wp2_with fail
  refine (pick_b R _ 30 _ H3.out (by omega) (by omega)).mono ?_
  rintro e w4 ⟨r4, rfl, a4, b4, _, hr, hg⟩
  have B4 := hide (below_of_drawn B3.out hg hR)
  have Q1 := hide ((P1.out.kept hg (own_ne P1.out hR2)).base_le hs1)
  have Q2 := hide ((P2.out.kept hg (own_ne P2.out hR2)).base_le hs1)
  have b4' := b4 (by omega)
  clear hr hg b4
  go_wp2_with fail
  refine bodyPost_ret (v := .tuple #[.int .i64 x, v1, v2, .int .i64 (r3 - 30 + r4 / 29 * 120)]) (by simp [results, Try.results28, go_sem]) rfl ⟨⟨_, _, _, _, _, _, rfl, Q1.out, Q2.out, l1, l2, by omega, by omega⟩, B4.out⟩
set_option maxHeartbeats 1000000 in
theorem drawRingPeriod_any (A : Option Addr) (n c : Nat) (zs : List Int) (w : World) (h : IRk .u8 w A n zs) (hz : ∀ z ∈ zs, (Lit.int .u8 z).wf = true) (hc : n ≤ c) :
    Calls Try.prog 30 #[.slice A n c] w fun e w' => (∃ (x : Int) (v1 v2 : Value) (a b : List Int), e = .returned (.tuple #[.int .i64 x, v1, v2]) ∧ Own w' w.heap.size v1 a ∧ Own w' w.heap.size v2 b ∧ a.length ≤ 13 ∧ b.length ≤ 13) ∧ Below w.heap.size w w' := by
  have H := hide h
  have HZ := hide hz
  clear h hz
  go_enter Try.func30, Try.ntmps30
  go_wp2_with fail
  refine (open_b A n c zs _ H.out HZ.out hc).mono ?_
  rintro e w1 ⟨R, rfl, hR, hr, hb⟩
  have H1 := hide hr
  have B1 := hide hb
  have hs1 := hb.size
  have hR2 : R < w1.heap.size := H1.out.lt
  clear hr hb
  go_wp2_with fail
  refine (pick_b R 0 5 _ H1.out (by omega) (by omega)).mono ?_
  rintro e w2 ⟨r1, rfl, a1, b1, _, hr, hg⟩
  obtain ⟨j, rfl⟩ := Int.eq_ofNat_of_zero_le a1
  have H2 := hide hr
  have B2 := hide (below_of_drawn B1.out hg hR)
  have hs2 := hg.size
  have b1' := b1 (by omega)
  clear hr hg b1
  go_wp2_with fail
  refine (l20Rule_any R _ _ H2.out (by omega)).mono ?_
  rintro e w3 ⟨x, rfl, hr, hg⟩
  have H3 := hide hr
  have B3 := hide (below_of_drawn B2.out hg hR)
  have hs3 := hg.size
  clear hr hg
  go_wp2_with fail
  rw [show (3 : Int) + (j : Int) = ((3 + j : Nat) : Int) by omega]
  refine (l20Ring_any R _ (3 + j) 20 _ H3.out (by omega) (by omega) (by omega)).mono ?_
  rintro e w4 ⟨v4, a4, rfl, ho4, hl4, hr, hg⟩
  have O4 := hide ho4
  have H4 := hide hr
  have B4 := hide (below_of_drawn B3.out hg hR)
  have hs4 := hg.size
  clear hr hg ho4
  go_wp2_with fail
  rw [show (3 : Int) + (j : Int) = ((3 + j : Nat) : Int) by omega]
  refine (l20Ring_any R _ (3 + j) 20 _ H4.out (by omega) (by omega) (by omega)).mono ?_
  rintro e w5 ⟨v5, a5, rfl, ho5, hl5, hr, hg⟩
  have O5 := hide (ho5.base_le B4.out.size)
  have P5 := hide ((O4.out.kept hg (own_ne O4.out (by omega))).base_le B3.out.size)
  have B5 := hide (below_of_drawn B4.out hg hR)
  clear hr hg ho5
  go_wp2_with fail
  go_ret3
  exact ⟨⟨_, _, _, _, _, rfl, P5.out, O5.out, hl4, hl5⟩, B5.out⟩
end Go.Proofs.Ytefkbjccgajbiaa
