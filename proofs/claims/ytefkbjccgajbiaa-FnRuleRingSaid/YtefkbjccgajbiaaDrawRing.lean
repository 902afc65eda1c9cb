/-
  The draws of rules and rings.
  No condition.
-/
import Derived.Test.YtefkbjccgajbiaaDrawKit
import Derived.Test.YtefkbjccgajbiaaRingLin
namespace Go.Proofs.Ytefkbjccgajbiaa
open Go.RowKit Go.Sort base
set_option maxHeartbeats 1000000 in
theorem l20Rule_any (R p : Nat) (w : World) (h : RdB w R p) (hp : p ≤ 100000) :
    Calls Try.prog 33 #[.pointer (some ⟨R, 0, none⟩)] w (DrawnInt w R (p + 4)) := by
  have H := hide h
  have hR := h.lt
  clear h
  go_enter Try.func33, Try.ntmps33
  go_wp2_with fail
  refine (pick_b R p 4 _ H.out (by omega) (by omega)).mono ?_
  rintro e w1 ⟨r1, rfl, a1, b1, _, hr, hg⟩
  have H1 := hide hr
  have G1 := hide hg
  have hs1 := hg.size
  clear hr hg
  by_cases h0 : r1 = 0
  · subst h0
    go_wp2_with fail
    have IL := hide (show IR (w1.alloc (.cells #[.int .i64 0, .int .i64 60, .int .i64 90, .int .i64 102, .int .i64 150, .int .i64 170, .int .i64 204, .int .i64 240, .int .i64 30, .int .i64 110, .int .i64 255] 3)) (some ⟨w1.heap.size, 0, none⟩) 11 [0, 60, 90, 102, 150, 170, 204, 240, 30, 110, 255] from (Own.lit w1 w1.heap.size [0, 60, 90, 102, 150, 170, 204, 240, 30, 110, 255] (Nat.le_refl _) (by simp)).reads)
    have H2 := hide (rd_alloc H1.out (.cells #[.int .i64 0, .int .i64 60, .int .i64 90, .int .i64 102, .int .i64 150, .int .i64 170, .int .i64 204, .int .i64 240, .int .i64 30, .int .i64 110, .int .i64 255] 3))
    have G2 := hide (grown_seq G1.out (World.grownBy_alloc w1 (.cells #[.int .i64 0, .int .i64 60, .int .i64 90, .int .i64 102, .int .i64 150, .int .i64 170, .int .i64 204, .int .i64 240, .int .i64 30, .int .i64 110, .int .i64 255] 3) (some R)))
    refine (pick_b R (p + 1) 11 _ H2.out (by omega) (by omega)).mono ?_
    rintro e w3 ⟨r3, rfl, a3, b3, _, hr, hg⟩
    have b3' := b3 (by omega)
    obtain ⟨j, hj⟩ := Int.eq_ofNat_of_zero_le a3
    subst hj
    obtain ⟨b, o, e, _, hc⟩ := (IL.out.grown hg (fun b o e => by simp at e ⊢; omega)).at_ (by omega)
    simp only [Option.some.injEq, Addr.mk.injEq, and_true] at e
    obtain ⟨rfl, rfl⟩ := e
    have h1 := hc j (by omega)
    rw [Nat.zero_add] at h1
    have H3 := hide hr
    have G3 := hide (grown_seq G2.out hg)
    clear hr hg hc b3
    go_wp2_with fail
    go_ret
    exact ⟨_, rfl, H3.out.mono (by omega), G3.out⟩
  · have e0 : (r1 == 0) = false := by simpa using h0
    clear h0
    go_wp2_with fail
    refine (pick_b R (p + 1) 256 _ H1.out (by omega) (by omega)).mono ?_
    rintro e w2 ⟨r2, rfl, a2, b2, _, hr, hg⟩
    have H2 := hide hr
    have G2 := hide (grown_seq G1.out hg)
    clear hr hg
    go_wp2_with fail
    refine (pick_b R (p + 1 + 1) 30 _ H2.out (by omega) (by omega)).mono ?_
    rintro e w3 ⟨r3, rfl, a3, b3, _, hr, hg⟩
    have H3 := hide hr
    have G3 := hide (grown_seq G2.out hg)
    clear hr hg
    go_wp2_with fail
    refine (pick_b R (p + 1 + 1 + 1) 30 _ H3.out (by omega) (by omega)).mono ?_
    rintro e w4 ⟨r4, rfl, a4, b4, _, hr, hg⟩
    have H4 := hide hr
    have G4 := hide (grown_seq G3.out hg)
    clear hr hg
    go_wp2_with fail
    go_ret
    exact ⟨_, rfl, H4.out.mono (by omega), G4.out⟩
set_option maxHeartbeats 400000 in
theorem l20Long_any (R p : Nat) (w : World) (h : RdB w R p) (hp : p ≤ 100000) :
    Calls Try.prog 52 #[.pointer (some ⟨R, 0, none⟩)] w fun e w' => ∃ n : Nat, e = .returned (.int .i64 n) ∧ 3 ≤ n ∧ n ≤ 12 ∧ RdB w' R (p + 1) ∧ w.grownBy w' (some R) := by
  have H := hide h
  clear h
  go_enter Try.func52, Try.ntmps52
  go_wp2_with fail
  refine (pick_b R p 10 _ H.out (by omega) (by omega)).mono ?_
  rintro e w1 ⟨r1, rfl, a1, b1, _, hr, hg⟩
  obtain ⟨j, rfl⟩ := Int.eq_ofNat_of_zero_le a1
  have H1 := hide hr
  have G1 := hide hg
  have b1' := b1 (by omega)
  clear hr hg b1
  go_wp2_with fail
  go_ret
  exact ⟨3 + j, by go_num, by omega, by omega, H1.out, G1.out⟩
set_option maxHeartbeats 1000000 in
theorem l20Ring_any (R p n : Nat) (m : Int) (w : World) (h : RdB w R p) (hp : p ≤ 100000) (hn : n ≤ 12) (hm : 1 ≤ m ∧ m ≤ 1000000) :
    Calls Try.prog 51 #[.pointer (some ⟨R, 0, none⟩), .int .i64 n, .int .i64 m] w (DrawnInts w R (p + 14) 13) := by
  have hR := h.lt
  have H := hide h
  have F0 := hide (show Filled w R p (.slice (some ⟨w.heap.size, 0, none⟩) 0 0) (w.alloc (.cells #[] 3)) 0 from ⟨[], Own.nil0 w w.heap.size (Nat.le_refl _), rfl, rd_alloc h _, World.grownBy_alloc w _ _⟩)
  obtain ⟨hm1, hm2⟩ := hm
  clear h
  go_enter Try.func51, Try.ntmps51
  go_wp2_with fail
  go_loopw [7, 8] (fun v i wr => ∃ (V : Value) (k : Nat), V = v ∧ k ≤ n ∧ i = .int .i64 k ∧ Hid (Filled w R p v wr k)) (fun _ i _ => n - (intOf i).toNat)
  case atStart => exact ⟨_, 0, rfl, by omega, rfl, F0.out⟩
  case round =>
    obtain ⟨V, k, rfl, hk, rfl, HF⟩ := hrel
    obtain ⟨zs, ho, hl, hrd, hgw⟩ := HF.out
    have HO := hide ho
    have HL := Lib.hid hl
    have HRD := hide hrd
    have HGW := hide hgw
    have hs := hgw.size
    clear ho hl hrd hgw
    by_cases hlt : k < n
    · go_wp2_with fail
      refine (pick_b R (p + k) 2 _ HRD.out (by omega) (by omega)).mono ?_
      rintro e w1 ⟨r1, rfl, a1, b1, _, hr, hg⟩
      have HD := hide (HO.out.kept hg (own_ne HO.out hR))
      have H1 := hide hr
      have G1 := hide hg
      have hs1 := hg.size
      clear hr hg
      go_wp2_with (at_builtin; refine wpList_append1 HD.out (.tmp 15) (.tmp 18) (by rfl) rfl rfl rfl (by rw [HL.out]; omega) (by omega) ?_; intro v2 w2 ho2 hb2 hg2 _)
      go_roundw
      case rel => exact ⟨_, k + 1, rfl, by omega, by go_num, Filled.step hR HO.out HL.out HGW.out H1.out G1.out ho2 hg2⟩
      case measure => simp [intOf]; omega
    · obtain rfl : k = n := by omega
      go_wp2_with fail
      refine (odd_b R (p + k) m _ HRD.out (by omega) ⟨by omega, by omega⟩).mono ?_
      rintro e w1 ⟨b, rfl, hr, hg⟩
      have O1 := hide (HO.out.kept hg (own_ne HO.out hR))
      have H1 := hide hr
      have G1 := hide (grown_seq HGW.out hg)
      have hs1 := hg.size
      clear hr hg
      cases b
      · go_wp2_with fail
        go_ret
        exact ⟨_, zs, rfl, O1.out, by rw [HL.out]; omega, H1.out.mono (by omega), G1.out⟩
      · go_wp2_with fail
        refine (pick_b R (p + k + 1) 3 _ H1.out (by omega) (by omega)).mono ?_
        rintro e w2 ⟨r2, rfl, a2, b2, _, hr, hg⟩
        have O2 := hide (O1.out.kept hg (own_ne O1.out hR))
        have H2 := hide hr
        have G2 := hide (grown_seq G1.out hg)
        have hs2 := hg.size
        have b2' := b2 (by omega)
        clear hr hg b2
        rcases (show r2 = 0 ∨ r2 = 1 ∨ r2 = 2 by omega) with rfl | rfl | rfl
        · go_wp2_with fail
          go_ret
          exact ⟨_, [1, 0], rfl, Own.lit w2 w.heap.size [1, 0] (by omega) (by simp), by simp, (rd_alloc H2.out _).mono (by omega), grown_seq G2.out (World.grownBy_alloc w2 _ _)⟩
        · go_wp2_with (at_builtin; refine wpList_append1 O2.out (.tmp 31) (.tmp 32) (by rfl) rfl rfl rfl (by rw [HL.out]; omega) (by omega) ?_; intro v3 w3 ho3 hb3 hg3 _)
          go_ret
          have hlt : ∀ i, V.ownBlock = some i → w.heap.size ≤ i := fun i hi => (O2.out.lt i hi).1
          exact ⟨_, zs ++ [2], rfl, ho3, by simp [HL.out]; omega, (H2.out.grown hg3 (fun k hk => by have := hlt k hk; omega)).mono (by omega), grown_own G2.out hg3 hlt⟩
        · go_wp2_with (at_make; refine wpList_make_ints w.heap.size 13 rfl _ _ rfl _ _ rfl rfl rfl rfl (by omega) (by omega) ?_; intro w3 ho3 hb3 hg3)
          go_ret
          exact ⟨_, List.replicate 13 0, rfl, ho3, by simp, (H2.out.grown hg3 (fun k hk => by cases hk)).mono (by omega), grown_own G2.out hg3 (fun k hk => by cases hk)⟩
/- a rule and two rings -/
def Drawn3 (w : World) (base R p : Nat) (e : Ending) (w' : World) : Prop :=
  ∃ (x : Int) (v1 v2 : Value) (a b : List Int), e = .returned (.tuple #[.int .i64 x, v1, v2]) ∧ Own w' base v1 a ∧ Own w' base v2 b ∧ a.length ≤ 13 ∧ b.length ≤ 13 ∧ RdB w' R p ∧ w.grownBy w' (some R)
set_option maxHeartbeats 1000000 in
theorem l20Rings_any (R p : Nat) (w : World) (h : RdB w R p) (hp : p ≤ 1000) :
    Calls Try.prog 38 #[.pointer (some ⟨R, 0, none⟩)] w (Drawn3 w w.heap.size R (p + 40)) := by
  have hR := h.lt
  have H := hide h
  clear h
  go_enter Try.func38, Try.ntmps38
  go_wp2_with fail
  refine (pick_b R p 10 _ H.out (by omega) (by omega)).mono ?_
  rintro e w1 ⟨r1, rfl, a1, b1, _, hr, hg⟩
  obtain ⟨j, rfl⟩ := Int.eq_ofNat_of_zero_le a1
  have H1 := hide hr
  have G1 := hide hg
  have hs1 := hg.size
  have b1' := b1 (by omega)
  clear hr hg b1
  go_wp2_with fail
  refine (l20Rule_any R (p + 1) _ H1.out (by omega)).mono ?_
  rintro e w2 ⟨x, rfl, hr, hg⟩
  have H2 := hide hr
  have G2 := hide (grown_seq G1.out hg)
  have hs2 := hg.size
  clear hr hg
  go_wp2_with fail
  rw [show (3 : Int) + (j : Int) = ((3 + j : Nat) : Int) by omega]
  refine (l20Ring_any R (p + 1 + 4) (3 + j) 14 _ H2.out (by omega) (by omega) (by omega)).mono ?_
  rintro e w3 ⟨v3, a3, rfl, ho3, hl3, hr, hg⟩
  have O3 := hide (ho3.base_le (Nat.le_trans hs1 hs2))
  have H3 := hide hr
  have G3 := hide (grown_seq G2.out hg)
  have hs3 := hg.size
  clear hr hg ho3
  go_wp2_with fail
  rw [show (3 : Int) + (j : Int) = ((3 + j : Nat) : Int) by omega]
  refine (l20Ring_any R (p + 1 + 4 + 14) (3 + j) 14 _ H3.out (by omega) (by omega) (by omega)).mono ?_
  rintro e w4 ⟨v4, a4, rfl, ho4, hl4, hr, hg⟩
  have O4 := hide (ho4.base_le (Nat.le_trans (Nat.le_trans hs1 hs2) hs3))
  have P4 := hide (O3.out.kept hg (own_ne O3.out hR))
  have H4 := hide hr
  have G4 := hide (grown_seq G3.out hg)
  clear hr hg ho4
  go_wp2_with fail
  go_ret3
  exact ⟨_, _, _, _, _, rfl, P4.out, O4.out, hl3, hl4, H4.out.mono (by omega), G4.out⟩
end Go.Proofs.Ytefkbjccgajbiaa
