/-
  The draw of a ring.
  No condition.
-/
import Derived.Test.YtffehcklfhcleaaDoorDrawKit
import Derived.Test.YtffehcklfhcleaaDoorRingBit
namespace Go.Proofs.YtffehcklfhcleaaDoor
open Go.RowKit Go.Sort base
set_option maxHeartbeats 400000 in
theorem l20Long_any (R p : Nat) (w : World) (h : RdB w R p) (hp : p ≤ 100000) :
    Calls Tryd.prog 22 #[.pointer (some ⟨R, 0, none⟩)] w fun e w' => ∃ n : Nat, e = .returned (.int .i64 n) ∧ 3 ≤ n ∧ n ≤ 12 ∧ RdB w' R (p + 1) ∧ w.grownBy w' (some R) := by
  have H := hide h
  clear h
  go_enter Tryd.func22, Tryd.ntmps22
  go_wp2_with fail
  refine (pick_b R p 10 _ H.out (by omega) (by omega)).mono ?_
  rintro e w1 ⟨r1, rfl, a1, b1, _, hr, hg⟩
  obtain ⟨j, rfl⟩ := Int.eq_ofNat_of_zero_le a1
  have H1 := hide hr
  have G1 := hide hg
  have b1' := b1 (by omega)
  clear hr hg b1
  go_wp2_with fail
  go_ret
  exact ⟨3 + j, by go_num, by omega, by omega, H1.out, G1.out⟩
set_option maxHeartbeats 1000000 in
theorem l20Ring_any (R p n : Nat) (m : Int) (w : World) (h : RdB w R p) (hp : p ≤ 100000) (hn : n ≤ 12) (hm : 1 ≤ m ∧ m ≤ 1000000) :
    Calls Tryd.prog 21 #[.pointer (some ⟨R, 0, none⟩), .int .i64 n, .int .i64 m] w (DrawnInts w R (p + 14) 13) := by
  have hR := h.lt
  have H := hide h
  have F0 := hide (show Filled w R p (.slice (some ⟨w.heap.size, 0, none⟩) 0 0) (w.alloc (.cells #[] 3)) 0 from ⟨[], Own.nil0 w w.heap.size (Nat.le_refl _), rfl, rd_alloc h _, World.grownBy_alloc w _ _⟩)
  obtain ⟨hm1, hm2⟩ := hm
  clear h
  go_enter Tryd.func21, Tryd.ntmps21
  go_wp2_with fail
  go_loopw [7, 8] (fun v i wr => ∃ (V : Value) (k : Nat), V = v ∧ k ≤ n ∧ i = .int .i64 k ∧ Hid (Filled w R p v wr k)) (fun _ i _ => n - (intOf i).toNat)
  case atStart => exact ⟨_, 0, rfl, by omega, rfl, F0.out⟩
  case round =>
    obtain ⟨V, k, rfl, hk, rfl, HF⟩ := hrel
    obtain ⟨zs, ho, hl, hrd, hgw⟩ := HF.out
    have HO := hide ho
    have HL := Lib.hid hl
    have HRD := hide hrd
    have HGW := hide hgw
    have hs := hgw.size
    clear ho hl hrd hgw
    by_cases hlt : k < n
    · go_wp2_with fail
      refine (pick_b R (p + k) 2 _ HRD.out (by omega) (by omega)).mono ?_
      rintro e w1 ⟨r1, rfl, a1, b1, _, hr, hg⟩
      have HD := hide (HO.out.kept hg (own_ne HO.out hR))
      have H1 := hide hr
      have G1 := hide hg
      have hs1 := hg.size
      clear hr hg
      go_wp2_with (at_builtin; refine wpList_append1 HD.out (.tmp 15) (.tmp 18) (by rfl) rfl rfl rfl (by rw [HL.out]; omega) (by omega) ?_; intro v2 w2 ho2 hb2 hg2 _)
      go_roundw
      case rel => exact ⟨_, k + 1, rfl, by omega, by go_num, Filled.step hR HO.out HL.out HGW.out H1.out G1.out ho2 hg2⟩
      case measure => simp [intOf]; omega
    · obtain rfl : k = n := by omega
      go_wp2_with fail
      refine (odd_b R (p + k) m _ HRD.out (by omega) ⟨by omega, by omega⟩).mono ?_
      rintro e w1 ⟨b, rfl, hr, hg⟩
      have O1 := hide (HO.out.kept hg (own_ne HO.out hR))
      have H1 := hide hr
      have G1 := hide (grown_seq HGW.out hg)
      have hs1 := hg.size
      clear hr hg
      cases b
      · go_wp2_with fail
        go_ret
        exact ⟨_, zs, rfl, O1.out, by rw [HL.out]; omega, H1.out.mono (by omega), G1.out⟩
      · go_wp2_with fail
        refine (pick_b R (p + k + 1) 3 _ H1.out (by omega) (by omega)).mono ?_
        rintro e w2 ⟨r2, rfl, a2, b2, _, hr, hg⟩
        have O2 := hide (O1.out.kept hg (own_ne O1.out hR))
        have H2 := hide hr
        have G2 := hide (grown_seq G1.out hg)
        have hs2 := hg.size
        have b2' := b2 (by omega)
        clear hr hg b2
        rcases (show r2 = 0 ∨ r2 = 1 ∨ r2 = 2 by omega) with rfl | rfl | rfl
        · go_wp2_with fail
          go_ret
          exact ⟨_, [1, 0], rfl, Own.lit w2 w.heap.size [1, 0] (by omega) (by simp), by simp, (rd_alloc H2.out _).mono (by omega), grown_seq G2.out (World.grownBy_alloc w2 _ _)⟩
        · go_wp2_with (at_builtin; refine wpList_append1 O2.out (.tmp 31) (.tmp 32) (by rfl) rfl rfl rfl (by rw [HL.out]; omega) (by omega) ?_; intro v3 w3 ho3 hb3 hg3 _)
          go_ret
          have hlt : ∀ i, V.ownBlock = some i → w.heap.size ≤ i := fun i hi => (O2.out.lt i hi).1
          exact ⟨_, zs ++ [2], rfl, ho3, by simp [HL.out]; omega, (H2.out.grown hg3 (fun k hk => by have := hlt k hk; omega)).mono (by omega), grown_own G2.out hg3 hlt⟩
        · go_wp2_with (at_make; refine wpList_make_ints w.heap.size 13 rfl _ _ rfl _ _ rfl rfl rfl rfl (by omega) (by omega) ?_; intro w3 ho3 hb3 hg3)
          go_ret
          exact ⟨_, List.replicate 13 0, rfl, ho3, by simp, (H2.out.grown hg3 (fun k hk => by cases hk)).mono (by omega), grown_own G2.out hg3 (fun k hk => by cases hk)⟩
set_option maxHeartbeats 400000 in
theorem odd_0 (R : Nat) (w : World) :
    Calls Tryd.prog 32 #[.pointer (some ⟨R, 0, none⟩), .int .i64 0] w fun e w' => e = .returned (.bool false) ∧ w = w' := by
  go_enter Tryd.func32, Tryd.ntmps32
  go_wp2_with fail
  go_ret
  exact ⟨rfl, rfl⟩
set_option maxHeartbeats 1000000 in
theorem l20Ring_0 (R p n : Nat) (w : World) (h : RdB w R p) (hp : p ≤ 100000) (hn : n ≤ 12) :
    Calls Tryd.prog 21 #[.pointer (some ⟨R, 0, none⟩), .int .i64 n, .int .i64 0] w (DrawnInts w R (p + 14) 13) := by
  have hR := h.lt
  have H := hide h
  have F0 := hide (show Filled w R p (.slice (some ⟨w.heap.size, 0, none⟩) 0 0) (w.alloc (.cells #[] 3)) 0 from ⟨[], Own.nil0 w w.heap.size (Nat.le_refl _), rfl, rd_alloc h _, World.grownBy_alloc w _ _⟩)
  clear h
  go_enter Tryd.func21, Tryd.ntmps21
  go_wp2_with fail
  go_loopw [7, 8] (fun v i wr => ∃ (V : Value) (k : Nat), V = v ∧ k ≤ n ∧ i = .int .i64 k ∧ Hid (Filled w R p v wr k)) (fun _ i _ => n - (intOf i).toNat)
  case atStart => exact ⟨_, 0, rfl, by omega, rfl, F0.out⟩
  case round =>
    obtain ⟨V, k, rfl, hk, rfl, HF⟩ := hrel
    obtain ⟨zs, ho, hl, hrd, hgw⟩ := HF.out
    have HO := hide ho
    have HL := Lib.hid hl
    have HRD := hide hrd
    have HGW := hide hgw
    have hs := hgw.size
    clear ho hl hrd hgw
    by_cases hlt : k < n
    · go_wp2_with fail
      refine (pick_b R (p + k) 2 _ HRD.out (by omega) (by omega)).mono ?_
      rintro e w1 ⟨r1, rfl, a1, b1, _, hr, hg⟩
      have HD := hide (HO.out.kept hg (own_ne HO.out hR))
      have H1 := hide hr
      have G1 := hide hg
      have hs1 := hg.size
      clear hr hg
      go_wp2_with (at_builtin; refine wpList_append1 HD.out (.tmp 15) (.tmp 18) (by rfl) rfl rfl rfl (by rw [HL.out]; omega) (by omega) ?_; intro v2 w2 ho2 hb2 hg2 _)
      go_roundw
      case rel => exact ⟨_, k + 1, rfl, by omega, by go_num, Filled.step hR HO.out HL.out HGW.out H1.out G1.out ho2 hg2⟩
      case measure => simp [intOf]; omega
    · obtain rfl : k = n := by omega
      go_wp2_with fail
      refine (odd_0 R _).mono ?_
      rintro e w1 ⟨rfl, rfl⟩
      go_wp2_with fail
      go_ret
      exact ⟨_, zs, rfl, HO.out, by rw [HL.out]; omega, HRD.out.mono (by omega), HGW.out⟩
/- a rule and two rings -/
def Drawn3 (w : World) (base R p : Nat) (e : Ending) (w' : World) : Prop :=
  ∃ (x : Int) (v1 v2 : Value) (a b : List Int), e = .returned (.tuple #[.int .i64 x, v1, v2]) ∧ Own w' base v1 a ∧ Own w' base v2 b ∧ a.length ≤ 13 ∧ b.length ≤ 13 ∧ RdB w' R p ∧ w.grownBy w' (some R)
end Go.Proofs.YtffehcklfhcleaaDoor
