/-
  The draws of functions: some numbers of lines, and a list of at most 17 numbers.
  No condition.
-/
import Derived.Test.YtokcappgaokeaaaDoorDrawKit
import Derived.Test.YtokcappgaokeaaaDoorFunc
namespace Go.Proofs.YtokcappgaokeaaaDoor
open Go.RowKit Go.Sort base
theorem lim_nat (o : Int) : ∃ x : Nat, min (max o 0) 4 = (x : Int) ∧ x ≤ 4 := ⟨(min (max o 0) 4).toNat, by omega, by omega⟩
theorem pow_lim {x : Nat} (h : x ≤ 4) : 1 ≤ (2 : Int) ^ x ∧ (2 : Int) ^ x ≤ 16 := by
  rcases (show x = 0 ∨ x = 1 ∨ x = 2 ∨ x = 3 ∨ x = 4 by omega) with rfl | rfl | rfl | rfl | rfl <;> decide
theorem below_of_drawn {w w1 w2 : World} {R : Nat} (hb : Below w.heap.size w w1) (hg : w1.grownBy w2 (some R)) (hR : w.heap.size ≤ R) : Below w.heap.size w w2 :=
  hb.grown hg hb.size (fun k hk => by cases hk; exact hR)
set_option maxHeartbeats 2000000 in
theorem l20Func_any (R p : Nat) (i o m : Int) (w : World) (h : RdB w R p) (hp : p ≤ 100000) (hm : 1 ≤ m ∧ m ≤ 1000000) :
    Calls Tryd.prog 37 #[.pointer (some ⟨R, 0, none⟩), .int .i64 i, .int .i64 o, .int .i64 m] w (DrawnInts w R (p + 20) 17) := by
  have hR := h.lt
  have H := hide h
  obtain ⟨x, e0, hx⟩ := lim_nat o
  obtain ⟨y, e1, hy⟩ := lim_nat i
  obtain ⟨x1, x2⟩ := pow_lim hx
  obtain ⟨y1, y2⟩ := pow_lim hy
  obtain ⟨Y, hY⟩ := Int.eq_ofNat_of_zero_le (show 0 ≤ (2 : Int) ^ y by omega)
  have hY16 : Y ≤ 16 := by omega
  have hY1 : 1 ≤ Y := by omega
  have O0 := hide (Own.nil0 w w.heap.size (Nat.le_refl _))
  have H0 := hide (rd_alloc h (.cells #[] 3))
  obtain ⟨hm1, hm2⟩ := hm
  clear h
  go_enter Tryd.func37, Tryd.ntmps37
  go_wp2_with fail
  refine (pick_b R p (2 ^ x) _ H0.out (by omega) ⟨by omega, by omega⟩).mono ?_
  rintro e w1 ⟨r1, rfl, a1, b1, _, hr, hg⟩
  have b1' := b1 (by omega)
  have O1 := hide (O0.out.kept hg (own_ne O0.out hR))
  have H1 := hide hr
  have G1 := hide (grown_seq (World.grownBy_alloc w (.cells #[] 3) (some R)) hg)
  have hs1 := G1.out.size
  clear hr hg b1
  go_wp2_with fail
  go_loopw [9, 11] (fun v i wr => ∃ (V : Value) (k : Nat), V = v ∧ k ≤ Y ∧ i = .int .i64 k ∧ Hid (Filled w R (p + 1) v wr k)) (fun _ i _ => Y - (intOf i).toNat)
  case atStart => exact ⟨_, 0, rfl, by omega, rfl, [], O1.out, rfl, H1.out, G1.out⟩
  case round =>
    obtain ⟨V, k, rfl, hk, rfl, HF⟩ := hrel
    obtain ⟨zs, ho, hl, hrd, hgw⟩ := HF.out
    have HO := hide ho
    have HL := Lib.hid hl
    have HRD := hide hrd
    have HGW := hide hgw
    have hs := hgw.size
    clear ho hl hrd hgw
    by_cases hlt : k < Y
    · go_wp2_with fail
      refine (pick_b R (p + 1 + k) (1 + r1) _ HRD.out (by omega) ⟨by omega, by omega⟩).mono ?_
      rintro e w2 ⟨r2, rfl, a2, b2, _, hr, hg⟩
      have HD := hide (HO.out.kept hg (own_ne HO.out hR))
      have H2 := hide hr
      have G2 := hide hg
      have hs2 := hg.size
      clear hr hg
      go_wp2_with (at_builtin; refine wpList_append1 HD.out (.tmp 28) (.tmp 32) (by rfl) rfl rfl rfl (by rw [HL.out]; omega) (by omega) ?_; intro v3 w3 ho3 hb3 hg3 _)
      go_roundw
      case rel => exact ⟨_, k + 1, rfl, by omega, by go_num, Filled.step hR HO.out HL.out HGW.out H2.out G2.out ho3 hg3⟩
      case measure => simp [intOf]; omega
    · obtain rfl : k = Y := by omega
      go_wp2_with fail
      refine (odd_b R (p + 1 + k) m _ HRD.out (by omega) ⟨by omega, by omega⟩).mono ?_
      rintro e w2 ⟨b, rfl, hr, hg⟩
      have O2 := hide (HO.out.kept hg (own_ne HO.out hR))
      have H2 := hide hr
      have G2 := hide (grown_seq HGW.out hg)
      have hs2 := hg.size
      clear hr hg
      cases b
      · go_wp2_with fail
        go_ret
        exact ⟨_, zs, rfl, O2.out, by rw [HL.out]; omega, H2.out.mono (by omega), G2.out⟩
      · go_wp2_with fail
        refine (pick_b R (p + 1 + k + 1) 2 _ H2.out (by omega) (by omega)).mono ?_
        rintro e w3 ⟨r3, rfl, a3, b3, _, hr, hg⟩
        have O3 := hide (O2.out.kept hg (own_ne O2.out hR))
        have H3 := hide hr
        have G3 := hide (grown_seq G2.out hg)
        have hs3 := hg.size
        have b3' := b3 (by omega)
        clear hr hg b3
        rcases (show r3 = 0 ∨ r3 = 1 by omega) with rfl | rfl
        · go_wp2_with (at_builtin; refine wpList_append1 O3.out (.tmp 40) (.tmp 41) (by rfl) rfl rfl rfl (by rw [HL.out]; omega) (by omega) ?_; intro v4 w4 ho4 hb4 hg4 _)
          go_ret
          have hlt : ∀ i, V.ownBlock = some i → w.heap.size ≤ i := fun i hi => (O3.out.lt i hi).1
          exact ⟨_, zs ++ [0], rfl, ho4, by simp [HL.out]; omega, (H3.out.grown hg4 (fun k hk => by have := hlt k hk; omega)).mono (by omega), grown_own G3.out hg4 hlt⟩
        · obtain ⟨A3, c3, rfl, _⟩ := O3.out.sliceN HL.out
          obtain ⟨g3, rfl⟩ : ∃ g, A3 = some ⟨g, 0, none⟩ := by
            rcases O3.out.form with ⟨e, e0⟩ | ⟨g, c', e, _⟩
            · simp only [Value.slice.injEq] at e; omega
            · simp only [Value.slice.injEq] at e; exact ⟨g, e.1⟩
          have O4 := hide (O3.out.alloc (.cells #[.int .i64 (-1), .int .i64 16] 3))
          have H4 := hide (rd_alloc H3.out (.cells #[.int .i64 (-1), .int .i64 16] 3))
          have G4 := hide (grown_seq G3.out (World.grownBy_alloc w3 (.cells #[.int .i64 (-1), .int .i64 16] 3) (some R)))
          go_wp2_with fail
          refine (pick_b R (p + 1 + k + 1 + 1) 2 _ H4.out (by omega) (by omega)).mono ?_
          rintro e w5 ⟨r5, rfl, a5, b5, _, hr, hg⟩
          have b5' := b5 (by omega)
          have ca : w5.cell? ⟨w3.heap.size, 0, none⟩ = some (.int .i64 (-1)) := (World.cell?_of_block (hg.block w3.heap.size (by simp) (by simp; omega))).trans (cell_at rfl rfl)
          have cb : w5.cell? ⟨w3.heap.size, 1, none⟩ = some (.int .i64 16) := (World.cell?_of_block (hg.block w3.heap.size (by simp) (by simp; omega))).trans (cell_at rfl rfl)
          have O5 := hide (O4.out.kept hg (own_ne O4.out hR))
          have H5 := hide hr
          have G5 := hide (grown_seq G4.out hg)
          have c5 := O5.out.cellAt HL.out 0 (by omega)
          have f5 := O5.out.frozenAt HL.out 0
          have hg3 := (O5.out.lt g3 rfl).1
          clear hr hg b5
          rcases (show r5 = 0 ∨ r5 = 1 by omega) with rfl | rfl
          · have S5 := hide (O5.out.stored HL.out 0 (-1))
            go_wp2_with fail
            go_ret
            exact ⟨_, _, rfl, S5.out.1, by simp [HL.out]; omega, (H5.out.grown S5.out.2 (by simp; omega)).mono (by omega), grown_own G5.out S5.out.2 (fun k hk => by cases hk; exact hg3)⟩
          · have S5 := hide (O5.out.stored HL.out 0 16)
            go_wp2_with fail
            go_ret
            exact ⟨_, _, rfl, S5.out.1, by simp [HL.out]; omega, (H5.out.grown S5.out.2 (by simp; omega)).mono (by omega), grown_own G5.out S5.out.2 (fun k hk => by cases hk; exact hg3)⟩
/- numbers of lines and a list -/
def DrawnF (w : World) (base R p : Nat) (e : Ending) (w' : World) : Prop :=
  ∃ (i o : Int) (v : Value) (f : List Int), e = .returned (.tuple #[.int .i64 i, .int .i64 o, v]) ∧ Own w' base v f ∧ f.length ≤ 17 ∧ (1 ≤ i ∧ i ≤ 8 ∧ -3 ≤ o ∧ o ≤ 4) ∧ RdB w' R p ∧ w.grownBy w' (some R)
set_option maxHeartbeats 1000000 in
theorem l20Funced_any (R p : Nat) (m : Int) (w : World) (h : RdB w R p) (hp : p ≤ 10000) (hm : 1 ≤ m ∧ m ≤ 1000000) :
    Calls Tryd.prog 23 #[.pointer (some ⟨R, 0, none⟩), .int .i64 m] w (DrawnF w w.heap.size R (p + 24)) := by
  have hR := h.lt
  have H := hide h
  obtain ⟨hm1, hm2⟩ := hm
  clear h
  go_enter Tryd.func23, Tryd.ntmps23
  go_wp2_with fail
  refine (pick_b R p 4 _ H.out (by omega) (by omega)).mono ?_
  rintro e w1 ⟨r1, rfl, a1, b1, _, hr, hg⟩
  have b1' := b1 (by omega)
  have H1 := hide hr
  have G1 := hide hg
  clear hr hg b1
  go_wp2_with fail
  refine (pick_b R (p + 1) 40 _ H1.out (by omega) (by omega)).mono ?_
  rintro e w2 ⟨r2, rfl, a2, b2, _, hr, hg⟩
  have b2' := b2 (by omega)
  have H2 := hide hr
  have G2 := hide (grown_seq G1.out hg)
  clear hr hg b2
  go_wp2_with fail
  refine (pick_b R (p + 1 + 1) 4 _ H2.out (by omega) (by omega)).mono ?_
  rintro e w3 ⟨r3, rfl, a3, b3, _, hr, hg⟩
  have b3' := b3 (by omega)
  have H3 := hide hr
  have G3 := hide (grown_seq G2.out hg)
  clear hr hg b3
  go_wp2_with fail
  refine (pick_b R (p + 1 + 1 + 1) 40 _ H3.out (by omega) (by omega)).mono ?_
  rintro e w4 ⟨r4, rfl, a4, b4, _, hr, hg⟩
  have b4' := b4 (by omega)
  have H4 := hide hr
  have G4 := hide (grown_seq G3.out hg)
  clear hr hg b4
  go_wp2_with fail
  refine (l20Func_any R (p + 1 + 1 + 1 + 1) _ _ m _ H4.out (by omega) ⟨hm1, hm2⟩).mono ?_
  rintro e w5 ⟨v, f, rfl, ho, hl, hr, hg⟩
  have O5 := hide (ho.base_le G4.out.size)
  have H5 := hide hr
  have G5 := hide (grown_seq G4.out hg)
  clear hr hg ho
  go_wp2_with fail
  go_ret3
  exact ⟨_, _, _, _, rfl, O5.out, hl, by omega, H5.out.mono (by omega), G5.out⟩
/- .. whole -/
def DrawnF2 (w : World) (e : Ending) (w' : World) : Prop :=
  (∃ (i o : Int) (v : Value) (f : List Int), e = .returned (.tuple #[.int .i64 i, .int .i64 o, v]) ∧ Own w' w.heap.size v f ∧ f.length ≤ 17 ∧ (1 ≤ i ∧ i ≤ 8 ∧ -3 ≤ o ∧ o ≤ 4)) ∧ Below w.heap.size w w'
set_option maxHeartbeats 400000 in
theorem drawFuncText_any (A : Option Addr) (n c : Nat) (zs : List Int) (w : World) (h : IRk .u8 w A n zs) (hz : ∀ z ∈ zs, (Lit.int .u8 z).wf = true) (hc : n ≤ c) :
    Calls Tryd.prog 12 #[.slice A n c] w (DrawnF2 w) := by
  have H := hide h
  have HZ := hide hz
  clear h hz
  go_enter Tryd.func12, Tryd.ntmps12
  go_wp2_with fail
  refine (open_b A n c zs _ H.out HZ.out hc).mono ?_
  rintro e w1 ⟨R, rfl, hR, hr, hb⟩
  have H1 := hide hr
  have B1 := hide hb
  have hs1 := hb.size
  clear hr hb
  go_wp2_with fail
  refine (l20Funced_any R 0 6 _ H1.out (by omega) (by omega)).mono ?_
  rintro e w2 ⟨i, o, v, f, rfl, ho, hl, hio, hr, hg⟩
  have B2 := hide (below_of_drawn B1.out hg hR)
  have O2 := hide (ho.base_le hs1)
  clear hr hg ho
  go_wp2_with fail
  go_ret3
  exact ⟨⟨_, _, _, _, rfl, O2.out, hl, hio⟩, B2.out⟩
end Go.Proofs.YtokcappgaokeaaaDoor
