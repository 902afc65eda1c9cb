/-
  The draw of a table.
  No condition.
-/
import Derived.Test.YteedkpfpljecaaaDrawCircV
import Derived.Test.YteedkpfpljecaaaTab
namespace Go.Proofs.Yteedkpfpljecaaa
open Go.RowKit Go.Sort base
/- some number of lines and some list of numbers -/
def DrawnT (w : World) (R P : Nat) (e : Ending) (w' : World) : Prop := ∃ (l : Int) (v : Value) (zs : List Int), e = .returned (.tuple #[.int .i64 l, v]) ∧ Own w' w.heap.size v zs ∧ zs.length ≤ 17 ∧ (0 ≤ l ∧ l ≤ 9) ∧ RG w R P w'
theorem RG.below {w wx wy : World} {R P : Nat} (h : RG w R P wx) (hb : Below wx.heap.size wx wy) : RG w R P wy :=
  h.step (row := none) ⟨hb.os, hb.tape, hb.output, hb.size, fun k hk _ => hb.block k hk⟩ (fun x hx => by cases hx)
/-- the draw under way: the reader, and a list -/
structure TSt (w : World) (R P : Nat) (v : Value) (zs : List Int) (wx : World) : Prop where
  r : RG w R P wx
  own : Own wx w.heap.size v zs
theorem TSt.pick {w wx wy : World} {R P Q : Nat} {v : Value} {zs : List Int} (h : TSt w R P v zs wx) (hr : RdB wy R Q) (hg : wx.grownBy wy (some R)) : TSt w R Q v zs wy :=
  ⟨h.r.pick hr hg, h.own.kept hg (own_ne h.own h.r.lo)⟩
theorem TSt.alloc {w wx : World} {R P : Nat} {v : Value} {zs : List Int} (h : TSt w R P v zs wx) (o : Obj) : TSt w R P v zs (wx.alloc o) := ⟨h.r.alloc o, h.own.alloc o⟩
theorem TSt.mono {w wx : World} {R P Q : Nat} {v : Value} {zs : List Int} (h : TSt w R P v zs wx) (hq : P ≤ Q) : TSt w R Q v zs wx := ⟨h.r.mono hq, h.own⟩
set_option maxRecDepth 100000 in
set_option maxHeartbeats 16000000 in
theorem l20Table_b (R p : Nat) (M : Int) (w : World) (h : RdB w R p) (hp : p ≤ 60000) (hM : 0 ≤ M ∧ M ≤ 1000) :
    Calls Try.prog 32 #[.pointer (some ⟨R, 0, none⟩), .int .i64 4, .int .i64 M] w (DrawnT w R (p + 500)) := by
  obtain ⟨hM0, hM1⟩ := hM
  have S0 := hide (RG.start h)
  have hlt := h.lt
  clear h
  go_enter Try.func32, Try.ntmps32
  go_wp2_with fail
  refine (pick_b R p 4 _ S0.out.rd (by omega) (by omega)).mono ?_
  rintro e w0 ⟨r0, rfl, a0, b0, _, hr, hg⟩
  have c0 := b0 (by omega)
  obtain ⟨n, hn⟩ : ∃ n : Nat, 1 + r0 = (n : Int) := ⟨(1 + r0).toNat, by omega⟩
  have hn1 : 1 ≤ n := by omega
  have hn4 : n ≤ 4 := by omega
  obtain rfl : r0 = (n : Int) - 1 := by omega
  have hn' : 1 + ((n : Int) - 1) = (n : Int) := by omega
  have hw := wrap_pow8 (z := n) (by omega)
  have hPl : 2 ^ n ≤ 16 := (show 2 ^ n ≤ 2 ^ 4 from Nat.pow_le_pow_right (by omega) hn4)
  have hPg : 2 ≤ 2 ^ n := (show 2 ^ 1 ≤ 2 ^ n from Nat.pow_le_pow_right (by omega) hn1)
  obtain ⟨P, hPP⟩ : ∃ P : Nat, 2 ^ n = P := ⟨_, rfl⟩
  rw [hPP] at hw hPl hPg
  have HPP := Lib.hid hPP
  have S1 := hide (S0.out.pick hr hg)
  have S1a := hide ((S0.out.pick hr hg).alloc (.cells #[] 3))
  have O1 := hide (Own.nil0 w0 w.heap.size (S0.out.pick hr hg).size)
  clear hr hg b0 c0 a0 hPP hn
  go_wp2_with fail
  go_loopw [9, 10] (fun vv kv wr => ∃ (g c j : Nat) (zs : List Int), vv = .slice (some ⟨g, 0, none⟩) j c ∧ j ≤ P ∧ j ≤ c ∧ kv = .int .i64 j ∧ Hid (zs.length = j) ∧ Hid (Own wr w.heap.size vv zs) ∧ Hid (RG w R (p + 1 + j) wr)) (fun _ kv _ => P - (intOf kv).toNat)
  case atStart => exact ⟨w0.heap.size, 0, 0, [], rfl, by omega, by omega, rfl, rfl, O1.out, S1a.out⟩
  case round =>
    obtain ⟨g, c, j, zs, rfl, hj, hjc, rfl, HLen, HO, HS⟩ := hrel
    by_cases hlt2 : j < P
    · have hO := HO.out.lt
      have hg0 := hO g rfl
      clear hO
      go_wp2_with fail
      refine (pick_b R (p + 1 + j) ((j : Int) + 1) _ HS.out.rd (by omega) (by omega)).mono ?_
      rintro e w1 ⟨r, rfl, a1, b1, _, hr, hg⟩
      have c1 := b1 (by omega)
      obtain ⟨t, rfl⟩ := Int.eq_ofNat_of_zero_le a1
      have htj : t ≤ j := by omega
      have S2 := hide (HS.out.pick hr hg)
      have O2 := hide (HO.out.kept hg (own_ne HO.out (by omega)))
      have hs1 := hg.size
      obtain ⟨a0, ha0⟩ : ∃ a0 : Nat, (if t = c then 0 else t) = a0 := ⟨_, rfl⟩
      have T2 := hide ((O2.out.alloc (.cells #[] 3)).ir.dropA htj hjc)
      have E2 := hide (Own.nil0 w1 w1.heap.size (Nat.le_refl _))
      have S2' := hide (S2.out.alloc (.cells #[] 3))
      have hsl1 := run_from g j c t htj hjc
      rw [ha0] at T2
      simp only [ha0] at hsl1
      clear ha0
      have hsl2 := fun wx => run_take g 0 j c t (by omega) wx
      have hlz := HLen.out
      have HTk := hide (show (zs.take t).length = t by simp; omega)
      have HDr := hide (show (zs.drop t).length = j - t by simp; omega)
      have hsz := S2.out.size
      clear hr hg b1 c1 a1 hlz
      go_wp2_with (first
        | (at_builtin; refine wpList_append_ints E2.out T2.out (.tmp 28) (.tmp 31) (by rfl) rfl rfl rfl (by have := HDr.out; simp only [List.length_nil]; omega) (by simp) ?_; intro v3 w3 ho3 hg3 _; obtain ⟨A3, n3, c3, rfl, hr3⟩ := ho3.slice'; have O3 := hide ((O2.out.alloc (.cells #[] 3)).kept hg3 (by right; simp [Value.ownBlock]; omega)); have S3 := hide (S2'.out.step hg3 (by simp [Value.ownBlock]; omega)); have P3 := hide ho3; have hs3 := S3.out.size; have hw3 := hg3.size; clear ho3 hg3 hr3)
        | (at_builtin; refine wpList_append1 (O3.out.take HLen.out t htj) (.tmp 35) (.tmp 37) (by rfl) rfl rfl rfl (by have := HTk.out; omega) hs3 ?_; intro v4 w4 ho4 hb4 hg4 hat4; have P4 := hide (P3.out.kept hg4 (ne_row2 P3.out.lt (by simp [Value.ownBlock]; omega))); have S4 := hide (S3.out.step hg4 (by simp [Value.ownBlock]; omega)); have O4 := hide ho4; have hs4 := S4.out.size; clear hg4 hb4 hat4 ho4)
        | (at_builtin; refine wpList_append_ints O4.out P4.out.ir (.tmp 38) (.tmp 39) (by rfl) rfl rfl rfl (by have := HTk.out; have := HDr.out; simp only [List.length_append, List.length_cons, List.length_nil]; omega) hs4 ?_; intro v5 w5 ho5 hg5 _; have O5 := hide ho5; have S5 := hide (S4.out.step hg5 (fun x hx => (O4.out.lt x hx).1)); clear ho5 hg5))
      have HL5 := Lib.hid (show ((zs.take t ++ [(j : Int)]) ++ ([] ++ zs.drop t)).length = j + 1 by have := HTk.out; have := HDr.out; simp only [List.length_append, List.length_nil, List.length_cons]; omega)
      rcases O5.out.form with ⟨_, h0⟩ | ⟨g5, c5, rfl, _, _, hc5, _⟩
      · have := HL5.out
        rw [h0] at this
        simp at this
      · have HL5' := HL5.out
        have O5' := O5.out
        rw [HL5'] at O5' hc5 ⊢
        clear HL5'
        go_roundw
        case rel => exact ⟨g5, c5, j + 1, _, rfl, by omega, hc5, by go_num, HL5.out, O5', S5.out⟩
        case measure => simp [intOf]; omega
    · obtain rfl : j = P := by omega
      go_wp2_with fail
      refine (pick_b R (p + 1 + j) 3 _ HS.out.rd (by omega) (by omega)).mono ?_
      rintro e w2 ⟨r2, rfl, a2, b2, _, hr, hg⟩
      have T2 := hide (TSt.pick ⟨HS.out, HO.out⟩ hr hg)
      clear hr hg b2
      go_upto_if 43 with fail
      go_cut [9] from 43 to 48 (fun tv wx => ∃ (v : Value) (zs : List Int), tv = v ∧ Hid (TSt w R (p + 450) v zs wx) ∧ Hid (zs.length = j))
      case first =>
        by_cases h2 : r2 = 0
        · subst h2
          go_wp2_with fail
          refine (l20Circuit_v R _ 6 n _ T2.out.r.rd (by omega) ⟨by omega, by omega⟩ (by omega)).mono ?_
          rintro e w3 ⟨cv, gs, rfl, hog, hlg, hag, hrg⟩
          obtain ⟨Ag, cg, rfl, hgr⟩ := hog.gr
          have HGR := hide hgr
          have T3 := hide (T2.out.r.pick hrg.rd hrg.gr)
          have HCQ := Lib.hid (show circQ n gs = true by rw [circQ, lnOk_iff.2 ⟨by omega, by omega⟩, hag]; simp; omega)
          clear hog hgr hrg hag
          go_wp2_with fail
          refine (sTab_ok n _ _ _ gs _ HGR.out HCQ.out).mono ?_
          rintro e w4 ⟨⟨v4, rfl, ho4⟩, hb4⟩
          have T4 := hide (show TSt w R (p + 450) v4 (tab (2 ^ (n : Int).toNat) (circF gs)) w4 from ⟨(T3.out.below hb4).mono (by omega), ho4.base_le T3.out.size⟩)
          have HL4 := Lib.hid (show (tab (2 ^ (n : Int).toNat) (circF gs)).length = j by rw [tab_len]; simpa using HPP.out)
          clear ho4 hb4
          go_wp2_with fail
          go_meet
          exact ⟨_, _, rfl, T4, HL4⟩
        · have e2 : (r2 == 0) = false := by simpa using h2
          clear h2
          go_wp2_with fail
          go_meet
          exact ⟨_, zs, rfl, hide (T2.out.mono (by omega)), HLen⟩
      case rest =>
      obtain ⟨v, zs, rfl, T5, HL5⟩ := hcut
      clear T2 HS HO HLen
      go_wp2_with fail
      refine (odd_b R _ M _ T5.out.r.rd (by omega) ⟨by omega, by omega⟩).mono ?_
      rintro e w6 ⟨bo, rfl, hr, hg⟩
      have T6 := hide (T5.out.pick hr hg)
      clear hr hg T5
      cases bo
      · go_wp2_with fail
        go_ret2
        exact ⟨_, _, zs, rfl, T6.out.own, by have := HL5.out; omega, by omega, T6.out.r.mono (by omega)⟩
      · go_wp2_with fail
        refine (pick_b R _ 3 _ T6.out.r.rd (by omega) (by omega)).mono ?_
        rintro e w7 ⟨r7, rfl, a7, b7, _, hr, hg⟩
        have c7 := b7 (by omega)
        have T7 := hide (T6.out.pick hr hg)
        clear hr hg b7 T6
        rcases (show r7 = 0 ∨ r7 = 1 ∨ r7 = 2 by omega) with rfl | rfl | rfl
        · clear a7 c7
          go_wp2_with (at_builtin; refine wpList_append1 T7.out.own (.tmp 63) (.tmp 64) (by rfl) rfl rfl rfl (by have := HL5.out; omega) T7.out.r.size ?_; intro v9 w9 ho9 _ hg9 _; have T9 := hide (show TSt w R _ v9 _ w9 from ⟨T7.out.r.step hg9 (fun x hx => (T7.out.own.lt x hx).1), ho9⟩); clear ho9 hg9)
          go_ret2
          exact ⟨_, _, _, rfl, T9.out.own, by have := HL5.out; rw [List.length_append]; simp only [List.length_cons, List.length_nil]; omega, by omega, T9.out.r.mono (by omega)⟩
        · clear a7 c7
          rcases T7.out.own.form with ⟨_, h0⟩ | ⟨g, c, hv, hgb, _, hc, _⟩
          · have := HL5.out; rw [h0] at this; simp at this; omega
          · rw [HL5.out] at hv hc
            subst hv
            have OW := T7.out.own
            have hc0 := OW.cellAt HL5.out 0 (by omega)
            have hc1 := OW.cellAt HL5.out (j - 1) (by omega)
            have hf0 := OW.frozenAt HL5.out 0
            have hst := OW.stored HL5.out 0 (nth zs (j - 1))
            have HST := hide hst
            have hj1 : ((j : Int) - 1).toNat = j - 1 := by omega
            have hj2 : (0 : Int) ≤ (j : Int) - 1 := by omega
            clear OW hst
            go_wp2_with fail
            go_ret2
            exact ⟨_, _, _, rfl, HST.out.1, by have := HL5.out; rw [List.length_set]; omega, by omega, (T7.out.r.step HST.out.2 (by simpa using hgb)).mono (by omega)⟩
        · clear a7 c7
          go_wp2_with fail
          have T7' := hide (T7.out.alloc (.cells #[.int .i64 0, .int .i64 9] 3))
          refine (pick_b R _ 2 _ T7'.out.r.rd (by omega) (by omega)).mono ?_
          rintro e w8 ⟨r8, rfl, a8, b8, _, hr, hg⟩
          have c8 := b8 (by omega)
          have T8 := hide (T7'.out.pick hr hg)
          have hltw := T7.out.r.size
          have ha : w8.cell? ⟨w7.heap.size, 0, none⟩ = some (.int .i64 0) := hg.cell (cell_at rfl rfl) (by simp; omega)
          have hb : w8.cell? ⟨w7.heap.size, 1, none⟩ = some (.int .i64 9) := hg.cell (cell_at rfl rfl) (by simp; omega)
          clear hr hg b8
          rcases (show r8 = 0 ∨ r8 = 1 by omega) with rfl | rfl
          all_goals
            go_wp2_with fail
            go_ret2
            exact ⟨_, _, zs, rfl, T8.out.own, by have := HL5.out; omega, by omega, T8.out.r.mono (by omega)⟩
end Go.Proofs.Yteedkpfpljecaaa
