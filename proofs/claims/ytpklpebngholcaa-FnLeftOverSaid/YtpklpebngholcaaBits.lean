/-
  The bits of all steps of a formula, by the program and by the reference.
  No condition.
-/
import Derived.Test.YtpklpebngholcaaForm
import Derived.Test.YtpklpebngholcaaNode
import Derived.Test.YtpklpebngholcaaClone
namespace Go.Proofs.Ytpklpebngholcaa
open Go.RowKit Go.Sort base
def bitAt (x : Int) (k : Nat) : Int := x / 2 ^ k % 2
theorem bitAt_bit (x : Int) (k : Nat) : bitAt x k = 0 ∨ bitAt x k = 1 := by unfold bitAt; omega
/-- the bit of a step over the bits before it -/
def nextBit (bs : List Int) (s : S3) : Int :=
  if s.1 = 0 then nth bs s.2.1.toNat * nth bs s.2.2.toNat else if s.1 = 1 then max (nth bs s.2.1.toNat) (nth bs s.2.2.toNat) else if s.1 = 2 then (nth bs s.2.1.toNat + nth bs s.2.2.toNat) % 2 else 1 - nth bs s.2.1.toNat
/-- the bits of the inputs and of all steps -/
def bitsN (I : Nat) (x : Int) (fs : List S3) : List Int := fs.foldl (fun bs s => bs ++ [nextBit bs s]) (tab I fun k => bitAt x k)
theorem bitsN_snoc (I : Nat) (x : Int) (fs : List S3) (s : S3) : bitsN I x (fs ++ [s]) = bitsN I x fs ++ [nextBit (bitsN I x fs) s] := by simp [bitsN, List.foldl_append]
theorem bitsN_succ {I : Nat} {x : Int} {fs : List S3} {k : Nat} (h : k < fs.length) : bitsN I x (fs.take (k + 1)) = bitsN I x (fs.take k) ++ [nextBit (bitsN I x (fs.take k)) (sth fs k)] := by
  rw [take_succ_sth h, bitsN_snoc]
theorem bitsN_len (I : Nat) (x : Int) (fs : List S3) : ∀ k, k ≤ fs.length → (bitsN I x (fs.take k)).length = I + k
  | 0, _ => by simp [bitsN, tab_len]
  | k + 1, h => by rw [bitsN_succ (by omega), List.length_append, bitsN_len I x fs k (by omega)]; rfl
theorem nth_app {a b : List Int} {j : Nat} (h : j < a.length) : nth (a ++ b) j = nth a j := by simp [nth, List.getElem?_append_left h]
theorem nth_last {a : List Int} {z : Int} : nth (a ++ [z]) a.length = z := by simp [nth]
theorem next_bit {bs : List Int} {s : S3} {m : Nat} (hl : bs.length = m) (hb : ∀ j, j < m → nth bs j = 0 ∨ nth bs j = 1) (hs : stepOk ((m : Int) - 1) s = true) : nextBit bs s = 0 ∨ nextBit bs s = 1 := by
  obtain ⟨k, a, b⟩ := s
  simp only [stepOk, Bool.and_eq_true, decide_eq_true_eq] at hs
  obtain ⟨⟨h1, h2⟩, h3⟩ := hs
  have ha := hb a.toNat (by omega)
  simp only [nextBit]
  by_cases e3 : k = 3
  · subst e3
    simp only [show ¬ (3 : Int) = 0 by omega, show ¬ (3 : Int) = 1 by omega, show ¬ (3 : Int) = 2 by omega, if_false]
    omega
  · rw [if_neg e3] at h3
    simp only [Bool.and_eq_true, decide_eq_true_eq] at h3
    have hy := hb b.toNat (by omega)
    rcases (show k = 0 ∨ k = 1 ∨ k = 2 by omega) with rfl | rfl | rfl
    · rcases ha with e | e <;> rcases hy with f | f <;> simp [e, f]
    · rcases ha with e | e <;> rcases hy with f | f <;> simp [e, f] <;> decide
    · rcases ha with e | e <;> rcases hy with f | f <;> simp [e, f]
theorem bitsN_bit {I : Nat} {x : Int} {fs : List S3} (hs : ∀ k, k < fs.length → stepOk ((I : Int) + k - 1) (sth fs k) = true) : ∀ k, k ≤ fs.length → ∀ j, j < I + k → nth (bitsN I x (fs.take k)) j = 0 ∨ nth (bitsN I x (fs.take k)) j = 1
  | 0, _, j, hj => by
    have : nth (bitsN I x (fs.take 0)) j = bitAt x j := by simp only [bitsN, List.take_zero, List.foldl_nil]; exact tab_nth (by omega)
    rw [this]; exact bitAt_bit x j
  | k + 1, h, j, hj => by
    have ih := bitsN_bit (x := x) hs k (by omega)
    have hl := bitsN_len I x fs k (by omega)
    rw [bitsN_succ (by omega)]
    rcases Nat.lt_or_ge j (I + k) with h1 | h1
    · rw [nth_app (by omega)]; exact ih j h1
    · obtain rfl : j = (bitsN I x (fs.take k)).length := by omega
      rw [nth_last]
      exact next_bit hl ih (by have := hs k (by omega); rwa [show (I : Int) + k - 1 = ((I + k : Nat) : Int) - 1 by omega] at this)
/-- all that a step reads is there -/
theorem step_in {last : Int} {k a b : Int} (h : stepOk last (k, a, b) = true) : (k = 0 ∨ k = 1 ∨ k = 2 ∨ k = 3) ∧ (0 ≤ a ∧ a ≤ last) ∧ (0 ≤ b ∧ (b ≤ last)) := by
  simp only [stepOk, Bool.and_eq_true, decide_eq_true_eq] at h
  obtain ⟨⟨h1, h2⟩, h3⟩ := h
  refine ⟨by omega, h2, ?_⟩
  by_cases e3 : k = 3
  · rw [if_pos e3] at h3; simp at h3; omega
  · rw [if_neg e3] at h3; simp at h3; omega
/-- a call that returns numbers that can be read, and turns nothing that was there -/
def RRead (w : World) (zs : List Int) (e : Ending) (w' : World) : Prop := (∃ A c, e = .returned (.slice A zs.length c) ∧ IR w' A zs.length zs) ∧ Below w.heap.size w w'
/-- 's[k:]' of what is read -/
theorem IRk.drop {K : IntKind} {w : World} {b o n k : Nat} {zs : List Int} (h : IRk K w (some ⟨b, o, none⟩) n zs) (hk : k < n) : IRk K w (some ⟨b, o + k, none⟩) (n - k) (zs.drop k) := by
  obtain ⟨b', o', e, hb, hc⟩ := h.at_ (by omega)
  simp only [Option.some.injEq, Addr.mk.injEq, and_true] at e
  obtain ⟨rfl, rfl⟩ := e
  refine ⟨by have := h.len; simp; omega, by have := h.max; omega, fun _ => ⟨b, o + k, rfl, hb, fun i hi => ?_⟩⟩
  rw [show o + k + i = o + (k + i) by omega, hc (k + i) (by omega)]
  simp [nth]
theorem run_from (b o n c t : Nat) (ht : t < n) (hn : n ≤ c) (wx : World) : (Instr.slice 29 (.slice (some ⟨b, o, none⟩) n c) (some (.int .i64 (t : Int))) none none).run Try.prog wx = .ok (.slice (some ⟨b, o + t, none⟩) (n - t) (c - t)) wx := by
  have h1 : (0 : Int) ≤ (t : Int) := by omega
  have h2 : (t : Int) ≤ (n : Int) := by omega
  have h : ¬ t = c := by omega
  simp [Instr.slice, run_underlying Try.underlying29, Instr.sliceBounds, run_sliceBound _ _ _ _ h1 h2, go_sem, h]
  rw [if_pos (by omega), if_neg (fun e => h e.symm)]
set_option maxRecDepth 100000 in
set_option maxHeartbeats 8000000 in
theorem bitsFor_any (I n : Nat) (A : Option Addr) (c : Nat) (fs : List S3) (x : Int) (w : World) (h : SR w A n fs) (hI : 1 ≤ I ∧ I ≤ 3) (hn : 1 ≤ n ∧ n ≤ 3) (hx : 0 ≤ x ∧ x ≤ 1000) (hs : ∀ k, k < fs.length → stepOk ((I : Int) + k - 1) (sth fs k) = true) :
    Calls Try.prog 47 #[.int .i64 I, .slice A n c, .int .i64 x] w (RRead w ((bitsN I x fs).drop I)) := by
  obtain ⟨hI1, hI2⟩ := hI
  obtain ⟨hn1, hn2⟩ := hn
  obtain ⟨hx1, hx2⟩ := hx
  have HR0 := hide h
  have HLen := Lib.hid h.len
  have HS := hide hs
  clear h hs
  go_enter Try.func47, Try.ntmps47
  go_wp2_with (at_make; refine wpList_make0_ints w.heap.size (I + n) rfl _ _ rfl rfl _ rfl (by omega) (by omega) (Nat.le_refl _) ?_; intro w1 ho1 hb1 _; have O1 := hide ho1; have B1 := hide hb1; clear ho1 hb1)
  go_loopw [7, 17] (fun vv iv wr => ∃ (j : Nat) (v : Value), j ≤ I ∧ iv = .int .i64 j ∧ v = vv ∧ Hid (Own wr w.heap.size v (tab j fun k => bitAt x k)) ∧ Hid (Below w.heap.size w wr)) (fun _ iv _ => I - (intOf iv).toNat)
  case atStart => exact ⟨0, _, by omega, rfl, rfl, O1, B1⟩
  case round =>
    obtain ⟨j, v, hj, rfl, rfl, HO, HB⟩ := hrel
    have hsz := HB.out.size
    by_cases hlt : j < I
    · obtain ⟨z, hz⟩ : ∃ z, bitAt x j = z := ⟨_, rfl⟩
      have HT := Lib.hid (show (tab (j + 1) fun k => bitAt x k) = (tab j fun k => bitAt x k) ++ [z] by rw [tab_succ, hz])
      have hb : bits .and .i64 (x / 2 ^ j) 1 = z := by
        have h0 : 0 ≤ x / 2 ^ j := Int.ediv_nonneg hx1 (by have := Int.pow_pos (n := 2) (m := j) (by omega); omega)
        have h1 : x / 2 ^ j ≤ x := Int.ediv_le_self _ hx1
        rw [and_one _ ⟨h0, by omega⟩]; exact hz
      clear hz
      go_wp2_with (at_builtin; refine wpList_append1 (x := z) HO.out (.tmp 20) (.tmp 25) (by rfl) rfl rfl rfl (by rw [tab_len]; omega) (by omega) ?_; intro v2 w2 ho2 hb2 hg2 _; have O2 := hide (show Own w2 w.heap.size v2 (tab (j + 1) fun k => bitAt x k) by rw [HT.out]; exact ho2); have B2 := hide (HB.out.grown hg2 hsz (fun k hk => (HO.out.lt k hk).1)); clear ho2 hb2 hg2)
      go_roundw
      case rel => exact ⟨j + 1, v2, by omega, by go_num, rfl, O2, B2⟩
      case measure => simp [intOf]; omega
    · obtain rfl : I = j := by omega
      have HO2 := hide (show Own wr w.heap.size v (bitsN I x (fs.take 0)) from HO.out)
      go_wp2_with fail
      go_loopw [7, 30] (fun vv iv wr => ∃ (j : Nat) (v : Value), j ≤ n ∧ iv = .int .i64 j ∧ v = vv ∧ Hid (Own wr w.heap.size v (bitsN I x (fs.take j))) ∧ Hid (Below w.heap.size w wr)) (fun _ iv _ => n - (intOf iv).toNat)
      case atStart => exact ⟨0, _, by omega, rfl, rfl, HO2, HB⟩
      case round =>
        clear HO HO2 HB hsz
        obtain ⟨j, v, hj', rfl, rfl, HO, HB⟩ := hrel
        have hsz := HB.out.size
        by_cases hlt : j < n
        · have HR := hide (HR0.out.below HB.out)
          obtain ⟨b0, o0, rfl, hbl, hcc⟩ := HR.out.at_ (by omega)
          obtain ⟨⟨k, a, b⟩, hg⟩ : ∃ s, sth fs j = s := ⟨_, rfl⟩
          obtain ⟨g0, g1, g2⟩ := hcc j hlt
          rw [hg] at g0 g1 g2
          simp only at g0 g1 g2
          have hso := HS.out j (by rw [HLen.out]; exact hlt)
          rw [hg] at hso
          obtain ⟨hk, ha, hb⟩ := step_in hso
          have hbits := bitsN_bit (x := x) HS.out j (by rw [HLen.out]; omega)
          have HLB := Lib.hid (bitsN_len I x fs j (by rw [HLen.out]; omega))
          have HT := Lib.hid (bitsN_succ (I := I) (x := x) (fs := fs) (k := j) (by rw [HLen.out]; exact hlt))
          rw [hg] at HT
          obtain ⟨a, rfl⟩ := Int.eq_ofNat_of_zero_le ha.1
          obtain ⟨b, rfl⟩ := Int.eq_ofNat_of_zero_le hb.1
          obtain ⟨bs, hbs⟩ : ∃ bs, bitsN I x (fs.take j) = bs := ⟨_, rfl⟩
          rw [hbs] at HO HT HLB hbits
          have hx1 := hbits a (by omega)
          have hy1 := hbits b (by omega)
          obtain ⟨X, hX⟩ : ∃ X, nth bs a = X := ⟨_, rfl⟩
          obtain ⟨Y, hY⟩ : ∃ Y, nth bs b = Y := ⟨_, rfl⟩
          rw [hX] at hx1
          rw [hY] at hy1
          have HX := Lib.hid hX
          have HY := Lib.hid hY
          obtain ⟨Av, cv, rfl, hir⟩ := HO.out.slice
          have HIR := hide hir
          have HAL := hide (show a < bs.length by rw [HLB.out]; omega)
          have HBL := hide (show b < bs.length by rw [HLB.out]; omega)
          have HX1 := hide hx1
          have HY1 := hide hy1
          clear hcc hg hso hbits hbs hX hY hx1 hy1 hir ha hb
          rcases hk with rfl | rfl | rfl | rfl
          · have HT2 := Lib.hid (show bitsN I x (fs.take (j + 1)) = bs ++ [X * Y] by rw [HT.out]; simp [nextBit, HX.out, HY.out])
            obtain ⟨Z, hZ⟩ : ∃ Z, X * Y = Z := ⟨_, rfl⟩
            rw [hZ] at HT2
            have HZ := Lib.hid hZ
            clear hZ
            go_wp2_with fail
            refine (node_0 _ _ _).mono ?_
            rintro e w2 ⟨rfl, hb2⟩
            have BW := hide ((show Below wr.heap.size wr (wr.alloc (.cells #[.int .i64 0, .int .i64 (a : Nat), .int .i64 (b : Nat)] 44)) from (Below.refl _ wr).alloc (Nat.le_refl _) _).trans (hb2.mono (by simp)))
            clear hb2
            go_wp2_with fail
            refine (andBit_any a b X Y Z _ _ _ bs _ (HIR.out.below BW.out) HAL.out HBL.out HX.out HY.out HX1.out HY1.out HZ.out).mono ?_
            rintro e w3 ⟨rfl, hb3⟩
            have BV := hide (bseq BW.out hb3)
            have B3 := hide (bseq HB.out BV.out)
            have O3 := hide (HO.out.below BV.out)
            have hs3 := B3.out.size
            clear hb3 g0 g1 g2
            go_wp2_with (at_builtin; refine wpList_append1 (x := Z) O3.out (.tmp 34) (.tmp 39) (by rfl) rfl rfl rfl (by rw [HLB.out]; omega) hs3 ?_; intro v4 w4 ho4 hb4 hg4 _; have O4 := hide (show Own w4 w.heap.size v4 (bitsN I x (fs.take (j + 1))) by rw [HT2.out]; exact ho4); have B4 := hide (B3.out.grown hg4 hs3 (fun k hk => (O3.out.lt k hk).1)); clear ho4 hb4 hg4)
            go_roundw
            case rel => exact ⟨j + 1, v4, by omega, by go_num, rfl, O4, B4⟩
            case measure => simp [intOf]; omega
          · have HT2 := Lib.hid (show bitsN I x (fs.take (j + 1)) = bs ++ [max X Y] by rw [HT.out]; simp [nextBit, HX.out, HY.out])
            obtain ⟨Z, hZ⟩ : ∃ Z, max X Y = Z := ⟨_, rfl⟩
            rw [hZ] at HT2
            have HZ := Lib.hid hZ
            clear hZ
            go_wp2_with fail
            refine (node_1 _ _ _).mono ?_
            rintro e w2 ⟨rfl, hb2⟩
            have BW := hide ((show Below wr.heap.size wr (wr.alloc (.cells #[.int .i64 1, .int .i64 (a : Nat), .int .i64 (b : Nat)] 44)) from (Below.refl _ wr).alloc (Nat.le_refl _) _).trans (hb2.mono (by simp)))
            clear hb2
            go_wp2_with fail
            refine (orBit_any a b X Y Z _ _ _ bs _ (HIR.out.below BW.out) HAL.out HBL.out HX.out HY.out HX1.out HY1.out HZ.out).mono ?_
            rintro e w3 ⟨rfl, hb3⟩
            have BV := hide (bseq BW.out hb3)
            have B3 := hide (bseq HB.out BV.out)
            have O3 := hide (HO.out.below BV.out)
            have hs3 := B3.out.size
            clear hb3 g0 g1 g2
            go_wp2_with (at_builtin; refine wpList_append1 (x := Z) O3.out (.tmp 34) (.tmp 39) (by rfl) rfl rfl rfl (by rw [HLB.out]; omega) hs3 ?_; intro v4 w4 ho4 hb4 hg4 _; have O4 := hide (show Own w4 w.heap.size v4 (bitsN I x (fs.take (j + 1))) by rw [HT2.out]; exact ho4); have B4 := hide (B3.out.grown hg4 hs3 (fun k hk => (O3.out.lt k hk).1)); clear ho4 hb4 hg4)
            go_roundw
            case rel => exact ⟨j + 1, v4, by omega, by go_num, rfl, O4, B4⟩
            case measure => simp [intOf]; omega
          · have HT2 := Lib.hid (show bitsN I x (fs.take (j + 1)) = bs ++ [(X + Y) % 2] by rw [HT.out]; simp [nextBit, HX.out, HY.out])
            obtain ⟨Z, hZ⟩ : ∃ Z, (X + Y) % 2 = Z := ⟨_, rfl⟩
            rw [hZ] at HT2
            have HZ := Lib.hid hZ
            clear hZ
            go_wp2_with fail
            refine (node_2 _ _ _).mono ?_
            rintro e w2 ⟨rfl, hb2⟩
            have BW := hide ((show Below wr.heap.size wr (wr.alloc (.cells #[.int .i64 2, .int .i64 (a : Nat), .int .i64 (b : Nat)] 44)) from (Below.refl _ wr).alloc (Nat.le_refl _) _).trans (hb2.mono (by simp)))
            clear hb2
            go_wp2_with fail
            refine (xorBit_any a b X Y Z _ _ _ bs _ (HIR.out.below BW.out) HAL.out HBL.out HX.out HY.out HX1.out HY1.out HZ.out).mono ?_
            rintro e w3 ⟨rfl, hb3⟩
            have BV := hide (bseq BW.out hb3)
            have B3 := hide (bseq HB.out BV.out)
            have O3 := hide (HO.out.below BV.out)
            have hs3 := B3.out.size
            clear hb3 g0 g1 g2
            go_wp2_with (at_builtin; refine wpList_append1 (x := Z) O3.out (.tmp 34) (.tmp 39) (by rfl) rfl rfl rfl (by rw [HLB.out]; omega) hs3 ?_; intro v4 w4 ho4 hb4 hg4 _; have O4 := hide (show Own w4 w.heap.size v4 (bitsN I x (fs.take (j + 1))) by rw [HT2.out]; exact ho4); have B4 := hide (B3.out.grown hg4 hs3 (fun k hk => (O3.out.lt k hk).1)); clear ho4 hb4 hg4)
            go_roundw
            case rel => exact ⟨j + 1, v4, by omega, by go_num, rfl, O4, B4⟩
            case measure => simp [intOf]; omega
          · have HT2 := Lib.hid (show bitsN I x (fs.take (j + 1)) = bs ++ [1 - X] by rw [HT.out]; simp [nextBit, HX.out, HY.out])
            obtain ⟨Z, hZ⟩ : ∃ Z, 1 - X = Z := ⟨_, rfl⟩
            rw [hZ] at HT2
            have HZ := Lib.hid hZ
            clear hZ
            go_wp2_with fail
            refine (node_3 _ _ _).mono ?_
            rintro e w2 ⟨rfl, hb2⟩
            have BW := hide ((show Below wr.heap.size wr (wr.alloc (.cells #[.int .i64 3, .int .i64 (a : Nat), .int .i64 (b : Nat)] 44)) from (Below.refl _ wr).alloc (Nat.le_refl _) _).trans (hb2.mono (by simp)))
            clear hb2
            go_wp2_with fail
            refine (notBit_any a X _ _ _ bs _ (HIR.out.below BW.out) HAL.out HX.out (by have := HX1.out; omega)).mono ?_
            rintro e w3 ⟨rfl, hb3⟩
            have BV := hide (bseq BW.out hb3)
            have B3 := hide (bseq HB.out BV.out)
            have O3 := hide (HO.out.below BV.out)
            have hs3 := B3.out.size
            clear hb3 g0 g1 g2
            rw [HZ.out]
            go_wp2_with (at_builtin; refine wpList_append1 (x := Z) O3.out (.tmp 34) (.tmp 39) (by rfl) rfl rfl rfl (by rw [HLB.out]; omega) hs3 ?_; intro v4 w4 ho4 hb4 hg4 _; have O4 := hide (show Own w4 w.heap.size v4 (bitsN I x (fs.take (j + 1))) by rw [HT2.out]; exact ho4); have B4 := hide (B3.out.grown hg4 hs3 (fun k hk => (O3.out.lt k hk).1)); clear ho4 hb4 hg4)
            go_roundw
            case rel => exact ⟨j + 1, v4, by omega, by go_num, rfl, O4, B4⟩
            case measure => simp [intOf]; omega
        · obtain rfl : n = j := by omega
          have HO2 := hide (show Own wr w.heap.size v (bitsN I x fs) by have := HO.out; rwa [List.take_of_length_le (by rw [HLen.out]; omega)] at this)
          have HLB := Lib.hid (show (bitsN I x fs).length = I + n by have := bitsN_len I x fs n (by rw [HLen.out]; omega); rwa [List.take_of_length_le (by rw [HLen.out]; omega)] at this)
          obtain ⟨bs, hbs⟩ : ∃ bs, bitsN I x fs = bs := ⟨_, rfl⟩
          rw [hbs] at HO2 HLB
          have HBS := Lib.hid hbs
          clear hbs HO
          rcases HO2.out.form with ⟨_, h0⟩ | ⟨g, cg, rfl, _, _, hcg, hcm⟩
          · rw [h0] at HLB; have := HLB.out; simp at this; omega
          · have HIR := hide HO2.out.reads
            rw [HLB.out] at hcg HIR ⊢
            have hsl := run_from g 0 (I + n) cg I (by omega) hcg
            simp only [Nat.zero_add, Nat.add_sub_cancel_left] at hsl
            have HD := hide (HIR.out.drop (show I < I + n by omega))
            simp only [Nat.zero_add, Nat.add_sub_cancel_left] at HD
            have HDL := Lib.hid (show (bs.drop I).length = n by have := HLB.out; simp; omega)
            go_wp2_with fail
            refine (clone_any _ n _ (bs.drop I) _ HD.out (by omega) (by omega)).mono ?_
            rintro e w5 ⟨⟨v5, rfl, ho5⟩, hb5⟩
            have B5 := hide (bseq HB.out hb5)
            clear hb5
            rcases ho5.form with ⟨_, h0⟩ | ⟨g5, c5, rfl, _, _, hc5, hm5⟩
            · rw [h0] at HDL; have := HDL.out; simp at this; omega
            · have O5 := hide ho5.reads
              rw [HDL.out] at hc5 O5
              rw [HDL.out]
              clear ho5
              go_wp2_with fail
              refine (clip_any _ n c5 _ hc5 hm5).mono ?_
              rintro e w' ⟨rfl, rfl⟩
              go_wp2_with fail
              go_ret
              refine ⟨⟨some ⟨g5, 0, none⟩, n, ?_, ?_⟩, B5.out⟩
              · rw [HBS.out, HDL.out]; rfl
              · rw [HBS.out, HDL.out]; exact O5.out
end Go.Proofs.Ytpklpebngholcaa
