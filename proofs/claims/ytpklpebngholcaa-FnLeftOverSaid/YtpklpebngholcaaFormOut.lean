/-
  The bits of formulas, by the reference; what a formula gives for a word; the function of a formula.
  No condition.
-/
import Derived.Test.YtpklpebngholcaaBits
namespace Go.Proofs.Ytpklpebngholcaa
open Go.RowKit Go.Sort base
theorem l1BitS_any (x : Int) (k : Nat) (hx : 0 ≤ x ∧ x ≤ 1000) (hk : k ≤ 8) (w : World) : Calls Try.prog 48 #[.int .i64 x, .int .i64 k] w fun e w' => e = .returned (.int .i64 (bitAt x k)) ∧ w = w' := by
  obtain ⟨h1, h2⟩ := hx
  have h3 : 0 ≤ x / 2 ^ k := Int.ediv_nonneg h1 (by have := Int.pow_pos (n := 2) (m := k) (by omega); omega)
  have h4 : x / 2 ^ k ≤ x := Int.ediv_le_self _ h1
  obtain ⟨z, hz⟩ : ∃ z, x / 2 ^ k = z := ⟨_, rfl⟩
  have HE := Lib.hid (show bitAt x k = z % 2 by rw [bitAt, hz])
  rw [hz] at h3 h4
  go_enter Try.func48, Try.ntmps48
  go_wp2_with fail
  go_ret
  exact ⟨by rw [HE.out]; rfl, rfl⟩
set_option maxRecDepth 100000 in
set_option maxHeartbeats 16000000 in
theorem l4Bits_any (I n : Nat) (A : Option Addr) (c : Nat) (fs : List S3) (x : Int) (w : World) (h : SR w A n fs) (hI : 1 ≤ I ∧ I ≤ 3) (hn : 1 ≤ n ∧ n ≤ 3) (hx : 0 ≤ x ∧ x ≤ 1000) (hs : ∀ k, k < fs.length → stepOk ((I : Int) + k - 1) (sth fs k) = true) :
    Calls Try.prog 40 #[.int .i64 I, .slice A n c, .int .i64 x] w (RInts w (bitsN I x fs)) := by
  obtain ⟨hI1, hI2⟩ := hI
  obtain ⟨hn1, hn2⟩ := hn
  obtain ⟨hx1, hx2⟩ := hx
  have HR0 := hide h
  have HLen := Lib.hid h.len
  have HS := hide hs
  have O1 := hide (Own.nil0 w w.heap.size (Nat.le_refl _))
  have B1 := hide (show Below w.heap.size w (w.alloc (.cells #[] 3)) by go_grown)
  clear h hs
  go_enter Try.func40, Try.ntmps40
  go_wp2_with fail
  go_loopw [7, 8] (fun vv iv wr => ∃ (j : Nat) (v : Value), j ≤ I ∧ iv = .int .i64 j ∧ v = vv ∧ Hid (Own wr w.heap.size v (tab j fun k => bitAt x k)) ∧ Hid (Below w.heap.size w wr)) (fun _ iv _ => I - (intOf iv).toNat)
  case atStart => exact ⟨0, _, by omega, rfl, rfl, O1, B1⟩
  case round =>
    obtain ⟨j, v, hj, rfl, rfl, HO, HB⟩ := hrel
    have hsz := HB.out.size
    by_cases hlt : j < I
    · have HT := Lib.hid (show (tab (j + 1) fun k => bitAt x k) = (tab j fun k => bitAt x k) ++ [bitAt x j] by rw [tab_succ])
      go_wp2_with fail
      refine (l1BitS_any x j ⟨hx1, hx2⟩ (by omega) _).mono ?_
      rintro e w' ⟨rfl, rfl⟩
      go_wp2_with (at_builtin; refine wpList_append1 (x := bitAt x j) HO.out (.tmp 18) (.tmp 22) (by rfl) rfl rfl rfl (by rw [tab_len]; omega) (by omega) ?_; intro v2 w2 ho2 hb2 hg2 _; have O2 := hide (show Own w2 w.heap.size v2 (tab (j + 1) fun k => bitAt x k) by rw [HT.out]; exact ho2); have B2 := hide (HB.out.grown hg2 hsz (fun k hk => (HO.out.lt k hk).1)); clear ho2 hb2 hg2)
      go_roundw
      case rel => exact ⟨j + 1, v2, by omega, by go_num, rfl, O2, B2⟩
      case measure => simp [intOf]; omega
    · obtain rfl : I = j := by omega
      have HO2 := hide (show Own wr w.heap.size v (bitsN I x (fs.take 0)) from HO.out)
      go_wp2_with fail
      go_loopw [7, 9] (fun vv iv wr => ∃ (j : Nat) (v : Value), j ≤ n ∧ iv = .int .i64 j ∧ v = vv ∧ Hid (Own wr w.heap.size v (bitsN I x (fs.take j))) ∧ Hid (Below w.heap.size w wr)) (fun _ iv _ => n - (intOf iv).toNat)
      case atStart => exact ⟨0, _, by omega, rfl, rfl, HO2, HB⟩
      case round =>
        clear HO HO2 HB hsz
        obtain ⟨j, v, hj', rfl, rfl, HO, HB⟩ := hrel
        have hsz := HB.out.size
        by_cases hlt : j < n
        · have HR := hide (HR0.out.below HB.out)
          obtain ⟨b0, o0, rfl, hbl, hcc⟩ := HR.out.at_ (by omega)
          obtain ⟨⟨k, a, b⟩, hg⟩ : ∃ s, sth fs j = s := ⟨_, rfl⟩
          obtain ⟨g0, g1, g2⟩ := hcc j hlt
          rw [hg] at g0 g1 g2
          simp only at g0 g1 g2
          have hso := HS.out j (by rw [HLen.out]; exact hlt)
          rw [hg] at hso
          obtain ⟨hk, ha, hb⟩ := step_in hso
          have hbits := bitsN_bit (x := x) HS.out j (by rw [HLen.out]; omega)
          have HLB := Lib.hid (bitsN_len I x fs j (by rw [HLen.out]; omega))
          have HT := Lib.hid (bitsN_succ (I := I) (x := x) (fs := fs) (k := j) (by rw [HLen.out]; exact hlt))
          rw [hg] at HT
          obtain ⟨a, rfl⟩ := Int.eq_ofNat_of_zero_le ha.1
          obtain ⟨b, rfl⟩ := Int.eq_ofNat_of_zero_le hb.1
          obtain ⟨bs, hbs⟩ : ∃ bs, bitsN I x (fs.take j) = bs := ⟨_, rfl⟩
          rw [hbs] at HO HT HLB hbits
          have hx1 := hbits a (by omega)
          have hy1 := hbits b (by omega)
          obtain ⟨Av, cv, rfl, hir⟩ := HO.out.slice
          have hal : a < bs.length := by rw [HLB.out]; omega
          have hblt : b < bs.length := by rw [HLB.out]; omega
          obtain ⟨bv, ov, rfl, hbvl, hcv⟩ := hir.at_ (by omega)
          have c1 := hcv a hal
          have c2 := hcv b hblt
          clear hcc hg hso hbits hbs hir ha hb hcv
          rcases hx1 with hX | hX <;> rcases hy1 with hY | hY
          · rw [hX] at c1
            rw [hY] at c2
            have HX := Lib.hid hX
            have HY := Lib.hid hY
            clear hX hY
            rcases hk with rfl | rfl | rfl | rfl
            · have HT2 := Lib.hid (show bitsN I x (fs.take (j + 1)) = bs ++ [0] by rw [HT.out]; simp [nextBit, HX.out, HY.out])
              have OA := hide (HO.out.alloc (.cells #[.int .i64 0, .int .i64 0, .int .i64 0, .int .i64 1] 3))
              have BA := hide (HB.out.alloc hsz (.cells #[.int .i64 0, .int .i64 0, .int .i64 0, .int .i64 1] 3))
              have hsA := BA.out.size
              go_wp2_with (at_builtin; refine wpList_append1 (x := 0) OA.out (.tmp 46) (.tmp 67) (by rfl) rfl rfl (by show (Value.slice (some ⟨wr.heap.size + 1, 0, none⟩) 1 1 : Value) = _; rw [World.size_alloc]) (by rw [HLB.out]; omega) hsA ?_; intro v4 w4 ho4 hb4 hg4 _; have O4 := hide (show Own w4 w.heap.size v4 (bitsN I x (fs.take (j + 1))) by rw [HT2.out]; exact ho4); have B4 := hide (BA.out.grown hg4 hsA (fun k hk => (HO.out.lt k hk).1)); clear ho4 hb4 hg4)
              go_roundw
              case rel => exact ⟨j + 1, v4, by omega, by go_num, rfl, O4, B4⟩
              case measure => simp [intOf]; omega
            · have HT2 := Lib.hid (show bitsN I x (fs.take (j + 1)) = bs ++ [0] by rw [HT.out]; simp [nextBit, HX.out, HY.out])
              have OA := hide (HO.out.alloc (.cells #[.int .i64 0, .int .i64 0, .int .i64 0, .int .i64 1] 3))
              have BA := hide (HB.out.alloc hsz (.cells #[.int .i64 0, .int .i64 0, .int .i64 0, .int .i64 1] 3))
              have hsA := BA.out.size
              go_wp2_with (at_builtin; refine wpList_append1 (x := 0) OA.out (.tmp 46) (.tmp 67) (by rfl) rfl rfl (by show (Value.slice (some ⟨wr.heap.size + 1, 0, none⟩) 1 1 : Value) = _; rw [World.size_alloc]) (by rw [HLB.out]; omega) hsA ?_; intro v4 w4 ho4 hb4 hg4 _; have O4 := hide (show Own w4 w.heap.size v4 (bitsN I x (fs.take (j + 1))) by rw [HT2.out]; exact ho4); have B4 := hide (BA.out.grown hg4 hsA (fun k hk => (HO.out.lt k hk).1)); clear ho4 hb4 hg4)
              go_roundw
              case rel => exact ⟨j + 1, v4, by omega, by go_num, rfl, O4, B4⟩
              case measure => simp [intOf]; omega
            · have HT2 := Lib.hid (show bitsN I x (fs.take (j + 1)) = bs ++ [0] by rw [HT.out]; simp [nextBit, HX.out, HY.out])
              have OA := hide (HO.out.alloc (.cells #[.int .i64 0, .int .i64 0, .int .i64 0, .int .i64 1] 3))
              have BA := hide (HB.out.alloc hsz (.cells #[.int .i64 0, .int .i64 0, .int .i64 0, .int .i64 1] 3))
              have hsA := BA.out.size
              go_wp2_with (at_builtin; refine wpList_append1 (x := 0) OA.out (.tmp 46) (.tmp 67) (by rfl) rfl rfl (by show (Value.slice (some ⟨wr.heap.size + 1, 0, none⟩) 1 1 : Value) = _; rw [World.size_alloc]) (by rw [HLB.out]; omega) hsA ?_; intro v4 w4 ho4 hb4 hg4 _; have O4 := hide (show Own w4 w.heap.size v4 (bitsN I x (fs.take (j + 1))) by rw [HT2.out]; exact ho4); have B4 := hide (BA.out.grown hg4 hsA (fun k hk => (HO.out.lt k hk).1)); clear ho4 hb4 hg4)
              go_roundw
              case rel => exact ⟨j + 1, v4, by omega, by go_num, rfl, O4, B4⟩
              case measure => simp [intOf]; omega
            · have HT2 := Lib.hid (show bitsN I x (fs.take (j + 1)) = bs ++ [1] by rw [HT.out]; simp [nextBit, HX.out, HY.out])
              have OA := hide (HO.out.alloc (.cells #[.int .i64 0, .int .i64 0, .int .i64 0, .int .i64 1] 3))
              have BA := hide (HB.out.alloc hsz (.cells #[.int .i64 0, .int .i64 0, .int .i64 0, .int .i64 1] 3))
              have hsA := BA.out.size
              go_wp2_with (at_builtin; refine wpList_append1 (x := 1) OA.out (.tmp 46) (.tmp 67) (by rfl) rfl rfl (by show (Value.slice (some ⟨wr.heap.size + 1, 0, none⟩) 1 1 : Value) = _; rw [World.size_alloc]) (by rw [HLB.out]; omega) hsA ?_; intro v4 w4 ho4 hb4 hg4 _; have O4 := hide (show Own w4 w.heap.size v4 (bitsN I x (fs.take (j + 1))) by rw [HT2.out]; exact ho4); have B4 := hide (BA.out.grown hg4 hsA (fun k hk => (HO.out.lt k hk).1)); clear ho4 hb4 hg4)
              go_roundw
              case rel => exact ⟨j + 1, v4, by omega, by go_num, rfl, O4, B4⟩
              case measure => simp [intOf]; omega
          · rw [hX] at c1
            rw [hY] at c2
            have HX := Lib.hid hX
            have HY := Lib.hid hY
            clear hX hY
            rcases hk with rfl | rfl | rfl | rfl
            · have HT2 := Lib.hid (show bitsN I x (fs.take (j + 1)) = bs ++ [0] by rw [HT.out]; simp [nextBit, HX.out, HY.out])
              have OA := hide (HO.out.alloc (.cells #[.int .i64 0, .int .i64 1, .int .i64 1, .int .i64 1] 3))
              have BA := hide (HB.out.alloc hsz (.cells #[.int .i64 0, .int .i64 1, .int .i64 1, .int .i64 1] 3))
              have hsA := BA.out.size
              go_wp2_with (at_builtin; refine wpList_append1 (x := 0) OA.out (.tmp 46) (.tmp 67) (by rfl) rfl rfl (by show (Value.slice (some ⟨wr.heap.size + 1, 0, none⟩) 1 1 : Value) = _; rw [World.size_alloc]) (by rw [HLB.out]; omega) hsA ?_; intro v4 w4 ho4 hb4 hg4 _; have O4 := hide (show Own w4 w.heap.size v4 (bitsN I x (fs.take (j + 1))) by rw [HT2.out]; exact ho4); have B4 := hide (BA.out.grown hg4 hsA (fun k hk => (HO.out.lt k hk).1)); clear ho4 hb4 hg4)
              go_roundw
              case rel => exact ⟨j + 1, v4, by omega, by go_num, rfl, O4, B4⟩
              case measure => simp [intOf]; omega
            · have HT2 := Lib.hid (show bitsN I x (fs.take (j + 1)) = bs ++ [1] by rw [HT.out]; simp [nextBit, HX.out, HY.out] <;> decide)
              have OA := hide (HO.out.alloc (.cells #[.int .i64 0, .int .i64 1, .int .i64 1, .int .i64 1] 3))
              have BA := hide (HB.out.alloc hsz (.cells #[.int .i64 0, .int .i64 1, .int .i64 1, .int .i64 1] 3))
              have hsA := BA.out.size
              go_wp2_with (at_builtin; refine wpList_append1 (x := 1) OA.out (.tmp 46) (.tmp 67) (by rfl) rfl rfl (by show (Value.slice (some ⟨wr.heap.size + 1, 0, none⟩) 1 1 : Value) = _; rw [World.size_alloc]) (by rw [HLB.out]; omega) hsA ?_; intro v4 w4 ho4 hb4 hg4 _; have O4 := hide (show Own w4 w.heap.size v4 (bitsN I x (fs.take (j + 1))) by rw [HT2.out]; exact ho4); have B4 := hide (BA.out.grown hg4 hsA (fun k hk => (HO.out.lt k hk).1)); clear ho4 hb4 hg4)
              go_roundw
              case rel => exact ⟨j + 1, v4, by omega, by go_num, rfl, O4, B4⟩
              case measure => simp [intOf]; omega
            · have HT2 := Lib.hid (show bitsN I x (fs.take (j + 1)) = bs ++ [1] by rw [HT.out]; simp [nextBit, HX.out, HY.out])
              have OA := hide (HO.out.alloc (.cells #[.int .i64 0, .int .i64 1, .int .i64 1, .int .i64 1] 3))
              have BA := hide (HB.out.alloc hsz (.cells #[.int .i64 0, .int .i64 1, .int .i64 1, .int .i64 1] 3))
              have hsA := BA.out.size
              go_wp2_with (at_builtin; refine wpList_append1 (x := 1) OA.out (.tmp 46) (.tmp 67) (by rfl) rfl rfl (by show (Value.slice (some ⟨wr.heap.size + 1, 0, none⟩) 1 1 : Value) = _; rw [World.size_alloc]) (by rw [HLB.out]; omega) hsA ?_; intro v4 w4 ho4 hb4 hg4 _; have O4 := hide (show Own w4 w.heap.size v4 (bitsN I x (fs.take (j + 1))) by rw [HT2.out]; exact ho4); have B4 := hide (BA.out.grown hg4 hsA (fun k hk => (HO.out.lt k hk).1)); clear ho4 hb4 hg4)
              go_roundw
              case rel => exact ⟨j + 1, v4, by omega, by go_num, rfl, O4, B4⟩
              case measure => simp [intOf]; omega
            · have HT2 := Lib.hid (show bitsN I x (fs.take (j + 1)) = bs ++ [1] by rw [HT.out]; simp [nextBit, HX.out, HY.out])
              have OA := hide (HO.out.alloc (.cells #[.int .i64 0, .int .i64 1, .int .i64 1, .int .i64 1] 3))
              have BA := hide (HB.out.alloc hsz (.cells #[.int .i64 0, .int .i64 1, .int .i64 1, .int .i64 1] 3))
              have hsA := BA.out.size
              go_wp2_with (at_builtin; refine wpList_append1 (x := 1) OA.out (.tmp 46) (.tmp 67) (by rfl) rfl rfl (by show (Value.slice (some ⟨wr.heap.size + 1, 0, none⟩) 1 1 : Value) = _; rw [World.size_alloc]) (by rw [HLB.out]; omega) hsA ?_; intro v4 w4 ho4 hb4 hg4 _; have O4 := hide (show Own w4 w.heap.size v4 (bitsN I x (fs.take (j + 1))) by rw [HT2.out]; exact ho4); have B4 := hide (BA.out.grown hg4 hsA (fun k hk => (HO.out.lt k hk).1)); clear ho4 hb4 hg4)
              go_roundw
              case rel => exact ⟨j + 1, v4, by omega, by go_num, rfl, O4, B4⟩
              case measure => simp [intOf]; omega
          · rw [hX] at c1
            rw [hY] at c2
            have HX := Lib.hid hX
            have HY := Lib.hid hY
            clear hX hY
            rcases hk with rfl | rfl | rfl | rfl
            · have HT2 := Lib.hid (show bitsN I x (fs.take (j + 1)) = bs ++ [0] by rw [HT.out]; simp [nextBit, HX.out, HY.out])
              have OA := hide (HO.out.alloc (.cells #[.int .i64 0, .int .i64 1, .int .i64 1, .int .i64 0] 3))
              have BA := hide (HB.out.alloc hsz (.cells #[.int .i64 0, .int .i64 1, .int .i64 1, .int .i64 0] 3))
              have hsA := BA.out.size
              go_wp2_with (at_builtin; refine wpList_append1 (x := 0) OA.out (.tmp 46) (.tmp 67) (by rfl) rfl rfl (by show (Value.slice (some ⟨wr.heap.size + 1, 0, none⟩) 1 1 : Value) = _; rw [World.size_alloc]) (by rw [HLB.out]; omega) hsA ?_; intro v4 w4 ho4 hb4 hg4 _; have O4 := hide (show Own w4 w.heap.size v4 (bitsN I x (fs.take (j + 1))) by rw [HT2.out]; exact ho4); have B4 := hide (BA.out.grown hg4 hsA (fun k hk => (HO.out.lt k hk).1)); clear ho4 hb4 hg4)
              go_roundw
              case rel => exact ⟨j + 1, v4, by omega, by go_num, rfl, O4, B4⟩
              case measure => simp [intOf]; omega
            · have HT2 := Lib.hid (show bitsN I x (fs.take (j + 1)) = bs ++ [1] by rw [HT.out]; simp [nextBit, HX.out, HY.out] <;> decide)
              have OA := hide (HO.out.alloc (.cells #[.int .i64 0, .int .i64 1, .int .i64 1, .int .i64 0] 3))
              have BA := hide (HB.out.alloc hsz (.cells #[.int .i64 0, .int .i64 1, .int .i64 1, .int .i64 0] 3))
              have hsA := BA.out.size
              go_wp2_with (at_builtin; refine wpList_append1 (x := 1) OA.out (.tmp 46) (.tmp 67) (by rfl) rfl rfl (by show (Value.slice (some ⟨wr.heap.size + 1, 0, none⟩) 1 1 : Value) = _; rw [World.size_alloc]) (by rw [HLB.out]; omega) hsA ?_; intro v4 w4 ho4 hb4 hg4 _; have O4 := hide (show Own w4 w.heap.size v4 (bitsN I x (fs.take (j + 1))) by rw [HT2.out]; exact ho4); have B4 := hide (BA.out.grown hg4 hsA (fun k hk => (HO.out.lt k hk).1)); clear ho4 hb4 hg4)
              go_roundw
              case rel => exact ⟨j + 1, v4, by omega, by go_num, rfl, O4, B4⟩
              case measure => simp [intOf]; omega
            · have HT2 := Lib.hid (show bitsN I x (fs.take (j + 1)) = bs ++ [1] by rw [HT.out]; simp [nextBit, HX.out, HY.out])
              have OA := hide (HO.out.alloc (.cells #[.int .i64 0, .int .i64 1, .int .i64 1, .int .i64 0] 3))
              have BA := hide (HB.out.alloc hsz (.cells #[.int .i64 0, .int .i64 1, .int .i64 1, .int .i64 0] 3))
              have hsA := BA.out.size
              go_wp2_with (at_builtin; refine wpList_append1 (x := 1) OA.out (.tmp 46) (.tmp 67) (by rfl) rfl rfl (by show (Value.slice (some ⟨wr.heap.size + 1, 0, none⟩) 1 1 : Value) = _; rw [World.size_alloc]) (by rw [HLB.out]; omega) hsA ?_; intro v4 w4 ho4 hb4 hg4 _; have O4 := hide (show Own w4 w.heap.size v4 (bitsN I x (fs.take (j + 1))) by rw [HT2.out]; exact ho4); have B4 := hide (BA.out.grown hg4 hsA (fun k hk => (HO.out.lt k hk).1)); clear ho4 hb4 hg4)
              go_roundw
              case rel => exact ⟨j + 1, v4, by omega, by go_num, rfl, O4, B4⟩
              case measure => simp [intOf]; omega
            · have HT2 := Lib.hid (show bitsN I x (fs.take (j + 1)) = bs ++ [0] by rw [HT.out]; simp [nextBit, HX.out, HY.out])
              have OA := hide (HO.out.alloc (.cells #[.int .i64 0, .int .i64 1, .int .i64 1, .int .i64 0] 3))
              have BA := hide (HB.out.alloc hsz (.cells #[.int .i64 0, .int .i64 1, .int .i64 1, .int .i64 0] 3))
              have hsA := BA.out.size
              go_wp2_with (at_builtin; refine wpList_append1 (x := 0) OA.out (.tmp 46) (.tmp 67) (by rfl) rfl rfl (by show (Value.slice (some ⟨wr.heap.size + 1, 0, none⟩) 1 1 : Value) = _; rw [World.size_alloc]) (by rw [HLB.out]; omega) hsA ?_; intro v4 w4 ho4 hb4 hg4 _; have O4 := hide (show Own w4 w.heap.size v4 (bitsN I x (fs.take (j + 1))) by rw [HT2.out]; exact ho4); have B4 := hide (BA.out.grown hg4 hsA (fun k hk => (HO.out.lt k hk).1)); clear ho4 hb4 hg4)
              go_roundw
              case rel => exact ⟨j + 1, v4, by omega, by go_num, rfl, O4, B4⟩
              case measure => simp [intOf]; omega
          · rw [hX] at c1
            rw [hY] at c2
            have HX := Lib.hid hX
            have HY := Lib.hid hY
            clear hX hY
            rcases hk with rfl | rfl | rfl | rfl
            · have HT2 := Lib.hid (show bitsN I x (fs.take (j + 1)) = bs ++ [1] by rw [HT.out]; simp [nextBit, HX.out, HY.out])
              have OA := hide (HO.out.alloc (.cells #[.int .i64 1, .int .i64 1, .int .i64 0, .int .i64 0] 3))
              have BA := hide (HB.out.alloc hsz (.cells #[.int .i64 1, .int .i64 1, .int .i64 0, .int .i64 0] 3))
              have hsA := BA.out.size
              go_wp2_with (at_builtin; refine wpList_append1 (x := 1) OA.out (.tmp 46) (.tmp 67) (by rfl) rfl rfl (by show (Value.slice (some ⟨wr.heap.size + 1, 0, none⟩) 1 1 : Value) = _; rw [World.size_alloc]) (by rw [HLB.out]; omega) hsA ?_; intro v4 w4 ho4 hb4 hg4 _; have O4 := hide (show Own w4 w.heap.size v4 (bitsN I x (fs.take (j + 1))) by rw [HT2.out]; exact ho4); have B4 := hide (BA.out.grown hg4 hsA (fun k hk => (HO.out.lt k hk).1)); clear ho4 hb4 hg4)
              go_roundw
              case rel => exact ⟨j + 1, v4, by omega, by go_num, rfl, O4, B4⟩
              case measure => simp [intOf]; omega
            · have HT2 := Lib.hid (show bitsN I x (fs.take (j + 1)) = bs ++ [1] by rw [HT.out]; simp [nextBit, HX.out, HY.out])
              have OA := hide (HO.out.alloc (.cells #[.int .i64 1, .int .i64 1, .int .i64 0, .int .i64 0] 3))
              have BA := hide (HB.out.alloc hsz (.cells #[.int .i64 1, .int .i64 1, .int .i64 0, .int .i64 0] 3))
              have hsA := BA.out.size
              go_wp2_with (at_builtin; refine wpList_append1 (x := 1) OA.out (.tmp 46) (.tmp 67) (by rfl) rfl rfl (by show (Value.slice (some ⟨wr.heap.size + 1, 0, none⟩) 1 1 : Value) = _; rw [World.size_alloc]) (by rw [HLB.out]; omega) hsA ?_; intro v4 w4 ho4 hb4 hg4 _; have O4 := hide (show Own w4 w.heap.size v4 (bitsN I x (fs.take (j + 1))) by rw [HT2.out]; exact ho4); have B4 := hide (BA.out.grown hg4 hsA (fun k hk => (HO.out.lt k hk).1)); clear ho4 hb4 hg4)
              go_roundw
              case rel => exact ⟨j + 1, v4, by omega, by go_num, rfl, O4, B4⟩
              case measure => simp [intOf]; omega
            · have HT2 := Lib.hid (show bitsN I x (fs.take (j + 1)) = bs ++ [0] by rw [HT.out]; simp [nextBit, HX.out, HY.out])
              have OA := hide (HO.out.alloc (.cells #[.int .i64 1, .int .i64 1, .int .i64 0, .int .i64 0] 3))
              have BA := hide (HB.out.alloc hsz (.cells #[.int .i64 1, .int .i64 1, .int .i64 0, .int .i64 0] 3))
              have hsA := BA.out.size
              go_wp2_with (at_builtin; refine wpList_append1 (x := 0) OA.out (.tmp 46) (.tmp 67) (by rfl) rfl rfl (by show (Value.slice (some ⟨wr.heap.size + 1, 0, none⟩) 1 1 : Value) = _; rw [World.size_alloc]) (by rw [HLB.out]; omega) hsA ?_; intro v4 w4 ho4 hb4 hg4 _; have O4 := hide (show Own w4 w.heap.size v4 (bitsN I x (fs.take (j + 1))) by rw [HT2.out]; exact ho4); have B4 := hide (BA.out.grown hg4 hsA (fun k hk => (HO.out.lt k hk).1)); clear ho4 hb4 hg4)
              go_roundw
              case rel => exact ⟨j + 1, v4, by omega, by go_num, rfl, O4, B4⟩
              case measure => simp [intOf]; omega
            · have HT2 := Lib.hid (show bitsN I x (fs.take (j + 1)) = bs ++ [0] by rw [HT.out]; simp [nextBit, HX.out, HY.out])
              have OA := hide (HO.out.alloc (.cells #[.int .i64 1, .int .i64 1, .int .i64 0, .int .i64 0] 3))
              have BA := hide (HB.out.alloc hsz (.cells #[.int .i64 1, .int .i64 1, .int .i64 0, .int .i64 0] 3))
              have hsA := BA.out.size
              go_wp2_with (at_builtin; refine wpList_append1 (x := 0) OA.out (.tmp 46) (.tmp 67) (by rfl) rfl rfl (by show (Value.slice (some ⟨wr.heap.size + 1, 0, none⟩) 1 1 : Value) = _; rw [World.size_alloc]) (by rw [HLB.out]; omega) hsA ?_; intro v4 w4 ho4 hb4 hg4 _; have O4 := hide (show Own w4 w.heap.size v4 (bitsN I x (fs.take (j + 1))) by rw [HT2.out]; exact ho4); have B4 := hide (BA.out.grown hg4 hsA (fun k hk => (HO.out.lt k hk).1)); clear ho4 hb4 hg4)
              go_roundw
              case rel => exact ⟨j + 1, v4, by omega, by go_num, rfl, O4, B4⟩
              case measure => simp [intOf]; omega
        · obtain rfl : n = j := by omega
          have HO2 := hide (show Own wr w.heap.size v (bitsN I x fs) by have := HO.out; rwa [List.take_of_length_le (by rw [HLen.out]; omega)] at this)
          go_wp2_with fail
          go_ret
          exact ⟨⟨_, rfl, HO2.out⟩, HB.out⟩
end Go.Proofs.Ytpklpebngholcaa
