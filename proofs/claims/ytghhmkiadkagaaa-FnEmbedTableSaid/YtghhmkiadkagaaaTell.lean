/-
  EmbedTable of the program.
  No condition.
-/
import Derived.Test.YtghhmkiadkagaaaTellLaw
namespace Go.Proofs.Ytghhmkiadkagaaa
open Go.RowKit Go.Sort base
theorem or_fin : ∀ x : Fin 5, ∀ c : Fin 16, ∀ j : Fin 16, j.val < 2 ^ x.val → j.val ||| (c.val * 2 ^ x.val) = j.val + c.val * 2 ^ x.val := by decide +kernel
theorem or_told {j c m : Nat} (hj : j < m) (hc : c ≤ 15) (hm : m = 1 ∨ m = 2 ∨ m = 4 ∨ m = 8 ∨ m = 16) : bits .or .i64 (j : Int) ((c * m : Nat) : Int) = ((j + c * m : Nat) : Int) := by
  have hb : c * m ≤ 240 := by
    have := Nat.mul_le_mul hc (show m ≤ 16 by omega)
    omega
  rw [i64_or_nat j (c * m) (by omega) (by omega)]
  congr 1
  rcases hm with rfl | rfl | rfl | rfl | rfl
  · exact or_fin 0 ⟨c, by omega⟩ ⟨j, by omega⟩ hj
  · exact or_fin 1 ⟨c, by omega⟩ ⟨j, by omega⟩ hj
  · exact or_fin 2 ⟨c, by omega⟩ ⟨j, by omega⟩ hj
  · exact or_fin 3 ⟨c, by omega⟩ ⟨j, by omega⟩ hj
  · exact or_fin 4 ⟨c, by omega⟩ ⟨j, by omega⟩ hj
theorem ne_of_ne {v : Value} {g : Nat} (h : v.ownBlock ≠ some g) : v.ownBlock = none ∨ v.ownBlock ≠ some g := .inr h
set_option maxRecDepth 100000 in
set_option maxHeartbeats 4000000 in
theorem embedTable_any (i o : Int) (A : Option Addr) (n c : Nat) (f : List Int) (w : World) (hf : IR w A n f) :
    Calls Try.prog 14 #[.int .i64 i, .int .i64 o, .slice A n c] w (RInts w (tellTable i o f)) := by
  have HF := hide hf
  cases h1 : fnOk i o f
  · have HS := Lib.hid (show tellTable i o f = [] by simp [tellTable, h1])
    have HL := Lib.hid (show embedLines i o f = -1 by simp [embedLines, h1])
    clear hf
    go_enter Try.func14, Try.ntmps14
    go_wp2_with fail
    refine (embedLines_any i o A n c f _ HF.out).mono ?_
    rintro e w1 ⟨rfl, hb1⟩
    rw [HL.out]
    go_wp2_with fail
    go_ret
    exact ⟨⟨_, rfl, by rw [HS.out]; exact Own.nil_ _ _⟩, hb1⟩
  · obtain ⟨m, M, hm, hM, hm0, hm16, hM256, hl16, htold, hdiff⟩ := told_facts h1
    obtain ⟨e1, e2, _, _⟩ := embed_range h1
    obtain ⟨_, ho, _, _⟩ := fnOk_out h1
    have hm5 : m = 1 ∨ m = 2 ∨ m = 4 ∨ m = 8 ∨ m = 16 := by rcases pw_cases ho with ⟨_, e⟩ | ⟨_, e⟩ | ⟨_, e⟩ | ⟨_, e⟩ <;> omega
    obtain ⟨l, hl⟩ := Int.eq_ofNat_of_zero_le (show 0 ≤ embedLines i o f by omega)
    obtain ⟨x, hx⟩ := Int.eq_ofNat_of_zero_le (show 0 ≤ o by simp [in14] at ho; omega)
    have hx4 : x ≤ 4 := by simp [in14] at ho; omega
    have hl8 : l ≤ 8 := by omega
    have eM : (2 : Int) ^ l = (M : Int) := by rw [← hM, hl]; rfl
    have em : (2 : Int) ^ x = (m : Int) := by rw [← hm, hx]; rfl
    have HS := Lib.hid (show tellTable i o f = firsts m f ++ restTo (firsts m f) M by simp [tellTable, h1, hm, hM])
    have HL := Lib.hid hl
    have HTOLD := hide htold
    have hlen := hf.len
    have HLEN := Lib.hid hlen
    have hn16 : n ≤ 16 := by omega
    have hM1 : 1 ≤ M := by
      have : (0 : Int) < 2 ^ l := Int.pow_pos (by omega)
      omega
    obtain ⟨_, _, hat⟩ := hf
    have HAT := hide hat
    subst hx
    have HM5 := hide hm5
    clear h1 htold hdiff e1 e2 ho hl hm hM hl16 hlen hat hm5
    go_enter Try.func14, Try.ntmps14
    go_wp2_with fail
    refine (embedLines_any _ _ A n c f _ HF.out).mono ?_
    rintro e w1 ⟨rfl, hb1⟩
    rw [HL.out]
    have B1 := hide hb1
    have hs1 := hb1.size
    clear hb1
    go_wp2_with (first | (at_make; refine wpList_make0_ints w.heap.size M rfl _ _ rfl rfl _ rfl rfl (by omega) hs1 ?_; intro wa oa ba _; have Ba := hide (B1.out.trans ba); have hsa := Ba.out.size; have OA := hide oa; have hga := (oa.lt _ rfl).2; clear oa ba) | (at_make; refine wpList_make_bools w.heap.size M rfl _ _ rfl _ _ rfl rfl rfl rfl (by omega) hsa ?_; intro wb ob bb gb; have Bb := hide (Ba.out.trans bb); have hsb := Bb.out.size; have OB := hide ob; have OA2 := hide (OA.out.kept gb (by simp [Value.ownBlock])); have hgb := (ob.lt _ rfl).2; clear ob bb gb) | (at_make; refine wpList_make_ints w.heap.size m rfl _ _ rfl _ _ rfl rfl rfl rfl (by omega) hsb ?_; intro wc oc bc gc; have Bc := hide (Bb.out.trans bc); have OC := hide oc; have OB3 := hide (OB.out.kept gc (by simp [Value.ownBlock])); have OA3 := hide (OA2.out.kept gc (by simp [Value.ownBlock])); have hgc := (oc.lt _ rfl).2; clear oc bc gc))
    have hd1 : w1.heap.size < wa.heap.size := hga
    have hd2 : wa.heap.size < wb.heap.size := hgb
    have HNE := hide (show (Value.slice (some ⟨w1.heap.size, 0, none⟩) 0 M).ownBlock ≠ some wa.heap.size ∧ (Value.slice (some ⟨w1.heap.size, 0, none⟩) 0 M).ownBlock ≠ some wb.heap.size ∧ wa.heap.size < wc.heap.size ∧ wb.heap.size < wc.heap.size by simp [Value.ownBlock]; omega)
    have hgg : wa.heap.size ≠ wb.heap.size := by omega
    generalize wa.heap.size = gu at *
    generalize wb.heap.size = gc at *
    clear hga hgb hgc hd1 hd2 hsa hsb
    go_loopw [8, 33] (fun v i wr => ∃ (V : Value) (k : Nat), V = v ∧ k ≤ n ∧ i = .int .i64 k ∧ Hid (Own wr w.heap.size v (tab k (told m f))) ∧ Hid (OwnB wr w.heap.size (.slice (some ⟨gu, 0, none⟩) M M) (hasL M (tab k (told m f)))) ∧ Hid (Own wr w.heap.size (.slice (some ⟨gc, 0, none⟩) m m) (counts m (f.take k))) ∧ Hid (v.ownBlock ≠ some gu ∧ v.ownBlock ≠ some gc ∧ gu < wr.heap.size ∧ gc < wr.heap.size) ∧ Hid (Below w.heap.size w wr)) (fun _ i _ => n - (intOf i).toNat)
    case atStart => exact ⟨_, 0, rfl, by omega, rfl, OA3.out, by rw [tab_zero, hasL_nil]; exact OB3.out, by rw [List.take_zero, counts_nil]; exact OC.out, HNE.out, Bc.out⟩
    case round =>
      obtain ⟨V, k, rfl, hk, rfl, HV, HU, HC, HN, HB⟩ := hrel
      by_cases hlt : k < n
      · obtain ⟨j, c2, hj, hjm, hc, ht, htM, hc15⟩ := HTOLD.out k (by rw [HLEN.out]; exact hlt)
        obtain ⟨b1, o1, rfl, hbl1, hc1⟩ := HAT.out (by omega)
        have g1 : wr.cell? ⟨b1, o1 + k, none⟩ = some (.int .i64 (nth f k)) := (HB.out.cell (p := ⟨b1, o1 + k, none⟩) hbl1).trans (hc1 k hlt)
        rw [hj] at g1
        have g2 := HC.out.cellAt (counts_len _ _) j hjm
        rw [nth_counts _ hjm, hc] at g2
        have g3 := HC.out.frozenAt (counts_len _ _) j
        obtain ⟨P, hP⟩ : ∃ P : Nat, P = c2 * m := ⟨_, rfl⟩
        obtain ⟨t, ht2⟩ : ∃ t : Nat, t = j + c2 * m := ⟨_, rfl⟩
        have ec : (c2 : Int) * (m : Int) = (P : Int) := by rw [hP]; omega
        have hP240 : P ≤ 240 := by rw [hP]; have := Nat.mul_le_mul hc15 hm16; omega
        have eo := or_told hjm hc15 HM5.out
        rw [← ht2, ← hP] at eo
        rw [← ht2] at ht htM
        have g4 := HU.out.cellAt (hasL_len _ _) t htM
        have g5 := HU.out.frozenAt (hasL_len _ _) t
        have hs := HB.out.size
        have sc := HC.out.stored (counts_len _ _) j ((c2 : Int) + 1)
        have U1 := HU.out.kept sc.2 (.inr (by simp [Value.ownBlock]; exact hgg))
        have V1 := HV.out.kept sc.2 (ne_of_ne HN.out.2.1)
        have su := U1.stored (hasL_len _ _) t true
        have V2 := V1.kept su.2 (ne_of_ne HN.out.1)
        have C2 := sc.1.kept su.2 (.inr (by simp [Value.ownBlock]; exact fun e => hgg e.symm))
        have es : (counts m (f.take k)).set j ((c2 : Int) + 1) = counts m (f.take (k + 1)) := by
          rw [take_succ_nth (by rw [HLEN.out]; exact hlt), hj, ← hc, counts_snoc _ _ _ hjm]
        rw [es] at C2
        have eu : (hasL M (tab k (told m f))).set t true = hasL M (tab (k + 1) (told m f)) := by rw [tab_succ, ht, hasL_snoc]
        have SU := hide su.1
        rw [eu] at SU
        have CC := hide C2
        have VV := hide V2
        have B2 := hide (show Below w.heap.size w ((wr.setCell ⟨gc, j, none⟩ (.int .i64 ((c2 : Int) + 1))).setCell ⟨gu, t, none⟩ (.bool true)) from (HB.out.setCell (HC.out.lt gc rfl).1 _).setCell (HU.out.lt gu rfl).1 _)
        have HTS := Lib.hid ht
        have hsz : ((wr.setCell ⟨gc, j, none⟩ (.int .i64 ((c2 : Int) + 1))).setCell ⟨gu, t, none⟩ (.bool true)).heap.size = wr.heap.size := by simp [World.setCell]
        have HSZ := Lib.hid hsz
        have hs2 : w.heap.size ≤ ((wr.setCell ⟨gc, j, none⟩ (.int .i64 ((c2 : Int) + 1))).setCell ⟨gu, t, none⟩ (.bool true)).heap.size := by rw [hsz]; exact hs
        have HS2 := hide hs2
        clear hsz hs2 sc U1 V1 su V2 C2 es eu hc1 hj hc hP ht2 ht
        go_wp2_with (at_builtin; refine wpList_append1 VV.out (.tmp 54) (.tmp 56) (by rfl) rfl rfl (by rw [HSZ.out]; rfl) (by rw [tab_len]; omega) HS2.out ?_; intro v3 w3 ho3 hb3 hg3 hat3)
        have N3 := hide (show v3.ownBlock ≠ some gu ∧ v3.ownBlock ≠ some gc ∧ gu < w3.heap.size ∧ gc < w3.heap.size by
          have h3 := hg3.size
          rw [HSZ.out] at h3
          have hn := HN.out
          refine ⟨?_, ?_, by omega, by omega⟩
          · rcases hat3 with e | ⟨g, e, hg⟩
            · rw [e]; exact hn.1
            · rw [HSZ.out] at hg; rw [e]; simp; omega
          · rcases hat3 with e | ⟨g, e, hg⟩
            · rw [e]; exact hn.2.1
            · rw [HSZ.out] at hg; rw [e]; simp; omega)
        have U3 := hide (SU.out.kept hg3 (.inr (by simp [Value.ownBlock]; exact fun e => HN.out.1 e.symm)))
        have C3 := hide (CC.out.kept hg3 (.inr (by simp [Value.ownBlock]; exact fun e => HN.out.2.1 e.symm)))
        have B3 := hide (B2.out.trans hb3)
        have V3 := hide ho3
        clear ho3 hb3 hg3 hat3
        go_roundw
        case rel => exact ⟨_, k + 1, rfl, by omega, by go_num, by rw [tab_succ, HTS.out]; exact V3.out, U3.out, C3.out, N3.out, B3.out⟩
        case measure => simp [intOf]; omega
      · obtain rfl : k = n := by omega
        have ef : tab k (told m f) = firsts m f := by unfold firsts; rw [HLEN.out]
        rw [ef] at HV HU
        clear ef HC
        go_wp2_with fail
        go_loopw [8, 61] (fun v i w4 => ∃ (V : Value) (r : Nat), V = v ∧ r ≤ M ∧ i = .int .i64 r ∧ Hid (Own w4 w.heap.size v (firsts m f ++ restTo (firsts m f) r)) ∧ Hid (OwnB w4 w.heap.size (.slice (some ⟨gu, 0, none⟩) M M) (hasL M (firsts m f))) ∧ Hid (v.ownBlock ≠ some gu ∧ gu < w4.heap.size) ∧ Hid (Below w.heap.size w w4) ∧ Hid ((restTo (firsts m f) r).length ≤ r)) (fun _ i _ => M - (intOf i).toNat)
        case atStart => exact ⟨_, 0, rfl, by omega, rfl, by rw [restTo, List.append_nil]; exact HV.out, HU.out, ⟨HN.out.1, HN.out.2.2.1⟩, HB.out, Nat.le_refl _⟩
        case round =>
          obtain ⟨V, r, rfl, hr, rfl, HV, HU, HN, HB, HRL⟩ := hrel
          by_cases hlr : r < M
          · have g1 := HU.out.cellAt (hasL_len _ _) r hlr
            rw [hasL_nth _ hlr] at g1
            have hs := HB.out.size
            have hFL := Lib.hid (show (firsts m f).length = k by unfold firsts; rw [tab_len, HLEN.out])
            cases hq : hasQ (firsts m f) (r : Int)
            · have HT := Lib.hid (show restTo (firsts m f) (r + 1) = restTo (firsts m f) r ++ [(r : Int)] by rw [restTo, hq]; rfl)
              rw [hq] at g1
              clear hq
              go_wp2_with (at_builtin; refine wpList_append1 HV.out (.tmp 68) (.tmp 70) (by rfl) rfl rfl rfl (by rw [List.length_append, hFL.out]; have := HRL.out; omega) hs ?_; intro v3 w3 ho3 hb3 hg3 hat3)
              have N3 := hide (show v3.ownBlock ≠ some gu ∧ gu < w3.heap.size by
                have h3 := hg3.size
                have hn := HN.out
                refine ⟨?_, by omega⟩
                rcases hat3 with e | ⟨g, e, hg⟩
                · rw [e]; exact hn.1
                · rw [e]; simp; omega)
              have U3 := hide (HU.out.kept hg3 (.inr (by simp [Value.ownBlock]; exact fun e => HN.out.1 e.symm)))
              have B3 := hide (HB.out.trans hb3)
              have V3 := hide ho3
              clear ho3 hb3 hg3 hat3
              go_roundw
              case rel => exact ⟨_, r + 1, rfl, by omega, by go_num, by rw [HT.out, ← List.append_assoc]; exact V3.out, U3.out, N3.out, B3.out, by rw [HT.out, List.length_append]; have := HRL.out; simp; omega⟩
              case measure => simp [intOf]; omega
            · have HT := Lib.hid (show restTo (firsts m f) (r + 1) = restTo (firsts m f) r by rw [restTo, hq]; simp)
              rw [hq] at g1
              clear hq
              go_wp2_with fail
              go_roundw
              case rel => exact ⟨_, r + 1, rfl, by omega, by go_num, by rw [HT.out]; exact HV.out, HU.out, HN.out, HB.out, by rw [HT.out]; exact Nat.le_succ_of_le HRL.out⟩
              case measure => simp [intOf]; omega
          · obtain rfl : r = M := by omega
            go_wp2_with fail
            go_ret
            exact ⟨⟨_, rfl, by rw [HS.out]; exact HV.out⟩, HB.out⟩
end Go.Proofs.Ytghhmkiadkagaaa
