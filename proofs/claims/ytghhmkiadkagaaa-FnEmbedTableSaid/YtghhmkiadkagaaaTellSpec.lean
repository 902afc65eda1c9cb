/-
  EmbedTable of the reference.
  No condition.
-/
import Derived.Test.YtghhmkiadkagaaaTell
namespace Go.Proofs.Ytghhmkiadkagaaa
open Go.RowKit Go.Sort base
def lenOf : Value → Nat
  | .slice _ n _ => n
  | _ => 0
theorem Own.lenOf {w : World} {base : Nat} {v : Value} {zs : List Int} (h : Own w base v zs) : lenOf v = zs.length := by
  obtain ⟨A, c, rfl, _⟩ := h.slice
  rfl
theorem restTo_pre (fs : List Int) (r : Nat) : ∀ d, ∃ l, restTo fs (r + d) = restTo fs r ++ l
  | 0 => ⟨[], by simp⟩
  | d + 1 => by
    obtain ⟨l, hl⟩ := restTo_pre fs r d
    exact ⟨l ++ (if hasQ fs ((r + d : Nat) : Int) then [] else [((r + d : Nat) : Int)]), by rw [← Nat.add_assoc, restTo, hl, List.append_assoc]⟩
theorem restTo_same {fs : List Int} {r : Nat} : ∀ {s : Nat}, r ≤ s → (∀ x : Nat, r ≤ x → x < s → hasQ fs (x : Int) = true) → restTo fs s = restTo fs r
  | 0, h, _ => by obtain rfl : r = 0 := by omega
                  rfl
  | s + 1, h, hx => by
    by_cases e : r = s + 1
    · rw [e]
    · rw [restTo, hx s (by omega) (by omega), restTo_same (s := s) (by omega) (fun x h1 h2 => hx x h1 (by omega))]; simp
theorem hasT {fs : List Int} {r x : Nat} (hx : r ≤ x) : hasQ (fs ++ restTo fs r) (x : Int) = hasQ fs (x : Int) := by
  cases h : hasQ fs (x : Int)
  · rw [hasQ_no, List.mem_append]
    rw [hasQ_no] at h
    rintro (h1 | h1)
    · exact h h1
    · have := (restTo_mem.1 h1).2.1; omega
  · rw [hasQ_iff, List.mem_append]
    exact .inl (hasQ_iff.1 h)
theorem hasT_low {fs : List Int} {r x : Nat} (hx : x < r) : hasQ (fs ++ restTo fs r) (x : Int) = true := by
  rw [hasQ_iff, List.mem_append]
  by_cases h : (x : Int) ∈ fs
  · exact .inl h
  · exact .inr (restTo_mem.2 ⟨by omega, by omega, h⟩)
/-- a step of the fill: the first word that is not there -/
theorem fill_step {fs : List Int} {r q : Nat} (hall : ∀ x : Nat, x < q → hasQ (fs ++ restTo fs r) (x : Int) = true) (hno : hasQ (fs ++ restTo fs r) (q : Int) = false) :
    restTo fs (q + 1) = restTo fs r ++ [(q : Int)] := by
  have hr : r ≤ q := by
    rcases Nat.lt_or_ge q r with h | h
    · rw [hasT_low h] at hno; cases hno
    · exact h
  rw [restTo, restTo_same hr fun x h1 h2 => by rw [← hasT h1]; exact hall x h2, ← hasT hr, hno]
  rfl
/-- while there is less than the whole, a word below M is not there -/
theorem fill_more {fs : List Int} {r M : Nat} (hw : fs.length + (restTo fs M).length = M) (hr : r ≤ M) (hl : (fs ++ restTo fs r).length < M) : ¬ ∀ x : Nat, x < M → hasQ (fs ++ restTo fs r) (x : Int) = true := by
  intro h
  have := restTo_same hr fun x h1 h2 => by rw [← hasT h1]; exact h x h2
  rw [List.length_append, ← this] at hl
  omega
theorem fill_end {fs : List Int} {r M : Nat} (hw : fs.length + (restTo fs M).length = M) (hr : r ≤ M) (hl : ¬ (fs ++ restTo fs r).length < M) : restTo fs r = restTo fs M := by
  obtain ⟨l, h⟩ := restTo_pre fs r (M - r)
  rw [show r + (M - r) = M by omega] at h
  have h2 := congrArg List.length h
  rw [List.length_append] at h2 hl
  have : l = [] := List.eq_nil_of_length_eq_zero (by omega)
  rw [h, this, List.append_nil]
theorem fill_le {fs : List Int} {r M : Nat} (hw : fs.length + (restTo fs M).length = M) (hr : r ≤ M) : (fs ++ restTo fs r).length ≤ M := by
  obtain ⟨l, h⟩ := restTo_pre fs r (M - r)
  rw [show r + (M - r) = M by omega] at h
  have h2 := congrArg List.length h
  rw [List.length_append] at h2 ⊢
  omega
theorem firsts_whole {m M : Nat} {f : List Int} (htold : ∀ k, k < f.length → ∃ (j c : Nat), nth f k = (j : Int) ∧ j < m ∧ cnt (f.take k) (j : Int) = (c : Int) ∧ told m f k = ((j + c * m : Nat) : Int) ∧ j + c * m < M ∧ c ≤ 15)
    (hdiff : ∀ k1 k2, k1 < k2 → k2 < f.length → told m f k1 ≠ told m f k2) : (firsts m f).length + (restTo (firsts m f) M).length = M := by
  refine whole_len (fun x hx => ?_) fun x => ?_
  · simp only [firsts, tab, List.mem_map, List.mem_range] at hx
    obtain ⟨k, hk, rfl⟩ := hx
    obtain ⟨j, c, _, _, _, e, h, _⟩ := htold k hk
    omega
  · have hn : (firsts m f).Nodup := by
      simp only [firsts, tab, List.Nodup, List.pairwise_map]
      refine List.Pairwise.imp_of_mem (R := fun a b => a < b) ?_ List.pairwise_lt_range
      intro a b _ hb hab
      exact hdiff a b hab (List.mem_range.1 hb)
    have := List.nodup_iff_count.1 hn x
    unfold cnt
    omega
theorem tellTable_whole {i o : Int} {f : List Int} (h : fnOk i o f = true) : ∃ M : Nat, pw (embedLines i o f) = (M : Int) ∧ M ≤ 256 ∧ (tellTable i o f).length = M := by
  obtain ⟨m, M, hm, hM, _, _, h3, _, htold, hdiff⟩ := told_facts h
  have := firsts_whole htold hdiff
  refine ⟨M, hM, h3, ?_⟩
  simp [tellTable, h, hm, hM, this]
theorem tellTable_len (i o : Int) (f : List Int) : (tellTable i o f).length ≤ 4000000 := by
  cases h : fnOk i o f
  · simp [tellTable, h]
  · obtain ⟨M, _, h1, h2⟩ := tellTable_whole h
    omega
set_option maxRecDepth 100000 in
set_option maxHeartbeats 4000000 in
theorem sEmbedTable_any (i o : Int) (A : Option Addr) (n c : Nat) (f : List Int) (w : World) (hf : IR w A n f) :
    Calls Try.prog 16 #[.int .i64 i, .int .i64 o, .slice A n c] w (RInts w (tellTable i o f)) := by
  have hbn : Below w.heap.size w (w.alloc (.cells #[] 3)) := (Below.refl _ w).alloc (Nat.le_refl _) _
  have HON := hide (Own.nil0 w w.heap.size (Nat.le_refl _))
  have HBN := hide hbn
  have HF1 := hide (hf.below hbn)
  clear hbn
  cases h1 : fnOk i o f
  · have HS := Lib.hid (show tellTable i o f = [] by simp [tellTable, h1])
    have HL := Lib.hid (show embedLines i o f = -1 by simp [embedLines, h1])
    clear hf
    go_enter Try.func16, Try.ntmps16
    go_wp2_with fail
    refine (sEmbedLines_any i o A n c f _ HF1.out).mono ?_
    rintro e w' ⟨rfl, rfl⟩
    rw [HL.out]
    go_wp2_with fail
    go_ret
    exact ⟨⟨_, rfl, by rw [HS.out]; exact HON.out⟩, HBN.out⟩
  · obtain ⟨m, M, hm, hM, hm0, hm16, hM256, hl16, htold, hdiff⟩ := told_facts h1
    obtain ⟨e1, e2, _, _⟩ := embed_range h1
    obtain ⟨_, ho, _, _⟩ := fnOk_out h1
    obtain ⟨l, hl⟩ := Int.eq_ofNat_of_zero_le (show 0 ≤ embedLines i o f by omega)
    obtain ⟨x, hx⟩ := Int.eq_ofNat_of_zero_le (show 0 ≤ o by simp [in14] at ho; omega)
    have hx4 : x ≤ 4 := by simp [in14] at ho; omega
    have hl8 : l ≤ 8 := by omega
    have eM : (2 : Int) ^ l = (M : Int) := by rw [← hM, hl]; rfl
    have em : (2 : Int) ^ x = (m : Int) := by rw [← hm, hx]; rfl
    have HS := Lib.hid (show tellTable i o f = firsts m f ++ restTo (firsts m f) M by simp [tellTable, h1, hm, hM])
    have HL := Lib.hid hl
    have HTOLD := hide htold
    have HW := Lib.hid (firsts_whole htold hdiff)
    have hlen := hf.len
    have HLEN := Lib.hid hlen
    have hn16 : n ≤ 16 := by omega
    obtain ⟨_, _, hat⟩ := hf
    have HAT := hide hat
    subst hx
    clear h1 htold hdiff e1 e2 ho hl hm hM hl16 hlen hat
    go_enter Try.func16, Try.ntmps16
    go_wp2_with fail
    refine (sEmbedLines_any _ _ A n c f _ HF1.out).mono ?_
    rintro e w' ⟨rfl, rfl⟩
    rw [HL.out]
    go_wp2_with fail
    go_loopw [7, 9] (fun v i wr => ∃ (V : Value) (k : Nat), V = v ∧ k ≤ n ∧ i = .int .i64 k ∧ Hid (Own wr w.heap.size v (tab k (told m f))) ∧ Hid (Below w.heap.size w wr)) (fun _ i _ => n - (intOf i).toNat)
    case atStart => exact ⟨_, 0, rfl, by omega, rfl, HON.out, HBN.out⟩
    case round =>
      obtain ⟨V, k, rfl, hk, rfl, HV, HB⟩ := hrel
      by_cases hlt : k < n
      · obtain ⟨j, c2, hj, hjm, hc, ht, htM, hc15⟩ := HTOLD.out k (by rw [HLEN.out]; exact hlt)
        obtain ⟨b1, o1, rfl, hbl1, hc1⟩ := HAT.out (by omega)
        have HC1 := hide hc1
        have HK := hide (hj ▸ hc1 k hlt : w.cell? ⟨b1, o1 + k, none⟩ = some (.int .i64 (j : Int)))
        have HCC := Lib.hid hc
        obtain ⟨P, hP⟩ : ∃ P : Nat, P = c2 * m := ⟨_, rfl⟩
        have ec : (c2 : Int) * (m : Int) = (P : Int) := by rw [hP]; omega
        have hP240 : P ≤ 240 := by rw [hP]; have := Nat.mul_le_mul hc15 hm16; omega
        have HT := Lib.hid (show told m f k = (j : Int) + (P : Int) by rw [ht, hP]; omega)
        clear hc1 hj hc ht htM hP
        go_wp2_with fail
        go_loopw [10, 11] (fun s i wr => ∃ t : Nat, t ≤ k ∧ i = .int .i64 t ∧ s = .int .i64 (cnt (f.take t) (j : Int)) ∧ Hid (Own wr w.heap.size V (tab k (told m f))) ∧ Hid (Below w.heap.size w wr)) (fun _ i _ => k - (intOf i).toNat)
        case atStart => exact ⟨0, by omega, rfl, rfl, HV.out, HB.out⟩
        case round =>
          obtain ⟨t, ht, rfl, rfl, HV, HB⟩ := hrel
          have g1 : wr.cell? ⟨b1, o1 + k, none⟩ = some (.int .i64 (j : Int)) := (HB.out.cell (p := ⟨b1, o1 + k, none⟩) hbl1).trans HK.out
          by_cases hlt2 : t < k
          · have g2 : wr.cell? ⟨b1, o1 + t, none⟩ = some (.int .i64 (nth f t)) := (HB.out.cell (p := ⟨b1, o1 + t, none⟩) hbl1).trans (HC1.out t (by omega))
            obtain ⟨q1, q2⟩ := cnt_le (f.take t) (j : Int)
            have q3 : (f.take t).length ≤ 1000 := by simp; omega
            have HT2 := Lib.hid (show cnt (f.take (t + 1)) (j : Int) = cnt (f.take t) (j : Int) + if nth f t = (j : Int) then 1 else 0 by rw [take_succ_nth (by rw [HLEN.out]; omega), cnt_snoc])
            by_cases he : nth f t = (j : Int)
            · have e1 : (nth f t == (j : Int)) = true := by simpa using he
              have HE := Lib.hid he
              clear he
              go_wp2_with fail
              go_quiet (fail)
              go_wp2_with fail
              go_roundw
              case rel => exact ⟨t + 1, by omega, by go_num, by rw [HT2.out, if_pos HE.out], HV.out.drewN _, below_drewN HB.out _⟩
              case measure => simp [intOf]; omega
            · have e1 : (nth f t == (j : Int)) = false := by simpa using he
              have HE := Lib.hid he
              clear he
              go_wp2_with fail
              go_quiet (fail)
              go_wp2_with fail
              go_roundw
              case rel => exact ⟨t + 1, by omega, by go_num, by rw [HT2.out, if_neg HE.out]; simp, HV.out.drewN _, below_drewN HB.out _⟩
              case measure => simp [intOf]; omega
          · obtain rfl : t = k := by omega
            rw [HCC.out]
            go_wp2_with fail
            refine wp_region_drew_tail1 9 V (by kernel_rfl) (by kernel_rfl) (fun _ _ _ h => h) rfl (.tmp 7) rfl rfl ?_
            simp only [List.take_succ_cons, List.take_zero, List.drop_succ_cons, List.drop_zero, Act.put, List.setIfInBounds_toArray, List.set_cons_succ, List.set_cons_zero]
            repeat (go_big_quiet_step ((fail)))
            refine wpQuiet_nil ?_
            intro wd hwd
            obtain ⟨q, hq⟩ := hwd
            have HD := hide (show Own wd w.heap.size V (tab t (told m f)) by rw [hq]; exact HV.out)
            have HE := hide (show Below w.heap.size w wd by rw [hq]; exact below_drewN HB.out q)
            have hsd : w.heap.size ≤ wd.heap.size := HE.out.size
            clear hq
            go_wp2_with (at_builtin; refine wpList_append1 HD.out (.tmp 43) (.tmp 52) (by rfl) rfl rfl rfl (by rw [tab_len]; omega) hsd ?_; intro v2 w2 ho2 hb2 _ _)
            go_roundw
            case rel => exact ⟨_, t + 1, rfl, by omega, by go_num, by rw [tab_succ, HT.out]; exact ho2, HE.out.trans hb2⟩
            case measure => simp [intOf]; omega
      · obtain rfl : k = n := by omega
        have ef : tab k (told m f) = firsts m f := by unfold firsts; rw [HLEN.out]
        rw [ef] at HV
        obtain ⟨A0, c0, rfl, _⟩ := HV.out.slice
        clear ef
        go_wp2_with fail
        go_loopw [7, 12] (fun v i w4 => ∃ (A : Option Addr) (L c r q : Nat), v = .slice A L c ∧ q ≤ M ∧ r ≤ M ∧ L ≤ M ∧ i = .int .i64 q ∧ Hid (Own w4 w.heap.size v (firsts m f ++ restTo (firsts m f) r)) ∧ Hid (L = (firsts m f ++ restTo (firsts m f) r).length) ∧ Hid (∀ x : Nat, x < q → hasQ (firsts m f ++ restTo (firsts m f) r) (x : Int) = true) ∧ Hid (Below w.heap.size w w4)) (fun v _ _ => M - lenOf v)
        case atStart => exact ⟨A0, _, c0, 0, 0, rfl, by omega, by omega, by have := fill_le HW.out (Nat.zero_le M); rw [restTo, List.append_nil] at this; exact this, rfl, by rw [restTo, List.append_nil]; exact HV.out, by rw [restTo, List.append_nil]; rfl, fun x hx => absurd hx (by omega), HB.out⟩
        case round =>
          obtain ⟨A2, L, c2, r, q, rfl, hq, hr, hL, rfl, HV, HLL, HQ, HB⟩ := hrel
          by_cases hlr : L < M
          · go_wp2_with fail
            go_loop [12] (fun i => ∃ q : Nat, q ≤ M ∧ i = .int .i64 q ∧ Hid (∀ x : Nat, x < q → hasQ (firsts m f ++ restTo (firsts m f) r) (x : Int) = true)) (fun i => M - (intOf i).toNat)
            case atStart => exact ⟨q, hq, rfl, HQ.out⟩
            case round =>
              obtain ⟨q, hq, rfl, HQ⟩ := hrel
              have hqM : q < M := by
                rcases Nat.lt_or_ge q M with h | h
                · exact h
                · exact absurd (fun x hx => HQ.out x (by omega)) (fill_more HW.out hr (HLL.out ▸ hlr))
              cases hh : hasQ (firsts m f ++ restTo (firsts m f) r) (q : Int)
              · have HH := Lib.hid (fill_step HQ.out hh)
                have HH0 := Lib.hid hh
                clear hh
                go_wp2_with fail
                refine (l1Has_b false A2 L c2 _ _ _ HV.out.ir HH0.out).mono ?_
                rintro e w' ⟨rfl, rfl⟩
                have hs := HB.out.size
                go_wp2_with (at_builtin; refine wpList_append1 HV.out (.tmp 64) (.tmp 66) (by rfl) rfl rfl rfl (by rw [← HLL.out]; omega) hs ?_; intro v3 w3 ho3 hb3 hg3 hat3)
                have V3 := hide (show Own w3 w.heap.size v3 (firsts m f ++ restTo (firsts m f) (q + 1)) by rw [HH.out, ← List.append_assoc]; exact ho3)
                have B3 := hide (HB.out.trans hb3)
                have LE := Lib.hid (show (firsts m f ++ restTo (firsts m f) (q + 1)).length = L + 1 by rw [HH.out, ← List.append_assoc, List.length_append, ← HLL.out]; rfl)
                have HQ3 := hide (show ∀ x : Nat, x < q → hasQ (firsts m f ++ restTo (firsts m f) (q + 1)) (x : Int) = true from fun x hx => hasT_low (by omega))
                obtain ⟨A3, c3, e3, _⟩ := V3.out.slice
                have E3 := Lib.hid e3
                clear ho3 hb3 hg3 hat3 e3
                go_roundw
                case rel => exact ⟨A3, _, c3, q + 1, q, E3.out, by omega, by omega, by rw [LE.out]; omega, rfl, V3.out, rfl, HQ3.out, B3.out⟩
                case measure =>
                  have h7 := V3.out.lenOf
                  rw [LE.out] at h7
                  simp only [lenOf] at h7 ⊢
                  simp [h7]; omega
              · have HQ2 := hide (show ∀ x : Nat, x < q + 1 → hasQ (firsts m f ++ restTo (firsts m f) r) (x : Int) = true from fun x hx => by
                  by_cases e : x = q
                  · rw [e]; exact hh
                  · exact HQ.out x (by omega))
                have HH0 := Lib.hid hh
                clear hh
                go_wp2_with fail
                refine (l1Has_b true A2 L c2 _ _ _ HV.out.ir HH0.out).mono ?_
                rintro e w' ⟨rfl, rfl⟩
                go_wp2_with fail
                go_round
                case rel => exact ⟨q + 1, by omega, by go_num, HQ2.out⟩
                case measure => simp [intOf]; omega
          · have HEND := Lib.hid (fill_end HW.out hr (by rw [← HLL.out]; exact hlr))
            go_wp2_with fail
            go_ret
            exact ⟨⟨_, rfl, by rw [HS.out, ← HEND.out]; exact HV.out⟩, HB.out⟩
end Go.Proofs.Ytghhmkiadkagaaa
