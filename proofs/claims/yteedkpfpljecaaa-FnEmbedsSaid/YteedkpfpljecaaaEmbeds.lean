/-
  Whether a table tells a function: Embeds of the program and of the reference.
  No condition.
-/
import Derived.Test.YteedkpfpljecaaaTable
import Derived.Test.YteedkpfpljecaaaThen
import Derived.Lib.MinMax
namespace Go.Proofs.Yteedkpfpljecaaa
open Go.RowKit Go.Sort base
def embAt (t : List Int) (o : Int) (f : List Int) (k : Nat) : Bool := nth t k % pw o == nth f k
def embL (t : List Int) (o : Int) (f : List Int) : Bool := (List.range f.length).all fun k => embAt t o f k
theorem embL_iff {t : List Int} {o : Int} {f : List Int} : embL t o f = true ↔ ∀ k, k < f.length → embAt t o f k = true := by simp [embL]
def embeds (l : Int) (t : List Int) (i o : Int) (f : List Int) : Bool := tableOk l t && fnOk i o f && (decide (i ≤ l) && decide (o ≤ l)) && embL t o f
theorem tableOk_out {l : Int} {t : List Int} (h : tableOk l t = true) : lnOk l = true ∧ (t.length : Int) = pw l ∧ goodL t = true := by
  simpa [tableOk, and_assoc] using h
theorem table_elem {l : Int} {t : List Int} (h : tableOk l t = true) {k : Nat} (hk : k < t.length) : 0 ≤ nth t k ∧ nth t k < 256 := by
  obtain ⟨h1, h2, h3⟩ := tableOk_out h
  have := goodL_iff.1 h3 k hk
  simp only [goodAt, Bool.and_eq_true, decide_eq_true_eq] at this
  rcases pw_pos_cases h1 with ⟨_, e⟩ | ⟨_, e⟩ | ⟨_, e⟩ | ⟨_, e⟩ | ⟨_, e⟩ | ⟨_, e⟩ | ⟨_, e⟩ | ⟨_, e⟩ <;> omega
theorem emb_len {l i o : Int} {t f : List Int} (h1 : tableOk l t = true) (h2 : fnOk i o f = true) (hl : i ≤ l) : f.length ≤ t.length := by
  obtain ⟨a1, a2, _⟩ := tableOk_out h1
  obtain ⟨b1, _, b2, _⟩ := fnOk_out h2
  rcases pw_cases b1 with ⟨_, e⟩ | ⟨_, e⟩ | ⟨_, e⟩ | ⟨_, e⟩ <;> rcases pw_pos_cases a1 with ⟨_, e'⟩ | ⟨_, e'⟩ | ⟨_, e'⟩ | ⟨_, e'⟩ | ⟨_, e'⟩ | ⟨_, e'⟩ | ⟨_, e'⟩ | ⟨_, e'⟩ <;> omega
theorem and_mask (x : Int) (h : 0 ≤ x ∧ x < 9223372036854775808) (k : Nat) (hk : k ≤ 8) : bits .and .i64 x ((2 ^ k - 1 : Nat) : Int) = x % ((2 ^ k : Nat) : Int) := by
  obtain ⟨a, rfl⟩ := Int.eq_ofNat_of_zero_le h.1
  have h2 : (2 : Nat) ^ k ≤ 2 ^ 8 := Nat.pow_le_pow_right (by omega) hk
  rw [i64_and_nat a (2 ^ k - 1) (by omega) (by omega), Nat.and_two_pow_sub_one_eq_mod]
  omega
set_option maxHeartbeats 2000000 in
theorem embeds_any (l : Int) (A : Option Addr) (n c : Nat) (t : List Int) (i o : Int) (B : Option Addr) (m d : Nat) (f : List Int) (w : World) (ht : IR w A n t) (hf : IR w B m f) :
    Calls Try.prog 17 #[.int .i64 l, .slice A n c, .int .i64 i, .int .i64 o, .slice B m d] w fun e w' => e = .returned (.bool (embeds l t i o f)) ∧ Below w.heap.size w w' := by
  have HT := hide ht
  have HF := hide hf
  have hlt' := ht.len
  have hlf := hf.len
  cases h1 : tableOk l t
  · have HS := Lib.hid (show embeds l t i o f = false by simp [embeds, h1])
    have H1 := Lib.hid h1
    clear ht hf h1
    go_enter Try.func17, Try.ntmps17
    go_wp2_with fail
    refine (tableValid_any l A n c t _ HT.out).mono ?_
    rintro e w1 ⟨rfl, hb1⟩
    rw [H1.out]
    go_wp2_with fail
    go_ret
    exact ⟨by rw [HS.out]; rfl, hb1⟩
  · cases h2 : fnOk i o f
    · have HS := Lib.hid (show embeds l t i o f = false by simp [embeds, h2])
      have H1 := Lib.hid h1
      clear ht hf h1
      go_enter Try.func17, Try.ntmps17
      go_wp2_with fail
      refine (tableValid_any l A n c t _ HT.out).mono ?_
      rintro e w1 ⟨rfl, hb1⟩
      rw [H1.out]
      have B1 := hide hb1
      clear hb1
      go_wp2_with fail
      refine (funcValid_b false i o B m d f _ (HF.out.below B1.out) h2).mono ?_
      rintro e w2 ⟨rfl, hb2⟩
      go_wp2_with fail
      go_ret
      exact ⟨by rw [HS.out]; rfl, bseq B1.out hb2⟩
    · have hio : 1 ≤ i ∧ i ≤ 4 ∧ 1 ≤ o ∧ o ≤ 4 := by
        obtain ⟨hi, ho, _⟩ := fnOk_out h2
        simp only [in14, Bool.and_eq_true, decide_eq_true_eq] at hi ho
        omega
      by_cases h3 : i ≤ l ∧ o ≤ l
      · have HS := Lib.hid (show embeds l t i o f = embL t o f by simp [embeds, h1, h2, h3.1, h3.2])
        have hnm : m ≤ n := by have := emb_len h1 h2 h3.1; omega
        have h3' : max i o ≤ l := by omega
        have H1 := Lib.hid h1
        have HE := hide (show ∀ k, k < n → 0 ≤ nth t k ∧ nth t k < 256 from fun k hk => table_elem h1 (by omega))
        have HV := hide h2
        have HLF := Lib.hid hlf
        have hm16 : m ≤ 16 := by have := fnOk_len h2; omega
        obtain ⟨hlen, hmax, hta⟩ := ht
        obtain ⟨_, hm2, htb⟩ := hf
        clear h1 hlen hlt' hlf h2
        obtain ⟨i1, i2, i3, i4⟩ := hio
        obtain ⟨h31, h32⟩ := h3
        rcases (show o = 1 ∨ o = 2 ∨ o = 3 ∨ o = 4 by omega) with rfl | rfl | rfl | rfl
        · go_enter Try.func17, Try.ntmps17
          go_wp2_with fail
          refine (tableValid_any l A n c t _ HT.out).mono ?_
          rintro e w1 ⟨rfl, hb1⟩
          rw [H1.out]
          have B1 := hide hb1
          clear hb1
          go_wp2_with fail
          refine (funcValid_b true i 1 B m d f _ (HF.out.below B1.out) HV.out).mono ?_
          rintro e w2 ⟨rfl, hb2⟩
          have B2 := hide (bseq B1.out hb2)
          clear hb2
          go_wp2_with fail
          go_loopw [33] (fun j wr => ∃ k : Nat, k ≤ m ∧ j = .int .i64 k ∧ Hid (∀ j, j < k → embAt t 1 f j = true) ∧ Hid (Below w.heap.size w wr)) (fun j _ => m - (intOf j).toNat)
          case atStart => exact ⟨0, by omega, rfl, fun j hj => absurd hj (by omega), B2.out⟩
          case round =>
            obtain ⟨k, hk, rfl, HG, HB⟩ := hrel
            by_cases hlt : k < m
            · obtain ⟨b1, o1, rfl, hbl1, hc1⟩ := hta (by omega)
              obtain ⟨b2, o2, rfl, hbl2, hc2⟩ := htb (by omega)
              have g1 : wr.cell? ⟨b1, o1 + k, none⟩ = some (.int .i64 (nth t k)) := (HB.out.cell (p := ⟨b1, o1 + k, none⟩) hbl1).trans (hc1 k (by omega))
              have g2 : wr.cell? ⟨b2, o2 + k, none⟩ = some (.int .i64 (nth f k)) := (HB.out.cell (p := ⟨b2, o2 + k, none⟩) hbl2).trans (hc2 k hlt)
              have hmask : bits .and .i64 (nth t k) 1 = nth t k % 2 := by have h := HE.out k (by omega); exact and_mask _ ⟨h.1, by omega⟩ 1 (by omega)
              clear hc1 hc2 hta htb
              cases hp : embAt t 1 f k
              · have HQ := Lib.hid (show embL t 1 f = false by
                  cases hgg : embL t 1 f
                  · rfl
                  · have := embL_iff.1 hgg k (by rw [HLF.out]; exact hlt)
                    rw [hp] at this; cases this)
                have e1 : (nth t k % 2 == nth f k) = false := hp
                have e2 : (nth t k % 2 != nth f k) = true := by rw [bne, e1]; rfl
                clear hp
                go_wp2_with fail
                go_quiet (fail)
                go_wp2_with fail
                go_ret
                exact ⟨by rw [HS.out, HQ.out]; rfl, below_drewN HB.out _⟩
              · have HQ := Lib.hid hp
                have e1 : (nth t k % 2 == nth f k) = true := hp
                have e2 : (nth t k % 2 != nth f k) = false := by rw [bne, e1]; rfl
                clear hp
                go_wp2_with fail
                go_quiet (fail)
                go_wp2_with fail
                go_roundw
                case rel =>
                  refine ⟨k + 1, by omega, by go_num, fun j hj => ?_, below_drewN HB.out _⟩
                  rcases Nat.lt_or_ge j k with h | h
                  · exact HG.out j h
                  · obtain rfl : j = k := by omega
                    exact HQ.out
                case measure => simp [intOf]; omega
            · obtain rfl : k = m := by omega
              have HQ := Lib.hid (show embL t 1 f = true from embL_iff.2 (by rw [HLF.out]; exact HG.out))
              go_wp2_with fail
              go_ret
              exact ⟨by rw [HS.out, HQ.out]; rfl, HB.out⟩
        · go_enter Try.func17, Try.ntmps17
          go_wp2_with fail
          refine (tableValid_any l A n c t _ HT.out).mono ?_
          rintro e w1 ⟨rfl, hb1⟩
          rw [H1.out]
          have B1 := hide hb1
          clear hb1
          go_wp2_with fail
          refine (funcValid_b true i 2 B m d f _ (HF.out.below B1.out) HV.out).mono ?_
          rintro e w2 ⟨rfl, hb2⟩
          have B2 := hide (bseq B1.out hb2)
          clear hb2
          go_wp2_with fail
          go_loopw [33] (fun j wr => ∃ k : Nat, k ≤ m ∧ j = .int .i64 k ∧ Hid (∀ j, j < k → embAt t 2 f j = true) ∧ Hid (Below w.heap.size w wr)) (fun j _ => m - (intOf j).toNat)
          case atStart => exact ⟨0, by omega, rfl, fun j hj => absurd hj (by omega), B2.out⟩
          case round =>
            obtain ⟨k, hk, rfl, HG, HB⟩ := hrel
            by_cases hlt : k < m
            · obtain ⟨b1, o1, rfl, hbl1, hc1⟩ := hta (by omega)
              obtain ⟨b2, o2, rfl, hbl2, hc2⟩ := htb (by omega)
              have g1 : wr.cell? ⟨b1, o1 + k, none⟩ = some (.int .i64 (nth t k)) := (HB.out.cell (p := ⟨b1, o1 + k, none⟩) hbl1).trans (hc1 k (by omega))
              have g2 : wr.cell? ⟨b2, o2 + k, none⟩ = some (.int .i64 (nth f k)) := (HB.out.cell (p := ⟨b2, o2 + k, none⟩) hbl2).trans (hc2 k hlt)
              have hmask : bits .and .i64 (nth t k) 3 = nth t k % 4 := by have h := HE.out k (by omega); exact and_mask _ ⟨h.1, by omega⟩ 2 (by omega)
              clear hc1 hc2 hta htb
              cases hp : embAt t 2 f k
              · have HQ := Lib.hid (show embL t 2 f = false by
                  cases hgg : embL t 2 f
                  · rfl
                  · have := embL_iff.1 hgg k (by rw [HLF.out]; exact hlt)
                    rw [hp] at this; cases this)
                have e1 : (nth t k % 4 == nth f k) = false := hp
                have e2 : (nth t k % 4 != nth f k) = true := by rw [bne, e1]; rfl
                clear hp
                go_wp2_with fail
                go_quiet (fail)
                go_wp2_with fail
                go_ret
                exact ⟨by rw [HS.out, HQ.out]; rfl, below_drewN HB.out _⟩
              · have HQ := Lib.hid hp
                have e1 : (nth t k % 4 == nth f k) = true := hp
                have e2 : (nth t k % 4 != nth f k) = false := by rw [bne, e1]; rfl
                clear hp
                go_wp2_with fail
                go_quiet (fail)
                go_wp2_with fail
                go_roundw
                case rel =>
                  refine ⟨k + 1, by omega, by go_num, fun j hj => ?_, below_drewN HB.out _⟩
                  rcases Nat.lt_or_ge j k with h | h
                  · exact HG.out j h
                  · obtain rfl : j = k := by omega
                    exact HQ.out
                case measure => simp [intOf]; omega
            · obtain rfl : k = m := by omega
              have HQ := Lib.hid (show embL t 2 f = true from embL_iff.2 (by rw [HLF.out]; exact HG.out))
              go_wp2_with fail
              go_ret
              exact ⟨by rw [HS.out, HQ.out]; rfl, HB.out⟩
        · go_enter Try.func17, Try.ntmps17
          go_wp2_with fail
          refine (tableValid_any l A n c t _ HT.out).mono ?_
          rintro e w1 ⟨rfl, hb1⟩
          rw [H1.out]
          have B1 := hide hb1
          clear hb1
          go_wp2_with fail
          refine (funcValid_b true i 3 B m d f _ (HF.out.below B1.out) HV.out).mono ?_
          rintro e w2 ⟨rfl, hb2⟩
          have B2 := hide (bseq B1.out hb2)
          clear hb2
          go_wp2_with fail
          go_loopw [33] (fun j wr => ∃ k : Nat, k ≤ m ∧ j = .int .i64 k ∧ Hid (∀ j, j < k → embAt t 3 f j = true) ∧ Hid (Below w.heap.size w wr)) (fun j _ => m - (intOf j).toNat)
          case atStart => exact ⟨0, by omega, rfl, fun j hj => absurd hj (by omega), B2.out⟩
          case round =>
            obtain ⟨k, hk, rfl, HG, HB⟩ := hrel
            by_cases hlt : k < m
            · obtain ⟨b1, o1, rfl, hbl1, hc1⟩ := hta (by omega)
              obtain ⟨b2, o2, rfl, hbl2, hc2⟩ := htb (by omega)
              have g1 : wr.cell? ⟨b1, o1 + k, none⟩ = some (.int .i64 (nth t k)) := (HB.out.cell (p := ⟨b1, o1 + k, none⟩) hbl1).trans (hc1 k (by omega))
              have g2 : wr.cell? ⟨b2, o2 + k, none⟩ = some (.int .i64 (nth f k)) := (HB.out.cell (p := ⟨b2, o2 + k, none⟩) hbl2).trans (hc2 k hlt)
              have hmask : bits .and .i64 (nth t k) 7 = nth t k % 8 := by have h := HE.out k (by omega); exact and_mask _ ⟨h.1, by omega⟩ 3 (by omega)
              clear hc1 hc2 hta htb
              cases hp : embAt t 3 f k
              · have HQ := Lib.hid (show embL t 3 f = false by
                  cases hgg : embL t 3 f
                  · rfl
                  · have := embL_iff.1 hgg k (by rw [HLF.out]; exact hlt)
                    rw [hp] at this; cases this)
                have e1 : (nth t k % 8 == nth f k) = false := hp
                have e2 : (nth t k % 8 != nth f k) = true := by rw [bne, e1]; rfl
                clear hp
                go_wp2_with fail
                go_quiet (fail)
                go_wp2_with fail
                go_ret
                exact ⟨by rw [HS.out, HQ.out]; rfl, below_drewN HB.out _⟩
              · have HQ := Lib.hid hp
                have e1 : (nth t k % 8 == nth f k) = true := hp
                have e2 : (nth t k % 8 != nth f k) = false := by rw [bne, e1]; rfl
                clear hp
                go_wp2_with fail
                go_quiet (fail)
                go_wp2_with fail
                go_roundw
                case rel =>
                  refine ⟨k + 1, by omega, by go_num, fun j hj => ?_, below_drewN HB.out _⟩
                  rcases Nat.lt_or_ge j k with h | h
                  · exact HG.out j h
                  · obtain rfl : j = k := by omega
                    exact HQ.out
                case measure => simp [intOf]; omega
            · obtain rfl : k = m := by omega
              have HQ := Lib.hid (show embL t 3 f = true from embL_iff.2 (by rw [HLF.out]; exact HG.out))
              go_wp2_with fail
              go_ret
              exact ⟨by rw [HS.out, HQ.out]; rfl, HB.out⟩
        · go_enter Try.func17, Try.ntmps17
          go_wp2_with fail
          refine (tableValid_any l A n c t _ HT.out).mono ?_
          rintro e w1 ⟨rfl, hb1⟩
          rw [H1.out]
          have B1 := hide hb1
          clear hb1
          go_wp2_with fail
          refine (funcValid_b true i 4 B m d f _ (HF.out.below B1.out) HV.out).mono ?_
          rintro e w2 ⟨rfl, hb2⟩
          have B2 := hide (bseq B1.out hb2)
          clear hb2
          go_wp2_with fail
          go_loopw [33] (fun j wr => ∃ k : Nat, k ≤ m ∧ j = .int .i64 k ∧ Hid (∀ j, j < k → embAt t 4 f j = true) ∧ Hid (Below w.heap.size w wr)) (fun j _ => m - (intOf j).toNat)
          case atStart => exact ⟨0, by omega, rfl, fun j hj => absurd hj (by omega), B2.out⟩
          case round =>
            obtain ⟨k, hk, rfl, HG, HB⟩ := hrel
            by_cases hlt : k < m
            · obtain ⟨b1, o1, rfl, hbl1, hc1⟩ := hta (by omega)
              obtain ⟨b2, o2, rfl, hbl2, hc2⟩ := htb (by omega)
              have g1 : wr.cell? ⟨b1, o1 + k, none⟩ = some (.int .i64 (nth t k)) := (HB.out.cell (p := ⟨b1, o1 + k, none⟩) hbl1).trans (hc1 k (by omega))
              have g2 : wr.cell? ⟨b2, o2 + k, none⟩ = some (.int .i64 (nth f k)) := (HB.out.cell (p := ⟨b2, o2 + k, none⟩) hbl2).trans (hc2 k hlt)
              have hmask : bits .and .i64 (nth t k) 15 = nth t k % 16 := by have h := HE.out k (by omega); exact and_mask _ ⟨h.1, by omega⟩ 4 (by omega)
              clear hc1 hc2 hta htb
              cases hp : embAt t 4 f k
              · have HQ := Lib.hid (show embL t 4 f = false by
                  cases hgg : embL t 4 f
                  · rfl
                  · have := embL_iff.1 hgg k (by rw [HLF.out]; exact hlt)
                    rw [hp] at this; cases this)
                have e1 : (nth t k % 16 == nth f k) = false := hp
                have e2 : (nth t k % 16 != nth f k) = true := by rw [bne, e1]; rfl
                clear hp
                go_wp2_with fail
                go_quiet (fail)
                go_wp2_with fail
                go_ret
                exact ⟨by rw [HS.out, HQ.out]; rfl, below_drewN HB.out _⟩
              · have HQ := Lib.hid hp
                have e1 : (nth t k % 16 == nth f k) = true := hp
                have e2 : (nth t k % 16 != nth f k) = false := by rw [bne, e1]; rfl
                clear hp
                go_wp2_with fail
                go_quiet (fail)
                go_wp2_with fail
                go_roundw
                case rel =>
                  refine ⟨k + 1, by omega, by go_num, fun j hj => ?_, below_drewN HB.out _⟩
                  rcases Nat.lt_or_ge j k with h | h
                  · exact HG.out j h
                  · obtain rfl : j = k := by omega
                    exact HQ.out
                case measure => simp [intOf]; omega
            · obtain rfl : k = m := by omega
              have HQ := Lib.hid (show embL t 4 f = true from embL_iff.2 (by rw [HLF.out]; exact HG.out))
              go_wp2_with fail
              go_ret
              exact ⟨by rw [HS.out, HQ.out]; rfl, HB.out⟩
      · have HS := Lib.hid (show embeds l t i o f = false by
          have : (decide (i ≤ l) && decide (o ≤ l)) = false := by simp; omega
          simp [embeds, this])
        have h3' : l < max i o := by omega
        have H1 := Lib.hid h1
        clear ht hf h1 h3
        obtain ⟨i1, i2, i3, i4⟩ := hio
        go_enter Try.func17, Try.ntmps17
        go_wp2_with fail
        refine (tableValid_any l A n c t _ HT.out).mono ?_
        rintro e w1 ⟨rfl, hb1⟩
        rw [H1.out]
        have B1 := hide hb1
        clear hb1
        go_wp2_with fail
        refine (funcValid_b true i o B m d f _ (HF.out.below B1.out) h2).mono ?_
        rintro e w2 ⟨rfl, hb2⟩
        go_wp2_with fail
        go_ret
        exact ⟨by rw [HS.out]; rfl, bseq B1.out hb2⟩
set_option maxHeartbeats 2000000 in
theorem sEmbeds_any (l : Int) (A : Option Addr) (n c : Nat) (t : List Int) (i o : Int) (B : Option Addr) (m d : Nat) (f : List Int) (w : World) (ht : IR w A n t) (hf : IR w B m f) (hcap : n ≤ c) :
    Calls Try.prog 18 #[.int .i64 l, .slice A n c, .int .i64 i, .int .i64 o, .slice B m d] w fun e w' => e = .returned (.bool (embeds l t i o f)) ∧ Below w.heap.size w w' := by
  have HT := hide ht
  have HF := hide hf
  have hlt' := ht.len
  have hlf := hf.len
  cases h1 : tableOk l t
  · have HS := Lib.hid (show embeds l t i o f = false by simp [embeds, h1])
    have H1 := Lib.hid h1
    clear ht hf h1
    go_enter Try.func18, Try.ntmps18
    go_wp2_with fail
    refine (sTableValid_any l A n c t _ HT.out hcap).mono ?_
    rintro e w1 ⟨rfl, q1, hq1⟩
    have B1 := hide (show Below w.heap.size w w1 by rw [hq1]; exact below_drewN (Below.refl _ _) _)
    clear hq1
    rw [H1.out]
    go_wp2_with fail
    go_ret
    exact ⟨by rw [HS.out]; rfl, B1.out⟩
  · cases h2 : fnOk i o f
    · have HS := Lib.hid (show embeds l t i o f = false by simp [embeds, h2])
      have H1 := Lib.hid h1
      clear ht hf h1
      go_enter Try.func18, Try.ntmps18
      go_wp2_with fail
      refine (sTableValid_any l A n c t _ HT.out hcap).mono ?_
      rintro e w1 ⟨rfl, q1, hq1⟩
      have B1 := hide (show Below w.heap.size w w1 by rw [hq1]; exact below_drewN (Below.refl _ _) _)
      clear hq1
      rw [H1.out]
      go_wp2_with fail
      refine (sFuncValid_b false i o B m d f _ (HF.out.below B1.out) h2).mono ?_
      rintro e w' ⟨rfl, rfl⟩
      go_wp2_with fail
      go_ret
      exact ⟨by rw [HS.out]; rfl, B1.out⟩
    · have hio : 1 ≤ i ∧ i ≤ 4 ∧ 1 ≤ o ∧ o ≤ 4 := by
        obtain ⟨hi, ho, _⟩ := fnOk_out h2
        simp only [in14, Bool.and_eq_true, decide_eq_true_eq] at hi ho
        omega
      by_cases h3 : i ≤ l ∧ o ≤ l
      · have HS := Lib.hid (show embeds l t i o f = embL t o f by simp [embeds, h1, h2, h3.1, h3.2])
        have hnm : m ≤ n := by have := emb_len h1 h2 h3.1; omega
        have H1 := Lib.hid h1
        have HE := hide (show ∀ k, k < n → 0 ≤ nth t k ∧ nth t k < 256 from fun k hk => table_elem h1 (by omega))
        have HV := hide h2
        have HLF := Lib.hid hlf
        have hm16 : m ≤ 16 := by have := fnOk_len h2; omega
        obtain ⟨hlen, hmax, hta⟩ := ht
        obtain ⟨_, hm2, htb⟩ := hf
        clear h1 hlen hlt' hlf h2
        obtain ⟨i1, i2, i3, i4⟩ := hio
        obtain ⟨h31, h32⟩ := h3
        rcases (show o = 1 ∨ o = 2 ∨ o = 3 ∨ o = 4 by omega) with rfl | rfl | rfl | rfl
        · go_enter Try.func18, Try.ntmps18
          go_wp2_with fail
          refine (sTableValid_any l A n c t _ HT.out hcap).mono ?_
          rintro e w1 ⟨rfl, q1, hq1⟩
          have B1 := hide (show Below w.heap.size w w1 by rw [hq1]; exact below_drewN (Below.refl _ _) _)
          clear hq1
          rw [H1.out]
          go_wp2_with fail
          refine (sFuncValid_b true i 1 B m d f _ (HF.out.below B1.out) HV.out).mono ?_
          rintro e w' ⟨rfl, rfl⟩
          go_wp2_with fail
          go_loopw [11] (fun j wr => ∃ k : Nat, k ≤ m ∧ j = .int .i64 k ∧ Hid (∀ j, j < k → embAt t 1 f j = true) ∧ Hid (Below w.heap.size w wr)) (fun j _ => m - (intOf j).toNat)
          case atStart => exact ⟨0, by omega, rfl, fun j hj => absurd hj (by omega), B1.out⟩
          case round =>
            obtain ⟨k, hk, rfl, HG, HB⟩ := hrel
            by_cases hlt : k < m
            · obtain ⟨b1, o1, rfl, hbl1, hc1⟩ := hta (by omega)
              obtain ⟨b2, o2, rfl, hbl2, hc2⟩ := htb (by omega)
              have g1 : wr.cell? ⟨b1, o1 + k, none⟩ = some (.int .i64 (nth t k)) := (HB.out.cell (p := ⟨b1, o1 + k, none⟩) hbl1).trans (hc1 k (by omega))
              have g2 : wr.cell? ⟨b2, o2 + k, none⟩ = some (.int .i64 (nth f k)) := (HB.out.cell (p := ⟨b2, o2 + k, none⟩) hbl2).trans (hc2 k hlt)
              have r1 : 0 ≤ nth t k := (HE.out k (by omega)).1
              have r2 : nth t k < 256 := (HE.out k (by omega)).2
              clear hc1 hc2 hta htb
              cases hp : embAt t 1 f k
              · have HQ := Lib.hid (show embL t 1 f = false by
                  cases hgg : embL t 1 f
                  · rfl
                  · have := embL_iff.1 hgg k (by rw [HLF.out]; exact hlt)
                    rw [hp] at this; cases this)
                have e1 : (nth t k % 2 == nth f k) = false := hp
                have e2 : (nth t k % 2 != nth f k) = true := by rw [bne, e1]; rfl
                clear hp
                go_wp2_with fail
                go_quiet (fail)
                go_wp2_with fail
                go_ret
                exact ⟨by rw [HS.out, HQ.out]; rfl, below_drewN HB.out _⟩
              · have HQ := Lib.hid hp
                have e1 : (nth t k % 2 == nth f k) = true := hp
                have e2 : (nth t k % 2 != nth f k) = false := by rw [bne, e1]; rfl
                clear hp
                go_wp2_with fail
                go_quiet (fail)
                go_wp2_with fail
                go_roundw
                case rel =>
                  refine ⟨k + 1, by omega, by go_num, fun j hj => ?_, below_drewN HB.out _⟩
                  rcases Nat.lt_or_ge j k with h | h
                  · exact HG.out j h
                  · obtain rfl : j = k := by omega
                    exact HQ.out
                case measure => simp [intOf]; omega
            · obtain rfl : k = m := by omega
              have HQ := Lib.hid (show embL t 1 f = true from embL_iff.2 (by rw [HLF.out]; exact HG.out))
              go_wp2_with fail
              go_ret
              exact ⟨by rw [HS.out, HQ.out]; rfl, HB.out⟩
        · go_enter Try.func18, Try.ntmps18
          go_wp2_with fail
          refine (sTableValid_any l A n c t _ HT.out hcap).mono ?_
          rintro e w1 ⟨rfl, q1, hq1⟩
          have B1 := hide (show Below w.heap.size w w1 by rw [hq1]; exact below_drewN (Below.refl _ _) _)
          clear hq1
          rw [H1.out]
          go_wp2_with fail
          refine (sFuncValid_b true i 2 B m d f _ (HF.out.below B1.out) HV.out).mono ?_
          rintro e w' ⟨rfl, rfl⟩
          go_wp2_with fail
          go_loopw [11] (fun j wr => ∃ k : Nat, k ≤ m ∧ j = .int .i64 k ∧ Hid (∀ j, j < k → embAt t 2 f j = true) ∧ Hid (Below w.heap.size w wr)) (fun j _ => m - (intOf j).toNat)
          case atStart => exact ⟨0, by omega, rfl, fun j hj => absurd hj (by omega), B1.out⟩
          case round =>
            obtain ⟨k, hk, rfl, HG, HB⟩ := hrel
            by_cases hlt : k < m
            · obtain ⟨b1, o1, rfl, hbl1, hc1⟩ := hta (by omega)
              obtain ⟨b2, o2, rfl, hbl2, hc2⟩ := htb (by omega)
              have g1 : wr.cell? ⟨b1, o1 + k, none⟩ = some (.int .i64 (nth t k)) := (HB.out.cell (p := ⟨b1, o1 + k, none⟩) hbl1).trans (hc1 k (by omega))
              have g2 : wr.cell? ⟨b2, o2 + k, none⟩ = some (.int .i64 (nth f k)) := (HB.out.cell (p := ⟨b2, o2 + k, none⟩) hbl2).trans (hc2 k hlt)
              have r1 : 0 ≤ nth t k := (HE.out k (by omega)).1
              have r2 : nth t k < 256 := (HE.out k (by omega)).2
              clear hc1 hc2 hta htb
              cases hp : embAt t 2 f k
              · have HQ := Lib.hid (show embL t 2 f = false by
                  cases hgg : embL t 2 f
                  · rfl
                  · have := embL_iff.1 hgg k (by rw [HLF.out]; exact hlt)
                    rw [hp] at this; cases this)
                have e1 : (nth t k % 4 == nth f k) = false := hp
                have e2 : (nth t k % 4 != nth f k) = true := by rw [bne, e1]; rfl
                clear hp
                go_wp2_with fail
                go_quiet (fail)
                go_wp2_with fail
                go_ret
                exact ⟨by rw [HS.out, HQ.out]; rfl, below_drewN HB.out _⟩
              · have HQ := Lib.hid hp
                have e1 : (nth t k % 4 == nth f k) = true := hp
                have e2 : (nth t k % 4 != nth f k) = false := by rw [bne, e1]; rfl
                clear hp
                go_wp2_with fail
                go_quiet (fail)
                go_wp2_with fail
                go_roundw
                case rel =>
                  refine ⟨k + 1, by omega, by go_num, fun j hj => ?_, below_drewN HB.out _⟩
                  rcases Nat.lt_or_ge j k with h | h
                  · exact HG.out j h
                  · obtain rfl : j = k := by omega
                    exact HQ.out
                case measure => simp [intOf]; omega
            · obtain rfl : k = m := by omega
              have HQ := Lib.hid (show embL t 2 f = true from embL_iff.2 (by rw [HLF.out]; exact HG.out))
              go_wp2_with fail
              go_ret
              exact ⟨by rw [HS.out, HQ.out]; rfl, HB.out⟩
        · go_enter Try.func18, Try.ntmps18
          go_wp2_with fail
          refine (sTableValid_any l A n c t _ HT.out hcap).mono ?_
          rintro e w1 ⟨rfl, q1, hq1⟩
          have B1 := hide (show Below w.heap.size w w1 by rw [hq1]; exact below_drewN (Below.refl _ _) _)
          clear hq1
          rw [H1.out]
          go_wp2_with fail
          refine (sFuncValid_b true i 3 B m d f _ (HF.out.below B1.out) HV.out).mono ?_
          rintro e w' ⟨rfl, rfl⟩
          go_wp2_with fail
          go_loopw [11] (fun j wr => ∃ k : Nat, k ≤ m ∧ j = .int .i64 k ∧ Hid (∀ j, j < k → embAt t 3 f j = true) ∧ Hid (Below w.heap.size w wr)) (fun j _ => m - (intOf j).toNat)
          case atStart => exact ⟨0, by omega, rfl, fun j hj => absurd hj (by omega), B1.out⟩
          case round =>
            obtain ⟨k, hk, rfl, HG, HB⟩ := hrel
            by_cases hlt : k < m
            · obtain ⟨b1, o1, rfl, hbl1, hc1⟩ := hta (by omega)
              obtain ⟨b2, o2, rfl, hbl2, hc2⟩ := htb (by omega)
              have g1 : wr.cell? ⟨b1, o1 + k, none⟩ = some (.int .i64 (nth t k)) := (HB.out.cell (p := ⟨b1, o1 + k, none⟩) hbl1).trans (hc1 k (by omega))
              have g2 : wr.cell? ⟨b2, o2 + k, none⟩ = some (.int .i64 (nth f k)) := (HB.out.cell (p := ⟨b2, o2 + k, none⟩) hbl2).trans (hc2 k hlt)
              have r1 : 0 ≤ nth t k := (HE.out k (by omega)).1
              have r2 : nth t k < 256 := (HE.out k (by omega)).2
              clear hc1 hc2 hta htb
              cases hp : embAt t 3 f k
              · have HQ := Lib.hid (show embL t 3 f = false by
                  cases hgg : embL t 3 f
                  · rfl
                  · have := embL_iff.1 hgg k (by rw [HLF.out]; exact hlt)
                    rw [hp] at this; cases this)
                have e1 : (nth t k % 8 == nth f k) = false := hp
                have e2 : (nth t k % 8 != nth f k) = true := by rw [bne, e1]; rfl
                clear hp
                go_wp2_with fail
                go_quiet (fail)
                go_wp2_with fail
                go_ret
                exact ⟨by rw [HS.out, HQ.out]; rfl, below_drewN HB.out _⟩
              · have HQ := Lib.hid hp
                have e1 : (nth t k % 8 == nth f k) = true := hp
                have e2 : (nth t k % 8 != nth f k) = false := by rw [bne, e1]; rfl
                clear hp
                go_wp2_with fail
                go_quiet (fail)
                go_wp2_with fail
                go_roundw
                case rel =>
                  refine ⟨k + 1, by omega, by go_num, fun j hj => ?_, below_drewN HB.out _⟩
                  rcases Nat.lt_or_ge j k with h | h
                  · exact HG.out j h
                  · obtain rfl : j = k := by omega
                    exact HQ.out
                case measure => simp [intOf]; omega
            · obtain rfl : k = m := by omega
              have HQ := Lib.hid (show embL t 3 f = true from embL_iff.2 (by rw [HLF.out]; exact HG.out))
              go_wp2_with fail
              go_ret
              exact ⟨by rw [HS.out, HQ.out]; rfl, HB.out⟩
        · go_enter Try.func18, Try.ntmps18
          go_wp2_with fail
          refine (sTableValid_any l A n c t _ HT.out hcap).mono ?_
          rintro e w1 ⟨rfl, q1, hq1⟩
          have B1 := hide (show Below w.heap.size w w1 by rw [hq1]; exact below_drewN (Below.refl _ _) _)
          clear hq1
          rw [H1.out]
          go_wp2_with fail
          refine (sFuncValid_b true i 4 B m d f _ (HF.out.below B1.out) HV.out).mono ?_
          rintro e w' ⟨rfl, rfl⟩
          go_wp2_with fail
          go_loopw [11] (fun j wr => ∃ k : Nat, k ≤ m ∧ j = .int .i64 k ∧ Hid (∀ j, j < k → embAt t 4 f j = true) ∧ Hid (Below w.heap.size w wr)) (fun j _ => m - (intOf j).toNat)
          case atStart => exact ⟨0, by omega, rfl, fun j hj => absurd hj (by omega), B1.out⟩
          case round =>
            obtain ⟨k, hk, rfl, HG, HB⟩ := hrel
            by_cases hlt : k < m
            · obtain ⟨b1, o1, rfl, hbl1, hc1⟩ := hta (by omega)
              obtain ⟨b2, o2, rfl, hbl2, hc2⟩ := htb (by omega)
              have g1 : wr.cell? ⟨b1, o1 + k, none⟩ = some (.int .i64 (nth t k)) := (HB.out.cell (p := ⟨b1, o1 + k, none⟩) hbl1).trans (hc1 k (by omega))
              have g2 : wr.cell? ⟨b2, o2 + k, none⟩ = some (.int .i64 (nth f k)) := (HB.out.cell (p := ⟨b2, o2 + k, none⟩) hbl2).trans (hc2 k hlt)
              have r1 : 0 ≤ nth t k := (HE.out k (by omega)).1
              have r2 : nth t k < 256 := (HE.out k (by omega)).2
              clear hc1 hc2 hta htb
              cases hp : embAt t 4 f k
              · have HQ := Lib.hid (show embL t 4 f = false by
                  cases hgg : embL t 4 f
                  · rfl
                  · have := embL_iff.1 hgg k (by rw [HLF.out]; exact hlt)
                    rw [hp] at this; cases this)
                have e1 : (nth t k % 16 == nth f k) = false := hp
                have e2 : (nth t k % 16 != nth f k) = true := by rw [bne, e1]; rfl
                clear hp
                go_wp2_with fail
                go_quiet (fail)
                go_wp2_with fail
                go_ret
                exact ⟨by rw [HS.out, HQ.out]; rfl, below_drewN HB.out _⟩
              · have HQ := Lib.hid hp
                have e1 : (nth t k % 16 == nth f k) = true := hp
                have e2 : (nth t k % 16 != nth f k) = false := by rw [bne, e1]; rfl
                clear hp
                go_wp2_with fail
                go_quiet (fail)
                go_wp2_with fail
                go_roundw
                case rel =>
                  refine ⟨k + 1, by omega, by go_num, fun j hj => ?_, below_drewN HB.out _⟩
                  rcases Nat.lt_or_ge j k with h | h
                  · exact HG.out j h
                  · obtain rfl : j = k := by omega
                    exact HQ.out
                case measure => simp [intOf]; omega
            · obtain rfl : k = m := by omega
              have HQ := Lib.hid (show embL t 4 f = true from embL_iff.2 (by rw [HLF.out]; exact HG.out))
              go_wp2_with fail
              go_ret
              exact ⟨by rw [HS.out, HQ.out]; rfl, HB.out⟩
      · have HS := Lib.hid (show embeds l t i o f = false by
          have : (decide (i ≤ l) && decide (o ≤ l)) = false := by simp; omega
          simp [embeds, this])
        have H1 := Lib.hid h1
        obtain ⟨i1, i2, i3, i4⟩ := hio
        clear ht hf h1
        by_cases h4 : l < i
        · go_enter Try.func18, Try.ntmps18
          go_wp2_with fail
          refine (sTableValid_any l A n c t _ HT.out hcap).mono ?_
          rintro e w1 ⟨rfl, q1, hq1⟩
          have B1 := hide (show Below w.heap.size w w1 by rw [hq1]; exact below_drewN (Below.refl _ _) _)
          clear hq1
          rw [H1.out]
          go_wp2_with fail
          refine (sFuncValid_b true i o B m d f _ (HF.out.below B1.out) h2).mono ?_
          rintro e w' ⟨rfl, rfl⟩
          go_wp2_with fail
          go_ret
          exact ⟨by rw [HS.out]; rfl, B1.out⟩
        · have h5 : l < o := by omega
          clear h3
          go_enter Try.func18, Try.ntmps18
          go_wp2_with fail
          refine (sTableValid_any l A n c t _ HT.out hcap).mono ?_
          rintro e w1 ⟨rfl, q1, hq1⟩
          have B1 := hide (show Below w.heap.size w w1 by rw [hq1]; exact below_drewN (Below.refl _ _) _)
          clear hq1
          rw [H1.out]
          go_wp2_with fail
          refine (sFuncValid_b true i o B m d f _ (HF.out.below B1.out) h2).mono ?_
          rintro e w' ⟨rfl, rfl⟩
          go_wp2_with fail
          go_ret
          exact ⟨by rw [HS.out]; rfl, B1.out⟩
end Go.Proofs.Yteedkpfpljecaaa
