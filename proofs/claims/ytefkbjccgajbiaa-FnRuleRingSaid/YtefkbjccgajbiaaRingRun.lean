/-
  Rings: RingRun of the program and of the reference.
  No condition.
-/
import Derived.Test.YtefkbjccgajbiaaRingStep
namespace Go.Proofs.Ytefkbjccgajbiaa
open Go.RowKit Go.Sort base
def stepsQ (s : Int) : Bool := decide (-99 ≤ s) && decide (s ≤ 99)
def runQ (rule : Int) (a b : List Int) (s : Int) : Bool := ruleQ rule && pairQ a b && stepsQ s
def ringRun (rule : Int) (a b : List Int) (s : Int) : Two := if runQ rule a b s then runTwo rule (a, b) s else ([], [])
theorem stepsQ_iff {s : Int} : stepsQ s = true ↔ -99 ≤ s ∧ s ≤ 99 := by simp [stepsQ]
theorem ringNext_ok {rule : Int} {a b : List Int} {n : Nat} (hr : ruleQ rule = true) (h1 : 3 ≤ n) (h2 : n ≤ 12) (ha : Bits n a) (hb : Bits n b) : ringNext rule a b = sum2 (ruled rule b) a := by
  have e1 := ring_of_bits hb h1 h2
  have e2 := ring_of_bits (ruled_bits (rule := rule) hb.1) h1 h2
  have e3 := ring_of_bits ha h1 h2
  simp [ringNext, ruleRing, hr, e1, ringAdd, pairQ, e2, e3, (ruled_bits (rule := rule) hb.1).1, ha.1]
theorem own_ne_new {w : World} {base : Nat} {v : Value} {zs : List Int} (h : Own w base v zs) {row : Option Nat} (hr : ∀ k, row = some k → w.heap.size ≤ k) : v.ownBlock = none ∨ v.ownBlock ≠ row := by
  cases hv : v.ownBlock with
  | none => exact .inl rfl
  | some k => right; intro e; have := hr k e.symm; have := (h.lt k hv).2; omega
/-- two slices of the call's own -/
def RTwo (w : World) (p : Two) (e : Ending) (w' : World) : Prop := (∃ v0 v1, e = .returned (.tuple #[v0, v1]) ∧ Mine w' w.heap.size v0 p.1 ∧ Mine w' w.heap.size v1 p.2 ∧ (v0.ownBlock = none ∨ v0.ownBlock ≠ v1.ownBlock)) ∧ Below w.heap.size w w'
theorem pair_bits {a b : List Int} (h : pairQ a b = true) : 3 ≤ a.length ∧ a.length ≤ 12 ∧ TwoBits a.length (a, b) := by
  obtain ⟨h1, h2, h3⟩ := pairQ_out h
  obtain ⟨l1, l2, b1⟩ := ringQ_out h1
  obtain ⟨_, _, b2⟩ := ringQ_out h2
  exact ⟨l1, l2, b1, by rw [h3]; exact b2⟩
theorem ringAdd_len {a b : List Int} : (ringAdd a b).length = if pairQ a b then a.length else 0 := by
  unfold ringAdd; split
  · exact tab_len _ _
  · rfl
theorem mine_nil1 (w : World) (base : Nat) (hb : base ≤ w.heap.size) : Mine ((w.alloc (.cells #[] 3)).alloc (.cells #[] 3)) base (.slice (some ⟨w.heap.size + 1, 0, none⟩) 0 0) [] := by
  have := Own.nil0 (w.alloc (.cells #[] 3)) base (by simp; omega)
  rw [World.size_alloc] at this
  exact this.mine
set_option maxHeartbeats 2000000 in
theorem sRingRun_any (rule : Int) (A B : Option Addr) (n c m d : Nat) (a b : List Int) (s : Int) (w : World) (ha : IR w A n a) (hb : IR w B m b) :
    Calls Try.prog 16 #[.int .i64 rule, .slice A n c, .slice B m d, .int .i64 s] w (RTwo w (ringRun rule a b s)) := by
  have HA := hide ha
  have HB := hide hb
  have hma := ha.max
  have hmb := hb.max
  have hla := ha.len
  have hlb := hb.len
  clear ha hb
  by_cases hq : runQ rule a b s = true
  · obtain ⟨⟨q1, q2⟩, q3⟩ : (ruleQ rule = true ∧ pairQ a b = true) ∧ stepsQ s = true := by simpa [runQ] using hq
    obtain ⟨l1, l2, tb⟩ := pair_bits q2
    rw [hla] at l1 l2 tb
    have hnm : m = n := by have := (pairQ_out q2).2.2; omega
    subst hnm
    obtain ⟨s1, s2⟩ := stepsQ_iff.1 q3
    have HS := Lib.hid (show ringRun rule a b s = bwd rule (-s).toNat (fwd rule s.toNat (a, b)) by simp [ringRun, hq, runTwo])
    have TB := hide tb
    have HR := hide q1
    have q1' : (decide (0 ≤ rule) && decide (rule ≤ 255)) = true := q1
    have q3' : (decide (-99 ≤ s) && decide (s ≤ 99)) = true := q3
    have HL := Lib.hid (show (ringAdd a b).length = m by rw [ringAdd_len, q2]; simpa using hla)
    have e0 : ((m : Int) == 0) = false := by simp; omega
    clear hq q1 q2 q3 tb
    go_enter Try.func16, Try.ntmps16
    go_wp2_with fail
    refine (sRingAdd_any A B m c m d a b _ HA.out HB.out).mono ?_
    rintro e w1 ⟨⟨v1, rfl, ho1⟩, hb1⟩
    obtain ⟨A1, c1, rfl, _⟩ := ho1.sliceN HL.out
    have hs1 := hb1.size
    have HA1 := hide ((HA.out.below hb1).below ((Below.refl _ w1).alloc (Nat.le_refl _) (.cells #[] 3)))
    have O1 := hide (Own.nil0 w1 w.heap.size hs1)
    have B1 := hide (hb1.alloc hs1 (.cells #[] 3))
    have HB1 := hide (HB.out.below hb1)
    clear ho1 hb1
    go_wp2_with fail
    refine (l1In_b true _ _ _ q1' _).mono ?_
    rintro e w' ⟨rfl, rfl⟩
    go_wp2_with fail
    refine (l1In_b true _ _ _ q3' _).mono ?_
    rintro e w' ⟨rfl, rfl⟩
    go_wp2_with (first | (at_builtin; refine wpList_append_ints O1.out HA1.out (.tmp 33) (.tmp 34) (by rfl) rfl rfl rfl (by simp; omega) (by simp; omega) ?_; intro v2 w2 ho2 hg2 hat2; have B2 := hide (B1.out.grown hg2 (by simp; omega) (fun k hk => (O1.out.lt k hk).1)); have hs2 := B2.out.size; have O2 := hide (show Own w2 w.heap.size v2 a by simpa using ho2); have HB2 := hide ((HB.out.below B2.out).below ((Below.refl _ w2).alloc (Nat.le_refl _) (.cells #[] 3))); have O3 := hide (Own.nil0 w2 w.heap.size hs2); clear ho2 hg2 hat2) | (at_builtin; refine wpList_append_ints O3.out HB2.out (.tmp 36) (.tmp 37) (by rfl) rfl rfl rfl (by simp; omega) (by simp; omega) ?_; intro v4 w4 ho4 hg4 hat4))
    have B4 := hide ((B2.out.alloc hs2 (.cells #[] 3)).grown hg4 (by simp; omega) (fun k hk => (O3.out.lt k hk).1))
    have hs4 := B4.out.size
    have O4 := hide (show Own w4 w.heap.size v4 b by simpa using ho4)
    have P4 := hide (show Own w4 w.heap.size v2 a from (O2.out.alloc _).kept hg4 (by
      cases hv : v2.ownBlock with
      | none => exact .inl rfl
      | some k => right; intro e; have := (O2.out.lt k hv).2; simp [Value.ownBlock] at e; omega))
    have N4 := hide (show v2.ownBlock = none ∨ v2.ownBlock ≠ v4.ownBlock by
      cases hv : v2.ownBlock with
      | none => exact .inl rfl
      | some k =>
        right; intro e
        have := (O2.out.lt k hv).2
        rcases hat4 with h | h <;> rw [h] at e <;> simp [Value.ownBlock] at e <;> omega)
    clear ho4 hg4 hat4
    go_loopw [10, 11, 12] (fun x y i wr => ∃ (X Y : Value) (k : Nat), X = x ∧ Y = y ∧ k ≤ s.toNat ∧ i = .int .i64 k ∧ Own wr w.heap.size x (fwd rule k (a, b)).1 ∧ Own wr w.heap.size y (fwd rule k (a, b)).2 ∧ (x.ownBlock = none ∨ x.ownBlock ≠ y.ownBlock) ∧ Below w.heap.size w wr) (fun _ _ i _ => s.toNat - (intOf i).toNat)
    case atStart => exact ⟨_, _, 0, rfl, rfl, by omega, rfl, P4.out, O4.out, N4.out, B4.out⟩
    case round =>
      obtain ⟨X, Y, k, rfl, rfl, hk, rfl, hx, hy, hne, hbw⟩ := hrel
      have HX := hide hx
      have HY := hide hy
      have HN := hide hne
      have HW := hide hbw
      have hsw := hbw.size
      have TK := hide (fwd_bits (rule := rule) TB.out k)
      clear hx hy hne hbw
      by_cases hlt : (k : Int) < s
      · obtain ⟨A5, c5, rfl, r5⟩ := HX.out.sliceN TK.out.1.1
        obtain ⟨A6, c6, rfl, r6⟩ := HY.out.sliceN TK.out.2.1
        have R5 := hide r5
        have R6 := hide r6
        clear r5 r6
        go_wp2_with fail
        refine (sRingNext_any rule A5 A6 m c5 m c6 _ _ _ R5.out R6.out).mono ?_
        rintro e w7 ⟨⟨v7, rfl, ho7⟩, hb7⟩
        have O7 := hide ho7
        have Y7 := hide (HY.out.below hb7)
        have N7 := hide (own_ne_new HY.out (row := v7.ownBlock) (fun k hk => (O7.out.lt k hk).1))
        have B7 := hide (bseq HW.out hb7)
        have E7 := hide (ringNext_ok HR.out l1 l2 TK.out.1 TK.out.2)
        clear ho7 hb7
        go_wp2_with fail
        go_roundw
        case rel => exact ⟨_, _, k + 1, rfl, rfl, by omega, by go_num, Y7.out, by have := O7.out.base_le hsw; rw [E7.out] at this; exact this, N7.out, B7.out⟩
        case measure => simp [intOf]; omega
      · have HK := Lib.hid (show k = s.toNat by omega)
        go_wp2_with fail
        go_loopw [10, 11, 14] (fun x y i w5 => ∃ (X Y : Value) (j : Nat), X = x ∧ Y = y ∧ j ≤ (-s).toNat ∧ i = .int .i64 (-(j : Int)) ∧ Own w5 w.heap.size x (bwd rule j (fwd rule k (a, b))).1 ∧ Own w5 w.heap.size y (bwd rule j (fwd rule k (a, b))).2 ∧ (x.ownBlock = none ∨ x.ownBlock ≠ y.ownBlock) ∧ Below w.heap.size w w5) (fun _ _ i _ => (-s).toNat - (-(intOf i)).toNat)
        case atStart => exact ⟨_, _, 0, rfl, rfl, by omega, rfl, HX.out, HY.out, HN.out, HW.out⟩
        case round =>
          obtain ⟨X, Y, j, rfl, rfl, hj, rfl, hx, hy, hne, hbw⟩ := hrel
          have HX := hide hx
          have HY := hide hy
          have HN := hide hne
          have HW := hide hbw
          have hsw := hbw.size
          have TJ := hide (bwd_bits (rule := rule) TK.out j)
          clear hx hy hne hbw
          by_cases hlt : s < -(j : Int)
          · obtain ⟨A5, c5, rfl, r5⟩ := HX.out.sliceN TJ.out.1.1
            obtain ⟨A6, c6, rfl, r6⟩ := HY.out.sliceN TJ.out.2.1
            have R5 := hide r5
            have R6 := hide r6
            clear r5 r6
            go_wp2_with fail
            refine (sRingBefore_any rule A5 A6 m c5 m c6 _ _ _ R5.out R6.out).mono ?_
            rintro e w7 ⟨⟨v7, rfl, ho7⟩, hb7⟩
            have O7 := hide ho7
            have X7 := hide (HX.out.below hb7)
            have N7 := hide (show v7.ownBlock = none ∨ v7.ownBlock ≠ (Value.slice A5 m c5).ownBlock by
              cases hv : v7.ownBlock with
              | none => exact .inl rfl
              | some k => right; intro e; have := (O7.out.lt k hv).1; have := (HX.out.lt k e.symm).2; omega)
            have B7 := hide (bseq HW.out hb7)
            have E7 := hide (ringNext_ok HR.out l1 l2 TJ.out.2 TJ.out.1)
            clear ho7 hb7
            go_wp2_with fail
            go_roundw
            case rel => exact ⟨_, _, j + 1, rfl, rfl, by omega, by go_num, by have := O7.out.base_le hsw; rw [E7.out] at this; exact this, X7.out, N7.out, B7.out⟩
            case measure => simp [intOf]; omega
          · have HJ := Lib.hid (show j = (-s).toNat by omega)
            go_wp2_with fail
            go_ret2
            exact ⟨⟨_, _, rfl, by rw [HS.out, ← HK.out, ← HJ.out]; exact HX.out.mine, by rw [HS.out, ← HK.out, ← HJ.out]; exact HY.out.mine, HN.out⟩, HW.out⟩
  · have HS := Lib.hid (show ringRun rule a b s = ([], []) by simp [ringRun, hq])
    cases h1 : pairQ a b
    · have HL := Lib.hid (show (ringAdd a b).length = 0 by rw [ringAdd_len, h1]; rfl)
      clear hq h1
      go_enter Try.func16, Try.ntmps16
      go_wp2_with fail
      refine (sRingAdd_any A B n c m d a b _ HA.out HB.out).mono ?_
      rintro e w1 ⟨⟨v1, rfl, ho1⟩, hb1⟩
      obtain ⟨A1, c1, rfl, _⟩ := ho1.sliceN HL.out
      have hs1 := hb1.size
      have B1 := hide hb1
      clear ho1 hb1
      go_wp2_with fail
      go_ret2
      exact ⟨⟨_, _, rfl, by rw [HS.out]; exact ((Own.nil0 w1 w.heap.size hs1).alloc _).mine, by rw [HS.out]; exact mine_nil1 w1 w.heap.size hs1, .inr (by simp [Value.ownBlock])⟩, (B1.out.alloc hs1 _).alloc (by simp; omega) _⟩
    · have hn : a.length ≠ 0 := by have := (pair_bits h1).1; omega
      have HL := Lib.hid (show (ringAdd a b).length = n by rw [ringAdd_len, h1]; simpa using hla)
      have e0 : ((n : Int) == 0) = false := by simp; omega
      cases h2 : ruleQ rule
      · have h2' : (decide (0 ≤ rule) && decide (rule ≤ 255)) = false := h2
        clear hq h1 h2 hn
        go_enter Try.func16, Try.ntmps16
        go_wp2_with fail
        refine (sRingAdd_any A B n c m d a b _ HA.out HB.out).mono ?_
        rintro e w1 ⟨⟨v1, rfl, ho1⟩, hb1⟩
        obtain ⟨A1, c1, rfl, _⟩ := ho1.sliceN HL.out
        have hs1 := hb1.size
        have B1 := hide hb1
        clear ho1 hb1
        go_wp2_with fail
        refine (l1In_b false _ _ _ h2' _).mono ?_
        rintro e w' ⟨rfl, rfl⟩
        go_wp2_with fail
        go_ret2
        exact ⟨⟨_, _, rfl, by rw [HS.out]; exact ((Own.nil0 w1 w.heap.size hs1).alloc _).mine, by rw [HS.out]; exact mine_nil1 w1 w.heap.size hs1, .inr (by simp [Value.ownBlock])⟩, (B1.out.alloc hs1 _).alloc (by simp; omega) _⟩
      · have h2' : (decide (0 ≤ rule) && decide (rule ≤ 255)) = true := h2
        have h3 : stepsQ s = false := by
          cases h : stepsQ s
          · rfl
          · exact absurd (by simp [runQ, h1, h2, h]) hq
        have h3' : (decide (-99 ≤ s) && decide (s ≤ 99)) = false := h3
        clear hq h1 h2 h3 hn
        go_enter Try.func16, Try.ntmps16
        go_wp2_with fail
        refine (sRingAdd_any A B n c m d a b _ HA.out HB.out).mono ?_
        rintro e w1 ⟨⟨v1, rfl, ho1⟩, hb1⟩
        obtain ⟨A1, c1, rfl, _⟩ := ho1.sliceN HL.out
        have hs1 := hb1.size
        have B1 := hide hb1
        clear ho1 hb1
        go_wp2_with fail
        refine (l1In_b true _ _ _ h2' _).mono ?_
        rintro e w' ⟨rfl, rfl⟩
        go_wp2_with fail
        refine (l1In_b false _ _ _ h3' _).mono ?_
        rintro e w' ⟨rfl, rfl⟩
        go_wp2_with fail
        go_ret2
        exact ⟨⟨_, _, rfl, by rw [HS.out]; exact ((Own.nil0 w1 w.heap.size hs1).alloc _).mine, by rw [HS.out]; exact mine_nil1 w1 w.heap.size hs1, .inr (by simp [Value.ownBlock])⟩, (B1.out.alloc hs1 _).alloc (by simp; omega) _⟩
theorem ne_cap {A B : Option Addr} {n c c' m d d' : Nat} (h : (Value.slice A n c).ownBlock = none ∨ (Value.slice A n c).ownBlock ≠ (Value.slice B m d).ownBlock) : (Value.slice A n c').ownBlock = none ∨ (Value.slice A n c').ownBlock ≠ (Value.slice B m d').ownBlock := by
  cases A <;> cases B <;> exact h
/- three cells of a block that was made by the call itself -/
structure Trio (w : World) (g base : Nat) (rule : Int) (n : Nat) (p : Two) (A B : Option Addr) (c d : Nat) : Prop where
  c0 : w.cell? ⟨g, 0, none⟩ = some (.int .i64 rule)
  c1 : w.cell? ⟨g, 1, none⟩ = some (.slice A n c)
  c2 : w.cell? ⟨g, 2, none⟩ = some (.slice B n d)
  f : ∀ i, w.frozen? ⟨g, i, none⟩ = false
  o1 : Own w base (.slice A n c) p.1
  o2 : Own w base (.slice B n d) p.2
  ne : (Value.slice A n c).ownBlock = none ∨ (Value.slice A n c).ownBlock ≠ (Value.slice B n d).ownBlock
  n1 : (Value.slice A n c).ownBlock ≠ some g
  n2 : (Value.slice B n d).ownBlock ≠ some g
  lt : g < w.heap.size
  ge : base ≤ g
theorem frozen_setCell (w : World) (a b : Addr) (v : Value) : (w.setCell a v).frozen? b = w.frozen? b := by simp
theorem own_other {w : World} {base : Nat} {v : Value} {zs : List Int} (h : Own w base v zs) (g i : Nat) (x : Value) (hg : v.ownBlock ≠ some g) : Own (w.setCell ⟨g, i, none⟩ x) base v zs :=
  h.kept (row := some g) ⟨rfl, rfl, rfl, by simp [World.setCell], fun k _ hne => heap_setCell_other w ⟨g, i, none⟩ k _ (fun e => hne (by simp [e]))⟩ (.inr hg)
theorem Trio.stored {w w1 : World} {g base : Nat} {rule : Int} {n : Nat} {p q : Two} {A B A' B' : Option Addr} {c d c' d' : Nat} (h : Trio w g base rule n p A B c d) (hb : Below w.heap.size w w1)
    (o1 : Own w1 base (.slice A' n c') q.1) (o2 : Own w1 base (.slice B' n d') q.2) (ne : (Value.slice A' n c').ownBlock = none ∨ (Value.slice A' n c').ownBlock ≠ (Value.slice B' n d').ownBlock)
    (n1 : (Value.slice A' n c').ownBlock ≠ some g) (n2 : (Value.slice B' n d').ownBlock ≠ some g) :
    Trio (((w1.setCell ⟨g, 0, none⟩ (.int .i64 rule)).setCell ⟨g, 1, none⟩ (.slice A' n c')).setCell ⟨g, 2, none⟩ (.slice B' n d')) g base rule n q A' B' c' d' := by
  have m0 := (hb.cell (p := ⟨g, 0, none⟩) h.lt).trans h.c0
  have m1 := (hb.cell (p := ⟨g, 1, none⟩) h.lt).trans h.c1
  have m2 := (hb.cell (p := ⟨g, 2, none⟩) h.lt).trans h.c2
  obtain ⟨e0, e1, e2⟩ := cells_store (x0 := .int .i64 rule) (x1 := .slice A' n c') (x2 := .slice B' n d') m0 m1 m2
  refine ⟨e0, e1, e2, fun i => ?_, ?_, ?_, ne, n1, n2, ?_, h.ge⟩
  · rw [frozen_setCell, frozen_setCell, frozen_setCell]
    exact (hb.frozen (p := ⟨g, i, none⟩) h.lt).trans (h.f i)
  · exact own_other (own_other (own_other o1 g 0 _ n1) g 1 _ n1) g 2 _ n1
  · exact own_other (own_other (own_other o2 g 0 _ n2) g 1 _ n2) g 2 _ n2
  · have := hb.size
    have := h.lt
    simp [World.setCell]
    omega
set_option maxHeartbeats 2000000 in
theorem ringRun_any (rule : Int) (A B : Option Addr) (n c m d : Nat) (a b : List Int) (s : Int) (w : World) (ha : IR w A n a) (hb : IR w B m b) :
    Calls Try.prog 18 #[.int .i64 rule, .slice A n c, .slice B m d, .int .i64 s] w (RTwo w (ringRun rule a b s)) := by
  have HA := hide ha
  have HB := hide hb
  have hla := ha.len
  have hlb := hb.len
  clear ha hb
  by_cases hq : runQ rule a b s = true
  · obtain ⟨⟨q1, q2⟩, q3⟩ : (ruleQ rule = true ∧ pairQ a b = true) ∧ stepsQ s = true := by simpa [runQ] using hq
    obtain ⟨l1, l2, tb⟩ := pair_bits q2
    rw [hla] at l1 l2 tb
    have hnm : m = n := by have := (pairQ_out q2).2.2; omega
    subst hnm
    obtain ⟨s1, s2⟩ := stepsQ_iff.1 q3
    have HS := Lib.hid (show ringRun rule a b s = bwd rule (-s).toNat (fwd rule s.toNat (a, b)) by simp [ringRun, hq, runTwo])
    have TB := hide tb
    have HR := hide q1
    have q3' : (decide (-99 ≤ s) && decide (s ≤ 99)) = true := q3
    have HLA := Lib.hid hla
    have HLB := Lib.hid hlb
    clear hq q3 tb hla hlb
    go_enter Try.func18, Try.ntmps18
    go_wp2_with fail
    refine (ruleOk_b true rule q1 _).mono ?_
    rintro e w' ⟨rfl, rfl⟩
    go_wp2_with fail
    refine (pairOk_b true A B m c m d a b _ q2 HA.out HB.out).mono ?_
    rintro e w' ⟨rfl, rfl⟩
    go_wp2_with fail
    refine (within_b true _ _ _ q3' _).mono ?_
    rintro e w' ⟨rfl, rfl⟩
    go_wp2_with fail
    refine (clone_any A m c a _ HA.out (by omega) (by omega)).mono ?_
    rintro e w1 ⟨⟨v1, rfl, ho1⟩, hb1⟩
    obtain ⟨A1, c1, rfl, _⟩ := ho1.sliceN HLA.out
    have O1 := hide ho1
    have B1 := hide hb1
    have hs1 := hb1.size
    clear ho1 hb1
    go_wp2_with fail
    refine (clone_any B m d b _ (HB.out.below B1.out) (by omega) (by omega)).mono ?_
    rintro e w2 ⟨⟨v2, rfl, ho2⟩, hb2⟩
    obtain ⟨A2, c2, rfl, _⟩ := ho2.sliceN HLB.out
    have hs2 := hb2.size
    have O2 := hide ho2
    have P2 := hide (O1.out.below hb2)
    have B2 := hide (bseq B1.out hb2)
    clear ho2 hb2
    go_wp2_with fail
    refine wp_named fun wr hwr => ?_
    have T0 : Trio wr w2.heap.size w.heap.size rule m (a, b) A1 A2 c1 c2 := by
      rw [← hwr]
      refine ⟨cell_at rfl rfl, cell_at rfl rfl, cell_at rfl rfl, fun i => by simp, P2.out.alloc _, (O2.out.base_le hs1).alloc _, ?_, ?_, ?_, by simp, by omega⟩
      · exact own_ne_new O1.out (fun k hk => (O2.out.lt k hk).1)
      · intro e; have := (P2.out.lt _ e).2; omega
      · intro e; have := (O2.out.lt _ e).2; omega
    have HT := hide T0
    have BR := hide (show Below w.heap.size w wr by rw [← hwr]; exact B2.out.alloc (by omega) _)
    generalize w2.heap.size = g at *
    clear hwr T0
    have sc := hide (show m ≤ 1000 by omega)
    go_loopw [3] (fun i wr => ∃ (k c d : Nat) (A B : Option Addr), k ≤ s.toNat ∧ i = .int .i64 (s - k) ∧ Trio wr g w.heap.size rule m (fwd rule k (a, b)) A B c d ∧ Below w.heap.size w wr) (fun i _ => (intOf i).toNat)
    case atStart => exact ⟨0, c1, c2, A1, A2, by omega, by simp, HT.out, BR.out⟩
    case round =>
      obtain ⟨k, c3, c4, A3, A4, hk, rfl, hT, hbw⟩ := hrel
      have HT := hide hT
      have HW := hide hbw
      have hsw := hbw.size
      have TK := hide (fwd_bits (rule := rule) TB.out k)
      have hlt := hT.lt
      obtain ⟨k0, k1, k2, kf, _⟩ := hT
      clear hbw
      by_cases hlt : 0 < s - (k : Int)
      · go_wp2_with fail
        refine (forward_any rule A3 A4 m c3 c4 _ _ _ HT.out.o1.ir HT.out.o2.ir HR.out (by omega) sc.out TK.out.1 TK.out.2).mono ?_
        rintro e w7 ⟨⟨v7, rfl, ho7⟩, hb7⟩
        obtain ⟨A7, c7, rfl, _⟩ := ho7.sliceN (sum2_bits (ruled_bits TK.out.2.1).1).1
        have O7 := hide ho7
        have hs7 := hb7.size
        have j0 := (hb7.cell (p := ⟨g, 0, none⟩) HT.out.lt).trans k0
        have j1 := (hb7.cell (p := ⟨g, 1, none⟩) HT.out.lt).trans k1
        have j2 := (hb7.cell (p := ⟨g, 2, none⟩) HT.out.lt).trans k2
        have jf : ∀ i, w7.frozen? ⟨g, i, none⟩ = false := fun i => (hb7.frozen (p := ⟨g, i, none⟩) HT.out.lt).trans (kf i)
        have HS7 := hide (HT.out.stored (q := fwd rule (k + 1) (a, b)) hb7 (HT.out.o2.below hb7) (ho7.base_le hsw) (own_ne_new HT.out.o2 (fun k hk => (ho7.lt k hk).1)) HT.out.n2 (fun e => by have := (ho7.lt _ e).1; have := HT.out.lt; omega))
        have B7 := hide ((((bseq HW.out hb7).setCell (p := ⟨g, 0, none⟩) HT.out.ge (.int .i64 rule)).setCell (p := ⟨g, 1, none⟩) HT.out.ge (.slice A4 m c4)).setCell (p := ⟨g, 2, none⟩) HT.out.ge (.slice A7 m c7))
        clear ho7 hb7
        go_wp2_with fail
        go_roundw
        case rel => exact ⟨k + 1, _, _, _, _, by omega, by go_num, HS7.out, B7.out⟩
        case measure => simp [intOf]; omega
      · have HK := Lib.hid (show k = s.toNat by omega)
        go_wp2_with fail
        go_loopw [3] (fun i w5 => ∃ (j c d : Nat) (A B : Option Addr), j ≤ (-s).toNat ∧ i = .int .i64 (s - k + j) ∧ Trio w5 g w.heap.size rule m (bwd rule j (fwd rule k (a, b))) A B c d ∧ Below w.heap.size w w5) (fun i _ => (-(intOf i)).toNat)
        case atStart => exact ⟨0, c3, c4, A3, A4, by omega, by simp, HT.out, HW.out⟩
        case round =>
          obtain ⟨j, c3, c4, A3, A4, hj, rfl, hT, hbw⟩ := hrel
          have HT := hide hT
          have HW := hide hbw
          have hsw := hbw.size
          have TJ := hide (bwd_bits (rule := rule) TK.out j)
          clear k0 k1 k2 kf
          obtain ⟨k0, k1, k2, kf, _⟩ := hT
          clear hbw
          by_cases hlt : s - (k : Int) + (j : Int) < 0
          · go_wp2_with fail
            refine (back_any rule A3 A4 m c3 c4 _ _ _ HT.out.o1.ir HT.out.o2.ir HR.out (by omega) sc.out TJ.out.1 TJ.out.2).mono ?_
            rintro e w7 ⟨⟨v7, rfl, ho7⟩, hb7⟩
            obtain ⟨A7, c7, rfl, _⟩ := ho7.sliceN (sum2_bits (ruled_bits TJ.out.1.1).1).1
            have hs7 := hb7.size
            have j0 := (hb7.cell (p := ⟨g, 0, none⟩) HT.out.lt).trans k0
            have j1 := (hb7.cell (p := ⟨g, 1, none⟩) HT.out.lt).trans k1
            have j2 := (hb7.cell (p := ⟨g, 2, none⟩) HT.out.lt).trans k2
            have jf : ∀ i, w7.frozen? ⟨g, i, none⟩ = false := fun i => (hb7.frozen (p := ⟨g, i, none⟩) HT.out.lt).trans (kf i)
            have ne7 : (Value.slice A7 m c7).ownBlock = none ∨ (Value.slice A7 m c7).ownBlock ≠ (Value.slice A3 m c3).ownBlock := by
              cases hv : (Value.slice A7 m c7).ownBlock with
              | none => exact .inl rfl
              | some x => right; intro e; have := (ho7.lt x hv).1; have := (HT.out.o1.lt x e.symm).2; omega
            have HS7 := hide (HT.out.stored (q := bwd rule (j + 1) (fwd rule k (a, b))) hb7 (ho7.base_le hsw) (HT.out.o1.below hb7) ne7 (fun e => by have := (ho7.lt _ e).1; have := HT.out.lt; omega) HT.out.n1)
            have B7 := hide ((((bseq HW.out hb7).setCell (p := ⟨g, 0, none⟩) HT.out.ge (.int .i64 rule)).setCell (p := ⟨g, 1, none⟩) HT.out.ge (.slice A7 m c7)).setCell (p := ⟨g, 2, none⟩) HT.out.ge (.slice A3 m c3))
            clear ho7 hb7 ne7
            go_wp2_with fail
            go_roundw
            case rel => exact ⟨j + 1, _, _, _, _, by omega, by go_num, HS7.out, B7.out⟩
            case measure => simp [intOf]; omega
          · have HJ := Lib.hid (show j = (-s).toNat by omega)
            have hc3 : m ≤ c3 ∧ c3 ≤ maxLen := by
              rcases HT.out.o1.form with ⟨e, e0⟩ | ⟨g', c', e, _, _, h1, h2⟩
              · simp only [Value.slice.injEq] at e; omega
              · simp only [Value.slice.injEq] at e; omega
            have hc4 : m ≤ c4 ∧ c4 ≤ maxLen := by
              rcases HT.out.o2.form with ⟨e, e0⟩ | ⟨g', c', e, _, _, h1, h2⟩
              · simp only [Value.slice.injEq] at e; omega
              · simp only [Value.slice.injEq] at e; omega
            have C3 := hide hc3
            have C4 := hide hc4
            clear hc3 hc4
            go_wp2_with fail
            go_quiet (first | (go_at_call 50; exact quiet_eq (clip_any A3 m c3 _ C3.out.1 C3.out.2)) | (go_at_call 50; exact quiet_eq (clip_any A4 m c4 _ C4.out.1 C4.out.2)))
            go_wp2_with fail
            go_ret2
            exact ⟨⟨_, _, rfl, by rw [HS.out, ← HK.out, ← HJ.out]; exact HT.out.o1.mine.clip rfl, by rw [HS.out, ← HK.out, ← HJ.out]; exact HT.out.o2.mine.clip rfl, ne_cap HT.out.ne⟩, below_drewN HW.out _⟩
  · have HS := Lib.hid (show ringRun rule a b s = ([], []) by simp [ringRun, hq])
    cases h1 : ruleQ rule
    · go_enter Try.func18, Try.ntmps18
      go_wp2_with fail
      refine (ruleOk_b false rule h1 _).mono ?_
      rintro e w' ⟨rfl, rfl⟩
      go_wp2_with fail
      go_ret2
      exact ⟨⟨_, _, rfl, by rw [HS.out]; exact .inl ⟨rfl, rfl⟩, by rw [HS.out]; exact .inl ⟨rfl, rfl⟩, .inl rfl⟩, Below.refl _ _⟩
    · cases h2 : pairQ a b
      · go_enter Try.func18, Try.ntmps18
        go_wp2_with fail
        refine (ruleOk_b true rule h1 _).mono ?_
        rintro e w' ⟨rfl, rfl⟩
        go_wp2_with fail
        refine (pairOk_b false A B n c m d a b _ h2 HA.out HB.out).mono ?_
        rintro e w' ⟨rfl, rfl⟩
        go_wp2_with fail
        go_ret2
        exact ⟨⟨_, _, rfl, by rw [HS.out]; exact .inl ⟨rfl, rfl⟩, by rw [HS.out]; exact .inl ⟨rfl, rfl⟩, .inl rfl⟩, Below.refl _ _⟩
      · have h3 : stepsQ s = false := by
          cases h : stepsQ s
          · rfl
          · exact absurd (by simp [runQ, h1, h2, h]) hq
        have h3' : (decide (-99 ≤ s) && decide (s ≤ 99)) = false := h3
        clear hq h3
        go_enter Try.func18, Try.ntmps18
        go_wp2_with fail
        refine (ruleOk_b true rule h1 _).mono ?_
        rintro e w' ⟨rfl, rfl⟩
        go_wp2_with fail
        refine (pairOk_b true A B n c m d a b _ h2 HA.out HB.out).mono ?_
        rintro e w' ⟨rfl, rfl⟩
        go_wp2_with fail
        refine (within_b false _ _ _ h3' _).mono ?_
        rintro e w' ⟨rfl, rfl⟩
        go_wp2_with fail
        go_ret2
        exact ⟨⟨_, _, rfl, by rw [HS.out]; exact .inl ⟨rfl, rfl⟩, by rw [HS.out]; exact .inl ⟨rfl, rfl⟩, .inl rfl⟩, Below.refl _ _⟩
theorem ringRun_lens (rule : Int) (a b : List Int) (s : Int) : (ringRun rule a b s).1.length ≤ 4000000 ∧ (ringRun rule a b s).2.length ≤ 4000000 := by
  unfold ringRun
  by_cases h : runQ rule a b s = true
  · rw [if_pos h]
    have h2 : pairQ a b = true := by simp [runQ] at h; exact h.1.2
    obtain ⟨l1, l2, tb⟩ := pair_bits h2
    have := run_bits (rule := rule) tb s
    exact ⟨by rw [this.1.1]; omega, by rw [this.2.1]; omega⟩
  · rw [if_neg h]; exact ⟨by simp, by simp⟩
end Go.Proofs.Ytefkbjccgajbiaa
