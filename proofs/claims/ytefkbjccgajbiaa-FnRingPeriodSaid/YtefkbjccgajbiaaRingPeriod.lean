/-
  Rings: RingPeriod of the program and of the reference.
  No condition.
-/
import Derived.Test.YtefkbjccgajbiaaRingRun
namespace Go.Proofs.Ytefkbjccgajbiaa
open Go.RowKit Go.Sort base
/-- the least number of steps behind which two rings are as before -/
def perOf (rule : Int) (p : Two) : Int :=
  match (List.range 99).find? (fun k => decide (fwd rule (k + 1) p = p)) with
  | some k => (k : Int) + 1
  | none => -1
def ringPeriod (rule : Int) (a b : List Int) : Int := if ruleQ rule && pairQ a b then perOf rule (a, b) else -1
theorem find_range {q : Nat → Bool} : ∀ (n k : Nat), k < n → q k = true → (∀ j, j < k → q j = false) → (List.range n).find? q = some k
  | 0, _, h, _, _ => absurd h (by omega)
  | n + 1, k, h, hq, hno => by
    rw [List.range_succ, List.find?_append]
    by_cases hk : k < n
    · rw [find_range n k hk hq hno]; rfl
    · have hkn : k = n := by omega
      subst hkn
      rw [show (List.range k).find? q = none from List.find?_eq_none.2 fun x hx => by simpa using hno x (by simpa using hx)]
      simp [hq]
theorem per_at {rule : Int} {p : Two} {k : Nat} (h1 : 1 ≤ k) (h2 : k ≤ 99) (h : fwd rule k p = p) (hno : ∀ j, 1 ≤ j → j < k → fwd rule j p ≠ p) : perOf rule p = (k : Int) := by
  unfold perOf
  rw [find_range 99 (k - 1) (by omega) (by simp only [decide_eq_true_eq]; rw [show k - 1 + 1 = k by omega]; exact h) (fun j hj => by simp only [decide_eq_false_iff_not]; exact hno (j + 1) (by omega) (by omega))]
  simp only
  omega
theorem per_no {rule : Int} {p : Two} (hno : ∀ j, 1 ≤ j → j ≤ 99 → fwd rule j p ≠ p) : perOf rule p = -1 := by
  unfold perOf
  rw [List.find?_eq_none.2 fun x hx => by
    have := List.mem_range.1 hx
    simp only [decide_eq_true_eq]
    exact hno (x + 1) (by omega) (by omega)]
/-- what is known of a period -/
theorem per_cases (rule : Int) (p : Two) : (∃ k : Nat, 1 ≤ k ∧ k ≤ 99 ∧ perOf rule p = (k : Int) ∧ fwd rule k p = p ∧ ∀ j, 1 ≤ j → j < k → fwd rule j p ≠ p) ∨ (perOf rule p = -1 ∧ ∀ j, 1 ≤ j → j ≤ 99 → fwd rule j p ≠ p) := by
  by_cases h : ∃ k, k < 99 ∧ fwd rule (k + 1) p = p ∧ ∀ j, j < k → fwd rule (j + 1) p ≠ p
  · obtain ⟨k, h1, h2, h3⟩ := h
    refine .inl ⟨k + 1, by omega, by omega, per_at (by omega) (by omega) h2 fun j j1 j2 => ?_, h2, fun j j1 j2 => ?_⟩
    · have := h3 (j - 1) (by omega); rwa [show j - 1 + 1 = j by omega] at this
    · have := h3 (j - 1) (by omega); rwa [show j - 1 + 1 = j by omega] at this
  · have hall : ∀ k, k < 99 → fwd rule (k + 1) p ≠ p := by
      intro k
      induction k using Nat.strongRecOn with
      | _ k ih => intro hk e; exact h ⟨k, hk, e, fun j hj => ih j hj (by omega)⟩
    have hno : ∀ j, 1 ≤ j → j ≤ 99 → fwd rule j p ≠ p := fun j j1 j2 => by
      have := hall (j - 1) (by omega); rwa [show j - 1 + 1 = j by omega] at this
    exact .inr ⟨per_no hno, hno⟩
theorem irk_setCell {w : World} {A : Option Addr} {n : Nat} {zs : List Int} (h : IR w A n zs) (g i : Nat) (x : Value) (hne : ∀ b o, A = some ⟨b, o, none⟩ → b ≠ g) : IR (w.setCell ⟨g, i, none⟩ x) A n zs :=
  ⟨h.len, h.max, fun hn => by
    obtain ⟨b, o, e, hb, hc⟩ := h.at_ hn
    refine ⟨b, o, e, by simpa [World.setCell] using hb, fun j hj => ?_⟩
    rw [World.cell?_setCell_other _ _ _ _ (by simp; intro e'; exact absurd e'.symm (hne b o e))]
    exact hc j hj⟩
/- three cells of a block of the call's own that hold a rule and two rings -/
structure Trip (w : World) (g : Nat) (rule : Int) (n : Nat) (p : Two) (A B : Option Addr) (c d : Nat) : Prop where
  c0 : w.cell? ⟨g, 0, none⟩ = some (.int .i64 rule)
  c1 : w.cell? ⟨g, 1, none⟩ = some (.slice A n c)
  c2 : w.cell? ⟨g, 2, none⟩ = some (.slice B n d)
  f : ∀ i, w.frozen? ⟨g, i, none⟩ = false
  r1 : IR w A n p.1
  r2 : IR w B n p.2
  n1 : ∀ b o, A = some ⟨b, o, none⟩ → b ≠ g
  n2 : ∀ b o, B = some ⟨b, o, none⟩ → b ≠ g
  lt : g < w.heap.size
theorem Trip.stored {w w1 : World} {g : Nat} {rule : Int} {n : Nat} {p q : Two} {A B A' B' : Option Addr} {c d c' d' : Nat} (h : Trip w g rule n p A B c d) (hb : Below w.heap.size w w1)
    (r1 : IR w1 A' n q.1) (r2 : IR w1 B' n q.2) (n1 : ∀ b o, A' = some ⟨b, o, none⟩ → b ≠ g) (n2 : ∀ b o, B' = some ⟨b, o, none⟩ → b ≠ g) :
    Trip (((w1.setCell ⟨g, 0, none⟩ (.int .i64 rule)).setCell ⟨g, 1, none⟩ (.slice A' n c')).setCell ⟨g, 2, none⟩ (.slice B' n d')) g rule n q A' B' c' d' := by
  have m0 := (hb.cell (p := ⟨g, 0, none⟩) h.lt).trans h.c0
  have m1 := (hb.cell (p := ⟨g, 1, none⟩) h.lt).trans h.c1
  have m2 := (hb.cell (p := ⟨g, 2, none⟩) h.lt).trans h.c2
  obtain ⟨e0, e1, e2⟩ := cells_store (x0 := .int .i64 rule) (x1 := .slice A' n c') (x2 := .slice B' n d') m0 m1 m2
  refine ⟨e0, e1, e2, fun i => ?_, ?_, ?_, n1, n2, ?_⟩
  · rw [frozen_setCell, frozen_setCell, frozen_setCell]
    exact (hb.frozen (p := ⟨g, i, none⟩) h.lt).trans (h.f i)
  · exact irk_setCell (irk_setCell (irk_setCell r1 g 0 _ n1) g 1 _ n1) g 2 _ n1
  · exact irk_setCell (irk_setCell (irk_setCell r2 g 0 _ n2) g 1 _ n2) g 2 _ n2
  · have := hb.size
    have := h.lt
    simp [World.setCell]
    omega
theorem Trip.drewN {w : World} {g : Nat} {rule : Int} {n : Nat} {p : Two} {A B : Option Addr} {c d : Nat} (h : Trip w g rule n p A B c d) (q : Nat) : Trip (w.drewN q) g rule n p A B c d :=
  ⟨h.c0, h.c1, h.c2, h.f, h.r1.keep (Nat.le_refl _) (fun _ _ => rfl), h.r2.keep (Nat.le_refl _) (fun _ _ => rfl), h.n1, h.n2, h.lt⟩
set_option maxHeartbeats 2000000 in
theorem ringPeriod_any (rule : Int) (A B : Option Addr) (n c m d : Nat) (a b : List Int) (w : World) (ha : IR w A n a) (hb : IR w B m b) :
    Calls Try.prog 31 #[.int .i64 rule, .slice A n c, .slice B m d] w fun e w' => e = .returned (.int .i64 (ringPeriod rule a b)) ∧ Below w.heap.size w w' := by
  have HA := hide ha
  have HB := hide hb
  have hla := ha.len
  cases h1 : ruleQ rule
  · have HS := Lib.hid (show ringPeriod rule a b = -1 by simp [ringPeriod, h1])
    clear ha hb
    go_enter Try.func31, Try.ntmps31
    go_wp2_with fail
    refine (ruleOk_b false rule h1 _).mono ?_
    rintro e w' ⟨rfl, rfl⟩
    go_wp2_with fail
    go_ret
    exact ⟨by rw [HS.out]; rfl, Below.refl _ _⟩
  · cases h2 : pairQ a b
    · have HS := Lib.hid (show ringPeriod rule a b = -1 by simp [ringPeriod, h2])
      clear ha hb
      go_enter Try.func31, Try.ntmps31
      go_wp2_with fail
      refine (ruleOk_b true rule h1 _).mono ?_
      rintro e w' ⟨rfl, rfl⟩
      go_wp2_with fail
      refine (pairOk_b false A B n c m d a b _ h2 HA.out HB.out).mono ?_
      rintro e w' ⟨rfl, rfl⟩
      go_wp2_with fail
      go_ret
      exact ⟨by rw [HS.out]; rfl, Below.refl _ _⟩
    · have HS := Lib.hid (show ringPeriod rule a b = perOf rule (a, b) by simp [ringPeriod, h1, h2])
      obtain ⟨l1, l2, tb⟩ := pair_bits h2
      have hnm : m = n := by have := (pairQ_out h2).2.2; have := hb.len; omega
      subst hnm
      rw [hla] at l1 l2 tb
      have TB := hide tb
      have HR := hide h1
      have sc := hide (show m ≤ 1000 by omega)
      have NA := hide (show ∀ b o, A = some ⟨b, o, none⟩ → b ≠ w.heap.size from fun b o e => by
        obtain ⟨b', o', e', hb', _⟩ := ha.at_ (by omega)
        rw [e] at e'; simp at e'; omega)
      have NB := hide (show ∀ b o, B = some ⟨b, o, none⟩ → b ≠ w.heap.size from fun b o e => by
        obtain ⟨b', o', e', hb', _⟩ := hb.at_ (by omega)
        rw [e] at e'; simp at e'; omega)
      clear ha hb tb hla
      go_enter Try.func31, Try.ntmps31
      go_wp2_with fail
      refine (ruleOk_b true rule h1 _).mono ?_
      rintro e w' ⟨rfl, rfl⟩
      go_wp2_with fail
      refine (pairOk_b true A B m c m d a b _ h2 HA.out HB.out).mono ?_
      rintro e w' ⟨rfl, rfl⟩
      go_wp2_with fail
      refine wp_named fun wr hwr => ?_
      have BR := hide (show Below w.heap.size w wr by rw [← hwr]; exact (Below.refl _ w).alloc (Nat.le_refl _) _)
      have HT := hide (show Trip wr w.heap.size rule m (a, b) A B c d from ⟨by rw [← hwr]; exact cell_at rfl rfl, by rw [← hwr]; exact cell_at rfl rfl, by rw [← hwr]; exact cell_at rfl rfl, fun i => by rw [← hwr]; simp, HA.out.below BR.out, HB.out.below BR.out, NA.out, NB.out, by rw [← hwr]; simp⟩)
      generalize hg : w.heap.size = g at *
      clear hwr
      go_loopw [8] (fun i wr => ∃ (k c d : Nat) (A B : Option Addr), 1 ≤ k ∧ k ≤ 100 ∧ i = .int .i64 k ∧ Hid (Trip wr g rule m (fwd rule (k - 1) (a, b)) A B c d) ∧ Hid (Below g w wr) ∧ Hid (∀ j, 1 ≤ j → j < k → fwd rule j (a, b) ≠ (a, b))) (fun i _ => 100 - (intOf i).toNat)
      case atStart => exact ⟨1, c, d, A, B, by omega, by omega, rfl, HT.out, BR.out, fun j j1 j2 => absurd j1 (by omega)⟩
      case round =>
        obtain ⟨k, c3, c4, A3, A4, hk1, hk, rfl, HT, HW, HN⟩ := hrel
        have hsw := HW.out.size
        have TK := hide (fwd_bits (rule := rule) TB.out (k - 1))
        obtain ⟨k0, k1, k2, kf, _⟩ := HT.out
        by_cases hlt : k ≤ 99
        · go_wp2_with fail
          refine (forward_any rule A3 A4 m c3 c4 _ _ _ HT.out.r1 HT.out.r2 HR.out (by omega) sc.out TK.out.1 TK.out.2).mono ?_
          rintro e w7 ⟨⟨v7, rfl, ho7⟩, hb7⟩
          obtain ⟨A7, c7, rfl, r7⟩ := ho7.sliceN (sum2_bits (ruled_bits TK.out.2.1).1).1
          have hs7 := hb7.size
          have j0 := (hb7.cell (p := ⟨g, 0, none⟩) HT.out.lt).trans k0
          have j1 := (hb7.cell (p := ⟨g, 1, none⟩) HT.out.lt).trans k1
          have j2 := (hb7.cell (p := ⟨g, 2, none⟩) HT.out.lt).trans k2
          have jf : ∀ i, w7.frozen? ⟨g, i, none⟩ = false := fun i => (hb7.frozen (p := ⟨g, i, none⟩) HT.out.lt).trans (kf i)
          have n7 : ∀ b o, A7 = some ⟨b, o, none⟩ → b ≠ g := fun b o e => by
            have := (ho7.lt b (by rw [e]; rfl)).1
            have := HT.out.lt
            omega
          have ek : fwd rule k (a, b) = next rule (fwd rule (k - 1) (a, b)) := by
            obtain ⟨j, rfl⟩ : ∃ j, k = j + 1 := ⟨k - 1, by omega⟩
            rfl
          have q1 : IR w7 A4 m (fwd rule k (a, b)).1 := by rw [ek]; exact HT.out.r2.below hb7
          have q2 : IR w7 A7 m (fwd rule k (a, b)).2 := by rw [ek]; exact r7
          have ST := hide (HT.out.stored (c' := c4) (d' := c7) (q := fwd rule k (a, b)) hb7 q1 q2 HT.out.n2 n7)
          clear ek q1 q2
          have ST := hide (show Trip (((w7.setCell ⟨g, 0, none⟩ (.int .i64 rule)).setCell ⟨g, 1, none⟩ (.slice A4 m c4)).setCell ⟨g, 2, none⟩ (.slice A7 m c7)) g rule m (fwd rule k (a, b)) A4 A7 c4 c7 from ST.out)
          have BS := hide (show Below g w (((w7.setCell ⟨g, 0, none⟩ (.int .i64 rule)).setCell ⟨g, 1, none⟩ (.slice A4 m c4)).setCell ⟨g, 2, none⟩ (.slice A7 m c7)) from (((HW.out.trans (hb7.mono (by have := HT.out.lt; omega))).setCell (p := ⟨g, 0, none⟩) (Nat.le_refl _) _).setCell (p := ⟨g, 1, none⟩) (Nat.le_refl _) _).setCell (p := ⟨g, 2, none⟩) (Nat.le_refl _) _)
          clear ho7 hb7 r7 n7
          go_wp2_with fail
          generalize (((w7.setCell ⟨g, 0, none⟩ (.int .i64 rule)).setCell ⟨g, 1, none⟩ (.slice A4 m c4)).setCell ⟨g, 2, none⟩ (.slice A7 m c7)) = wx at *
          clear k0 k1 k2 kf j0 j1 j2 jf
          have x1 := ST.out.c1
          have x2 := ST.out.c2
          go_wp2_with fail
          refine (equal_any A4 A m c4 m c (fwd rule k (a, b)).1 a _ ST.out.r1 (HA.out.below (by rw [hg]; exact BS.out))).mono ?_
          rintro e w8 ⟨rfl, q8, hq8⟩
          have ST8 := hide (show Trip w8 g rule m (fwd rule k (a, b)) A4 A7 c4 c7 by rw [hq8]; exact ST.out.drewN q8)
          have BS8 := hide (show Below g w w8 by rw [hq8]; exact below_drewN BS.out q8)
          clear hq8 x1 x2
          have x1 := ST8.out.c1
          have x2 := ST8.out.c2
          cases he1 : ((fwd rule k (a, b)).1 == a)
          · have HE := Lib.hid (show fwd rule k (a, b) ≠ (a, b) from fun e => by rw [e] at he1; simp at he1)
            clear he1
            go_wp2_with fail
            go_roundw
            case rel =>
              refine ⟨k + 1, _, _, _, _, by omega, by omega, by go_num, ST8.out, BS8.out, fun j j1 j2 => ?_⟩
              rcases Nat.lt_or_ge j k with h | h
              · exact HN.out j j1 h
              · obtain rfl : j = k := by omega
                exact HE.out
            case measure => simp [intOf]; omega
          · have HE1 := Lib.hid he1
            clear he1
            go_wp2_with fail
            refine (equal_any A7 B m c7 m d (fwd rule k (a, b)).2 b _ ST8.out.r2 (HB.out.below (by rw [hg]; exact BS8.out))).mono ?_
            rintro e w9 ⟨rfl, q9, hq9⟩
            have ST9 := hide (show Trip w9 g rule m (fwd rule k (a, b)) A4 A7 c4 c7 by rw [hq9]; exact ST8.out.drewN q9)
            have BS9 := hide (show Below g w w9 by rw [hq9]; exact below_drewN BS8.out q9)
            clear hq9 x1 x2
            cases he2 : ((fwd rule k (a, b)).2 == b)
            · have HE := Lib.hid (show fwd rule k (a, b) ≠ (a, b) from fun e => by rw [e] at he2; simp at he2)
              clear he2
              go_wp2_with fail
              go_roundw
              case rel =>
                refine ⟨k + 1, _, _, _, _, by omega, by omega, by go_num, ST9.out, BS9.out, fun j j1 j2 => ?_⟩
                rcases Nat.lt_or_ge j k with h | h
                · exact HN.out j j1 h
                · obtain rfl : j = k := by omega
                  exact HE.out
              case measure => simp [intOf]; omega
            · have HE := Lib.hid (show perOf rule (a, b) = (k : Int) from per_at hk1 hlt (Prod.ext (by simpa using HE1.out) (by simpa using he2)) HN.out)
              clear he2
              go_wp2_with fail
              go_ret
              exact ⟨by rw [HS.out, HE.out]; rfl, by rw [hg]; exact BS9.out⟩
        · obtain rfl : k = 100 := by omega
          have HE := Lib.hid (show perOf rule (a, b) = -1 from per_no fun j j1 j2 => HN.out j j1 (by omega))
          go_wp2_with fail
          go_ret
          exact ⟨by rw [HS.out, HE.out]; rfl, by rw [hg]; exact HW.out⟩
def sameTo (x y a b : List Int) : Nat → Bool
  | 0 => true
  | k + 1 => (sameTo x y a b k && nth x k == nth a k) && nth y k == nth b k
theorem sameTo_iff {x y a b : List Int} : ∀ k, sameTo x y a b k = true ↔ ∀ j, j < k → nth x j = nth a j ∧ nth y j = nth b j
  | 0 => by simp [sameTo]
  | k + 1 => by
    simp only [sameTo, Bool.and_eq_true, beq_iff_eq, sameTo_iff k]
    constructor
    · rintro ⟨⟨h1, h2⟩, h3⟩ j hj
      rcases Nat.lt_or_ge j k with h | h
      · exact h1 j h
      · obtain rfl : j = k := by omega
        exact ⟨h2, h3⟩
    · exact fun h => ⟨⟨fun j hj => h j (by omega), (h k (by omega)).1⟩, (h k (by omega)).2⟩
theorem sameTo_all {x y a b : List Int} {m : Nat} (h1 : x.length = m) (h2 : y.length = m) (h3 : a.length = m) (h4 : b.length = m) : sameTo x y a b m = true ↔ (x, y) = (a, b) := by
  rw [sameTo_iff, Prod.mk.injEq]
  constructor
  · intro h
    exact ⟨nth_ext (by omega) fun j hj => (h j (by omega)).1, nth_ext (by omega) fun j hj => (h j (by omega)).2⟩
  · rintro ⟨rfl, rfl⟩ j _; exact ⟨rfl, rfl⟩
set_option maxRecDepth 100000 in
set_option maxHeartbeats 4000000 in
theorem sRingPeriod_any (rule : Int) (A B : Option Addr) (n c m d : Nat) (a b : List Int) (w : World) (ha : IR w A n a) (hb : IR w B m b) :
    Calls Try.prog 32 #[.int .i64 rule, .slice A n c, .slice B m d] w fun e w' => e = .returned (.int .i64 (ringPeriod rule a b)) ∧ Below w.heap.size w w' := by
  have HA := hide ha
  have HB := hide hb
  have hla := ha.len
  have hlb := hb.len
  cases h1 : ruleQ rule && pairQ a b
  · have HS := Lib.hid (show ringPeriod rule a b = -1 by simp [ringPeriod, h1])
    have HR := Lib.hid (show ringRun rule a b 1 = ([], []) by
      have : runQ rule a b 1 = false := by unfold runQ; rw [h1]; rfl
      simp [ringRun, this])
    clear ha hb hla hlb h1
    go_enter Try.func32, Try.ntmps32
    go_wp2_with fail
    go_loopw [7] (fun i wr => i = .int .i64 1 ∧ wr = w) (fun _ _ => 0)
    case atStart => exact ⟨rfl, rfl⟩
    case round =>
      obtain ⟨rfl, rfl⟩ := hrel
      go_wp2_with fail
      refine (sRingRun_any rule A B n c m d a b 1 _ HA.out HB.out).mono ?_
      rintro e w1 ⟨⟨v0, v1, rfl, m0, m1, _⟩, hb1⟩
      rw [HR.out] at m0 m1
      have B1 := hide hb1
      clear hb1
      obtain ⟨A0, c0, rfl, _⟩ := m0.sliceN (n := 0) rfl
      obtain ⟨A1, c1, rfl, _⟩ := m1.sliceN (n := 0) rfl
      clear m0 m1
      go_wp2_with fail
      go_ret
      exact ⟨by rw [HS.out]; rfl, B1.out⟩
  · have HS := Lib.hid (show ringPeriod rule a b = perOf rule (a, b) by simp [ringPeriod, h1])
    rw [Bool.and_eq_true] at h1
    obtain ⟨q1, q2⟩ := h1
    obtain ⟨l1, l2, tb⟩ := pair_bits q2
    have hnm : m = n := by have := (pairQ_out q2).2.2; omega
    subst hnm
    rw [hla] at l1 l2 tb
    have HR := hide (show ∀ k : Nat, k ≤ 99 → ringRun rule a b (k : Int) = fwd rule k (a, b) from fun k hk => by
      have : runQ rule a b (k : Int) = true := by
        unfold runQ
        rw [q1, q2, stepsQ_iff.2 ⟨by omega, by omega⟩]; rfl
      rw [ringRun, if_pos this, run_pos])
    have TB := hide tb
    have HLA := Lib.hid hla
    have HLB := Lib.hid hlb
    have e0 : ((m : Int) == 0) = false := by simp; omega
    obtain ⟨_, _, hta⟩ := ha
    obtain ⟨_, hmax, htb⟩ := hb
    obtain ⟨p1, o1, rfl, hbl1, hc1⟩ := hta (by omega)
    obtain ⟨p2, o2, rfl, hbl2, hc2⟩ := htb (by omega)
    have HC1 := hide hc1
    have HC2 := hide hc2
    clear hta htb hc1 hc2 tb q1 q2 hla hlb
    go_enter Try.func32, Try.ntmps32
    go_wp2_with fail
    go_loopw [7] (fun i wr => ∃ k : Nat, 1 ≤ k ∧ k ≤ 100 ∧ i = .int .i64 k ∧ Hid (∀ j, 1 ≤ j → j < k → fwd rule j (a, b) ≠ (a, b)) ∧ Hid (Below w.heap.size w wr)) (fun i _ => 100 - (intOf i).toNat)
    case atStart => exact ⟨1, by omega, by omega, rfl, fun j j1 j2 => absurd j1 (by omega), Below.refl _ _⟩
    case round =>
      obtain ⟨k, hk1, hk, rfl, HN, HW⟩ := hrel
      by_cases hlt : k ≤ 99
      · have TK := hide (fwd_bits (rule := rule) TB.out k)
        go_wp2_with fail
        refine (sRingRun_any rule _ _ m c m d a b (k : Int) _ (HA.out.below HW.out) (HB.out.below HW.out)).mono ?_
        rintro e w1 ⟨⟨v0, v1, rfl, m0, m1, _⟩, hb1⟩
        rw [HR.out k hlt] at m0 m1
        have B1 := hide (bseq HW.out hb1)
        clear hb1
        obtain ⟨A0, c0, rfl, r0⟩ := m0.sliceN TK.out.1.1
        obtain ⟨A1, c1, rfl, r1⟩ := m1.sliceN TK.out.2.1
        obtain ⟨_, _, ht0⟩ := r0
        obtain ⟨_, _, ht1⟩ := r1
        obtain ⟨p3, o3, rfl, hbl3, hc3⟩ := ht0 (by omega)
        obtain ⟨p4, o4, rfl, hbl4, hc4⟩ := ht1 (by omega)
        have HC3 := hide hc3
        have HC4 := hide hc4
        clear ht0 ht1 hc3 hc4 m0 m1
        go_wp2_with fail
        go_loopw [10, 11] (fun s i w2 => ∃ j : Nat, j ≤ m ∧ i = .int .i64 j ∧ s = .bool (sameTo (fwd rule k (a, b)).1 (fwd rule k (a, b)).2 a b j) ∧ Hid (∃ q, w2 = w1.drewN q)) (fun _ i _ => m - (intOf i).toNat)
        case atStart => exact ⟨0, by omega, rfl, rfl, ⟨0, rfl⟩⟩
        case round =>
          obtain ⟨j, hj, rfl, rfl, HD⟩ := hrel
          have HB2 := hide (show Below w.heap.size w wr by obtain ⟨q, hq⟩ := HD.out; rw [hq]; exact below_drewN B1.out q)
          by_cases hlj : j < m
          · have g1 : wr.cell? ⟨p1, o1 + j, none⟩ = some (.int .i64 (nth a j)) := (HB2.out.cell (p := ⟨p1, o1 + j, none⟩) hbl1).trans (HC1.out j hlj)
            have g2 : wr.cell? ⟨p2, o2 + j, none⟩ = some (.int .i64 (nth b j)) := (HB2.out.cell (p := ⟨p2, o2 + j, none⟩) hbl2).trans (HC2.out j hlj)
            have g3 : wr.cell? ⟨p3, o3 + j, none⟩ = some (.int .i64 (nth (fwd rule k (a, b)).1 j)) := by obtain ⟨q, hq⟩ := HD.out; rw [hq]; exact HC3.out j hlj
            have g4 : wr.cell? ⟨p4, o4 + j, none⟩ = some (.int .i64 (nth (fwd rule k (a, b)).2 j)) := by obtain ⟨q, hq⟩ := HD.out; rw [hq]; exact HC4.out j hlj
            have HT := Lib.hid (show sameTo (fwd rule k (a, b)).1 (fwd rule k (a, b)).2 a b (j + 1) = ((sameTo (fwd rule k (a, b)).1 (fwd rule k (a, b)).2 a b j && nth (fwd rule k (a, b)).1 j == nth a j) && nth (fwd rule k (a, b)).2 j == nth b j) from rfl)
            cases hs : sameTo (fwd rule k (a, b)).1 (fwd rule k (a, b)).2 a b j
            · have HSS := Lib.hid hs
              clear hs
              go_wp2_with fail
              go_quiet (fail)
              go_wp2_with fail
              go_roundw
              case rel => exact ⟨j + 1, by omega, by go_num, by rw [HT.out, HSS.out]; rfl, by obtain ⟨q, hq⟩ := HD.out; exact ⟨q + nq, by rw [hq, World.drewN_drewN]⟩⟩
              case measure => simp [intOf]; omega
            · have HSS := Lib.hid hs
              clear hs
              cases he : (nth (fwd rule k (a, b)).1 j == nth a j)
              · have HE := Lib.hid he
                go_wp2_with fail
                go_quiet (fail)
                go_wp2_with fail
                go_roundw
                case rel => exact ⟨j + 1, by omega, by go_num, by rw [HT.out, HSS.out, HE.out]; rfl, by obtain ⟨q, hq⟩ := HD.out; exact ⟨q + nq, by rw [hq, World.drewN_drewN]⟩⟩
                case measure => simp [intOf]; omega
              · have HE := Lib.hid he
                go_wp2_with fail
                go_quiet (fail)
                go_wp2_with fail
                go_roundw
                case rel => exact ⟨j + 1, by omega, by go_num, by rw [HT.out, HSS.out, HE.out]; rfl, by obtain ⟨q, hq⟩ := HD.out; exact ⟨q + nq, by rw [hq, World.drewN_drewN]⟩⟩
                case measure => simp [intOf]; omega
          · obtain rfl : j = m := by omega
            cases hs : sameTo (fwd rule k (a, b)).1 (fwd rule k (a, b)).2 a b j
            · have HE := Lib.hid (show fwd rule k (a, b) ≠ (a, b) from fun e => by
                have := (sameTo_all TK.out.1.1 TK.out.2.1 HLA.out HLB.out).2 e
                rw [hs] at this; cases this)
              clear hs
              go_wp2_with fail
              go_roundw
              case rel =>
                refine ⟨k + 1, by omega, by omega, by go_num, fun i i1 i2 => ?_, HB2.out⟩
                rcases Nat.lt_or_ge i k with h | h
                · exact HN.out i i1 h
                · obtain rfl : i = k := by omega
                  exact HE.out
              case measure => simp [intOf]; omega
            · have HE := Lib.hid (show perOf rule (a, b) = (k : Int) from per_at hk1 hlt ((sameTo_all TK.out.1.1 TK.out.2.1 HLA.out HLB.out).1 hs) HN.out)
              clear hs
              go_wp2_with fail
              go_ret
              exact ⟨by rw [HS.out, HE.out]; rfl, HB2.out⟩
      · obtain rfl : k = 100 := by omega
        have HE := Lib.hid (show perOf rule (a, b) = -1 from per_no fun j j1 j2 => HN.out j j1 (by omega))
        go_wp2_with fail
        go_ret
        exact ⟨by rw [HS.out, HE.out]; rfl, HW.out⟩
end Go.Proofs.Ytefkbjccgajbiaa
