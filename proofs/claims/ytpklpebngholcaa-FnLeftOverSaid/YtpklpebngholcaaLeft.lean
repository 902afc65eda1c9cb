/-
  What is left over of a formula, by the program and by the reference.
  No condition.
-/
import Derived.Maps.Views
import Derived.Maps.OwnSet
import Derived.Maps.OwnOps
import Derived.Test.YtpklpebngholcaaLeftLaw
import Derived.Test.YtpklpebngholcaaGateApp
import Derived.Test.YtpklpebngholcaaFuncOf
import Derived.Test.YtpklpebngholcaaInv
namespace Go.Proofs.Ytpklpebngholcaa
open Go.RowKit Go.Sort base
open Go.Maps (setOf setOf_snoc size_setOf addKey)
theorem upd_ne {L : Nat → Bool} {k j : Nat} (h : upd L k j = true) (hne : (j == k) = false) : L j = true := by simpa [upd, hne] using h
theorem upd_f {L : Nat → Bool} {k j : Nat} (h : upd L k j = false) : L j = false := by simp [upd] at h; exact h.1
/-- the different numbers of a list, in the order in which they come -/
def addZ (acc : List Int) (x : Int) : List Int := if hasQ acc x then acc else acc ++ [x]
def seenZ (xs : List Int) : List Int := xs.foldl addZ []
theorem seenZ_snoc (xs : List Int) (x : Int) : seenZ (xs ++ [x]) = addZ (seenZ xs) x := by simp [seenZ, List.foldl_append]
def key (x : Int) : Lit := .int .i64 x
theorem any_key (acc : List Int) (x : Int) : ((acc.map key).any fun y => y.sameKey (key x)) = hasQ acc x := by
  rw [Bool.eq_iff_iff, hasQ_iff]
  simp only [List.any_map, List.any_eq_true, Function.comp_def]
  constructor
  · rintro ⟨y, hy, h⟩
    have : y = x := by simpa [key, Lit.sameKey] using h
    exact this ▸ hy
  · intro h
    exact ⟨x, h, by simp [key, Lit.sameKey]⟩
theorem fold_key : ∀ (xs acc : List Int), (xs.map key).foldl addKey (acc.map key) = (xs.foldl addZ acc).map key
  | [], _ => rfl
  | x :: xs, acc => by
    rw [List.map_cons, List.foldl_cons, List.foldl_cons, ← fold_key xs]
    congr 1
    unfold addKey addZ
    rw [any_key]
    split <;> simp
theorem size_key (xs : List Int) (hw : ∀ x ∈ xs, (Lit.int .i64 x).wf = true) : Maps.size (setOf (H := Unit) (.lit (.bool true)) (xs.map key)) = (seenZ xs).length := by
  rw [size_setOf _ _ (fun x hx => by obtain ⟨z, hz, rfl⟩ := List.mem_map.1 hx; trivial)]
  have := fold_key xs []
  rw [List.map_nil] at this
  rw [this, List.length_map]
  rfl
def leftV (I : Nat) (fs : List S3) (x : Nat) : Int := (leftN I fs.length (circN (compN I fs fs.length) x) : Nat)
def leftL (I : Nat) (fs : List S3) (k : Nat) : List Int := tab k fun x => leftV I fs x
def leftOver (i : Int) (fs : List S3) : Int := if formQ i fs then ((seenZ (leftL i.toNat fs (2 ^ i.toNat))).length : Nat) else -1
theorem leftV_lt (I : Nat) (fs : List S3) (x : Nat) (h : fs.length ≤ 3) : 0 ≤ leftV I fs x ∧ leftV I fs x ≤ 3 := by
  have h1 : leftN I fs.length (circN (compN I fs fs.length) x) < 2 ^ (fs.length - 1) := Nat.mod_lt _ (Nat.pow_pos (by omega))
  have h2 : 2 ^ (fs.length - 1) ≤ 2 ^ 2 := Nat.pow_le_pow_right (by omega) (by omega)
  unfold leftV
  omega
theorem wf_small {z : Int} (h : 0 ≤ z ∧ z ≤ 1000) : (Lit.int .i64 z).wf = true := by
  simp [Lit.wf, IntKind.min, IntKind.max, IntKind.signed, IntKind.bits]; omega
theorem left_facts {I n y : Nat} (hI : 1 ≤ I ∧ I ≤ 3) (hn : 1 ≤ n ∧ n ≤ 3) (hy : y < 64) :
    ∃ q M : Nat, q < 64 ∧ M ≤ 4 ∧ 1 ≤ M ∧ (y : Int) / 2 ^ I = (q : Int) ∧ wrap64 ((2 : Int) ^ (n - 1)) = (M : Int) ∧ bits .and .i64 (q : Int) ((M : Int) - 1) = ((y / 2 ^ I % 2 ^ (n - 1) : Nat) : Int) := by
  have hM4 : 2 ^ (n - 1) ≤ 4 ∧ 1 ≤ 2 ^ (n - 1) := by rcases (show n = 1 ∨ n = 2 ∨ n = 3 by omega) with rfl | rfl | rfl <;> decide
  have hw : wrap64 ((2 : Int) ^ (n - 1)) = ((2 ^ (n - 1) : Nat) : Int) := by rcases (show n = 1 ∨ n = 2 ∨ n = 3 by omega) with rfl | rfl | rfl <;> decide +kernel
  have hq : y / 2 ^ I < 64 := Nat.lt_of_le_of_lt (Nat.div_le_self _ _) hy
  refine ⟨y / 2 ^ I, 2 ^ (n - 1), hq, hM4.1, hM4.2, by simp, hw, ?_⟩
  have hm := Nat.and_two_pow_sub_one_eq_mod (y / 2 ^ I) (n - 1)
  generalize 2 ^ (n - 1) = M at *
  generalize y / 2 ^ I = q at *
  obtain ⟨h1, h2⟩ := hM4
  rw [show ((M : Int) - 1) = ((M - 1 : Nat) : Int) by omega, i64_and_nat q (M - 1) (by omega) (by omega), hm]
theorem stepGates_ok (op x y l : Int) (h : op = 0 ∨ op = 1 ∨ op = 2 ∨ op = 3) (w : World) : Calls Try.prog 42 #[.agg #[.int .i64 op, .int .i64 x, .int .i64 y], .int .i64 l] w (StepPost op x y l w) := by
  rcases h with rfl | rfl | rfl | rfl
  · exact stepGates_0 x y l w
  · exact stepGates_1 x y l w
  · exact stepGates_2 x y l w
  · exact stepGates_3 x y l w
set_option maxRecDepth 100000 in
set_option maxHeartbeats 4000000 in
theorem compute_any (I n : Nat) (A : Option Addr) (c : Nat) (fs : List S3) (w : World) (h : SR w A n fs) (hI : 1 ≤ I ∧ I ≤ 3) (hn : 1 ≤ n ∧ n ≤ 3) (hs : ∀ k, k < fs.length → stepOk ((I : Int) + k - 1) (sth fs k) = true) :
    Calls Try.prog 32 #[.int .i64 I, .slice A n c] w fun e w' => (∃ A k, e = .returned (.slice A k k) ∧ GR w' A k (compN I fs n)) ∧ Below w.heap.size w w' := by
  obtain ⟨hI1, hI2⟩ := hI
  obtain ⟨hn1, hn2⟩ := hn
  have HR0 := hide h
  have HLen := Lib.hid h.len
  have HS := hide hs
  have O1 := hide (OwnG.nil0 w w.heap.size (Nat.le_refl _))
  have B1 := hide (show Below w.heap.size w (w.alloc (.cells #[] 60)) by go_grown)
  clear h hs
  go_enter Try.func32, Try.ntmps32
  go_wp2_with fail
  go_loopw [5, 11] (fun vv iv wr => ∃ (j : Nat) (v : Value), j ≤ n ∧ iv = .int .i64 j ∧ v = vv ∧ Hid (OwnG wr w.heap.size v (compN I fs j)) ∧ Hid (Below w.heap.size w wr)) (fun _ iv _ => n - (intOf iv).toNat)
  case atStart => exact ⟨0, _, by omega, rfl, rfl, O1, B1⟩
  case round =>
    obtain ⟨j, v, hj, rfl, rfl, HO, HB⟩ := hrel
    have hsz := HB.out.size
    by_cases hlt : j < n
    · have HR := hide (HR0.out.below HB.out)
      obtain ⟨b0, o0, rfl, hbl, hcc⟩ := HR.out.at_ (by omega)
      obtain ⟨⟨k, a, b⟩, hg⟩ : ∃ s, sth fs j = s := ⟨_, rfl⟩
      obtain ⟨g0, g1, g2⟩ := hcc j hlt
      rw [hg] at g0 g1 g2
      simp only at g0 g1 g2
      have hso := HS.out j (by rw [HLen.out]; exact hlt)
      rw [hg] at hso
      have HK := hide (step_in hso).1
      have HG := Lib.hid hg
      have HL1 := hide (compN_len I fs j)
      have HL2 := hide (stepG_len k a b ((I + j : Nat) : Int))
      have HC := Lib.hid (show compN I fs (j + 1) = compN I fs j ++ stepG k a b ((I + j : Nat) : Int) by rw [compN, HG.out])
      have BA := hide (HB.out.alloc hsz (.cells #[.int .i64 k, .int .i64 a, .int .i64 b] 44))
      have OA := hide (HO.out.alloc (.cells #[.int .i64 k, .int .i64 a, .int .i64 b] 44))
      clear hcc hg hso
      go_wp2_with fail
      refine calls_named fun u hu => ?_
      rw [hu] at BA OA
      clear hu
      rw [show ((I : Int) + (j : Int)) = ((I + j : Nat) : Int) by omega]
      refine (stepGates_ok k a b _ HK.out _).mono ?_
      rintro e w2 ⟨⟨A2, n2, c2, rfl, hr2⟩, hb2⟩
      have B2 := hide (bseq BA.out hb2)
      have O2 := hide (OA.out.below hb2)
      have R2 := hide hr2
      have hs2 := B2.out.size
      clear hb2 hr2 g0 g1 g2
      go_wp2_with (at_builtin; refine wpList_append_gates O2.out R2.out (.tmp 16) (.tmp 21) rfl rfl rfl rfl (by have := HL1.out; have := HL2.out; omega) hs2 ?_; intro v4 w4 ho4 hg4; have O4 := hide (show OwnG w4 w.heap.size v4 (compN I fs (j + 1)) by rw [HC.out]; exact ho4); have B4 := hide (B2.out.grown hg4 hs2 (fun k hk => (O2.out.lt k hk).1)); clear ho4 hg4)
      go_roundw
      case rel => exact ⟨j + 1, v4, by omega, by go_num, rfl, O4, B4⟩
      case measure => simp [intOf]; omega
    · obtain rfl : n = j := by omega
      go_wp2_with fail
      refine (clip_own _ _ _ _ HO.out).mono ?_
      rintro e w' ⟨⟨A5, k5, rfl, hr5⟩, rfl⟩
      have R5 := hide hr5
      clear hr5
      go_wp2_with fail
      go_ret
      exact ⟨⟨A5, k5, rfl, R5.out⟩, HB.out⟩
/-- what is done implies what went before -/
def Ch4 (L : Nat → Bool) : Prop := (L 5 = true → L 3 = true) ∧ (L 7 = true → L 5 = true) ∧ (L 13 = true → L 7 = true) ∧ (L 14 = true → L 13 = true)
theorem Ch4.up {L : Nat → Bool} (h : Ch4 L) (k : Nat) (h5 : k = 5 → L 3 = true) (h7 : k = 7 → L 5 = true) (h13 : k = 13 → L 7 = true) (h14 : k = 14 → L 13 = true) : Ch4 (upd L k) := by
  obtain ⟨a, b, c, d⟩ := h
  refine ⟨fun e => ?_, fun e => ?_, fun e => ?_, fun e => ?_⟩ <;> simp only [upd, Bool.or_eq_true, beq_iff_eq] at e ⊢ <;> rcases e with e | e
  · exact .inl (a e)
  · exact .inl (h5 e.symm)
  · exact .inl (b e)
  · exact .inl (h7 e.symm)
  · exact .inl (c e)
  · exact .inl (h13 e.symm)
  · exact .inl (d e)
  · exact .inl (h14 e.symm)
theorem Ch4.no {L : Nat → Bool} (h : Ch4 L) (h5 : L 5 = false) : L 14 = false := by
  cases e : L 14
  · rfl
  · have := h.2.1 (h.2.2.1 (h.2.2.2 e)); rw [h5] at this; cases this
structure JL (w : World) (I n k y q M : Nat) (z : Int) (A : Option Addr) (c : Nat) (fs : List S3) (L : Nat → Bool) (x17 x18 x19 x20 x21 x22 x23 x24 x25 x26 x27 x28 x29 x30 : Value) (wx : World) : Prop where
  h0 : L 0 = true → x17 = .map (some w.heap.size)
  h1 : L 1 = true → x18 = .int .i64 (I : Nat)
  h2 : L 2 = true → x19 = .slice A n c
  h3 : L 3 = true → ∃ A k, x20 = .slice A k k
  h4 : L 4 = true → x21 = .int .i64 (k : Nat)
  h5 : L 5 = true → x22 = .int .i64 (y : Nat)
  h6 : L 6 = true → x23 = .int .i64 (I : Nat)
  h7 : L 7 = true → x24 = .int .i64 (q : Nat)
  h8 : L 8 = true → x25 = .slice A n c
  h9 : L 9 = true → x26 = .int .i64 (n : Nat)
  h10 : L 10 = true → x27 = .int .i64 ((n : Int) - 1)
  h11 : L 11 = true → x28 = .int .i64 (M : Nat)
  h12 : L 12 = true → x29 = .int .i64 ((M : Int) - 1)
  h13 : L 13 = true → x30 = .int .i64 z
  m0 : L 14 = false → wx.ownsMap Try.prog 3 (plainElem (H := Unit) Try.prog 4) w.heap.size k (setOf (.lit (.bool true)) ((leftL I fs k).map key))
  g3 : L 14 = false → L 3 = true → ∃ A k, x20 = .slice A k k ∧ GR wx A k (compN I fs n)
  m1 : L 14 = true → wx.ownsMap Try.prog 3 (plainElem (H := Unit) Try.prog 4) w.heap.size (k + 1) (setOf (.lit (.bool true)) ((leftL I fs (k + 1)).map key))
  b : Below w.heap.size w wx
  c : Ch4 L
theorem JL.start {w : World} {I n k y q M : Nat} {z : Int} {A : Option Addr} {c : Nat} {fs : List S3} {wx : World} {x17 x18 x19 x20 x21 x22 x23 x24 x25 x26 x27 x28 x29 x30 : Value} (h0 : wx.ownsMap Try.prog 3 (plainElem (H := Unit) Try.prog 4) w.heap.size k (setOf (.lit (.bool true)) ((leftL I fs k).map key))) (hb : Below w.heap.size w wx) : JL w I n k y q M z A c fs (fun _ => false) x17 x18 x19 x20 x21 x22 x23 x24 x25 x26 x27 x28 x29 x30 wx :=
  ⟨(fun h => by cases h), (fun h => by cases h), (fun h => by cases h), (fun h => by cases h), (fun h => by cases h), (fun h => by cases h), (fun h => by cases h), (fun h => by cases h), (fun h => by cases h), (fun h => by cases h), (fun h => by cases h), (fun h => by cases h), (fun h => by cases h), (fun h => by cases h), fun _ => h0, (fun _ e => by cases e), (fun e => by cases e), hb, ⟨(fun e => by cases e), (fun e => by cases e), (fun e => by cases e), (fun e => by cases e)⟩⟩
theorem JL.p0 {w : World} {I n k y q M : Nat} {z : Int} {A : Option Addr} {c : Nat} {fs : List S3} {wx : World} {L : Nat → Bool} {x17 x18 x19 x20 x21 x22 x23 x24 x25 x26 x27 x28 x29 x30 : Value} (h : JL w I n k y q M z A c fs L x17 x18 x19 x20 x21 x22 x23 x24 x25 x26 x27 x28 x29 x30 wx) {v : Value} (hv : v = .map (some w.heap.size)) : JL w I n k y q M z A c fs (upd L 0) v x18 x19 x20 x21 x22 x23 x24 x25 x26 x27 x28 x29 x30 wx :=
  ⟨fun _ => hv, fun e => h.h1 (upd_ne e rfl), fun e => h.h2 (upd_ne e rfl), fun e => h.h3 (upd_ne e rfl), fun e => h.h4 (upd_ne e rfl), fun e => h.h5 (upd_ne e rfl), fun e => h.h6 (upd_ne e rfl), fun e => h.h7 (upd_ne e rfl), fun e => h.h8 (upd_ne e rfl), fun e => h.h9 (upd_ne e rfl), fun e => h.h10 (upd_ne e rfl), fun e => h.h11 (upd_ne e rfl), fun e => h.h12 (upd_ne e rfl), fun e => h.h13 (upd_ne e rfl), fun e => h.m0 (upd_f e), fun e1 e2 => h.g3 (upd_f e1) (upd_ne e2 rfl), fun e => h.m1 (upd_ne e rfl), h.b, h.c.up 0 (fun e => absurd e (by decide)) (fun e => absurd e (by decide)) (fun e => absurd e (by decide)) (fun e => absurd e (by decide))⟩
theorem JL.p1 {w : World} {I n k y q M : Nat} {z : Int} {A : Option Addr} {c : Nat} {fs : List S3} {wx : World} {L : Nat → Bool} {x17 x18 x19 x20 x21 x22 x23 x24 x25 x26 x27 x28 x29 x30 : Value} (h : JL w I n k y q M z A c fs L x17 x18 x19 x20 x21 x22 x23 x24 x25 x26 x27 x28 x29 x30 wx) {v : Value} (hv : v = .int .i64 (I : Nat)) : JL w I n k y q M z A c fs (upd L 1) x17 v x19 x20 x21 x22 x23 x24 x25 x26 x27 x28 x29 x30 wx :=
  ⟨fun e => h.h0 (upd_ne e rfl), fun _ => hv, fun e => h.h2 (upd_ne e rfl), fun e => h.h3 (upd_ne e rfl), fun e => h.h4 (upd_ne e rfl), fun e => h.h5 (upd_ne e rfl), fun e => h.h6 (upd_ne e rfl), fun e => h.h7 (upd_ne e rfl), fun e => h.h8 (upd_ne e rfl), fun e => h.h9 (upd_ne e rfl), fun e => h.h10 (upd_ne e rfl), fun e => h.h11 (upd_ne e rfl), fun e => h.h12 (upd_ne e rfl), fun e => h.h13 (upd_ne e rfl), fun e => h.m0 (upd_f e), fun e1 e2 => h.g3 (upd_f e1) (upd_ne e2 rfl), fun e => h.m1 (upd_ne e rfl), h.b, h.c.up 1 (fun e => absurd e (by decide)) (fun e => absurd e (by decide)) (fun e => absurd e (by decide)) (fun e => absurd e (by decide))⟩
theorem JL.p2 {w : World} {I n k y q M : Nat} {z : Int} {A : Option Addr} {c : Nat} {fs : List S3} {wx : World} {L : Nat → Bool} {x17 x18 x19 x20 x21 x22 x23 x24 x25 x26 x27 x28 x29 x30 : Value} (h : JL w I n k y q M z A c fs L x17 x18 x19 x20 x21 x22 x23 x24 x25 x26 x27 x28 x29 x30 wx) {v : Value} (hv : v = .slice A n c) : JL w I n k y q M z A c fs (upd L 2) x17 x18 v x20 x21 x22 x23 x24 x25 x26 x27 x28 x29 x30 wx :=
  ⟨fun e => h.h0 (upd_ne e rfl), fun e => h.h1 (upd_ne e rfl), fun _ => hv, fun e => h.h3 (upd_ne e rfl), fun e => h.h4 (upd_ne e rfl), fun e => h.h5 (upd_ne e rfl), fun e => h.h6 (upd_ne e rfl), fun e => h.h7 (upd_ne e rfl), fun e => h.h8 (upd_ne e rfl), fun e => h.h9 (upd_ne e rfl), fun e => h.h10 (upd_ne e rfl), fun e => h.h11 (upd_ne e rfl), fun e => h.h12 (upd_ne e rfl), fun e => h.h13 (upd_ne e rfl), fun e => h.m0 (upd_f e), fun e1 e2 => h.g3 (upd_f e1) (upd_ne e2 rfl), fun e => h.m1 (upd_ne e rfl), h.b, h.c.up 2 (fun e => absurd e (by decide)) (fun e => absurd e (by decide)) (fun e => absurd e (by decide)) (fun e => absurd e (by decide))⟩
theorem JL.p4 {w : World} {I n k y q M : Nat} {z : Int} {A : Option Addr} {c : Nat} {fs : List S3} {wx : World} {L : Nat → Bool} {x17 x18 x19 x20 x21 x22 x23 x24 x25 x26 x27 x28 x29 x30 : Value} (h : JL w I n k y q M z A c fs L x17 x18 x19 x20 x21 x22 x23 x24 x25 x26 x27 x28 x29 x30 wx) {v : Value} (hv : v = .int .i64 (k : Nat)) : JL w I n k y q M z A c fs (upd L 4) x17 x18 x19 x20 v x22 x23 x24 x25 x26 x27 x28 x29 x30 wx :=
  ⟨fun e => h.h0 (upd_ne e rfl), fun e => h.h1 (upd_ne e rfl), fun e => h.h2 (upd_ne e rfl), fun e => h.h3 (upd_ne e rfl), fun _ => hv, fun e => h.h5 (upd_ne e rfl), fun e => h.h6 (upd_ne e rfl), fun e => h.h7 (upd_ne e rfl), fun e => h.h8 (upd_ne e rfl), fun e => h.h9 (upd_ne e rfl), fun e => h.h10 (upd_ne e rfl), fun e => h.h11 (upd_ne e rfl), fun e => h.h12 (upd_ne e rfl), fun e => h.h13 (upd_ne e rfl), fun e => h.m0 (upd_f e), fun e1 e2 => h.g3 (upd_f e1) (upd_ne e2 rfl), fun e => h.m1 (upd_ne e rfl), h.b, h.c.up 4 (fun e => absurd e (by decide)) (fun e => absurd e (by decide)) (fun e => absurd e (by decide)) (fun e => absurd e (by decide))⟩
theorem JL.p6 {w : World} {I n k y q M : Nat} {z : Int} {A : Option Addr} {c : Nat} {fs : List S3} {wx : World} {L : Nat → Bool} {x17 x18 x19 x20 x21 x22 x23 x24 x25 x26 x27 x28 x29 x30 : Value} (h : JL w I n k y q M z A c fs L x17 x18 x19 x20 x21 x22 x23 x24 x25 x26 x27 x28 x29 x30 wx) {v : Value} (hv : v = .int .i64 (I : Nat)) : JL w I n k y q M z A c fs (upd L 6) x17 x18 x19 x20 x21 x22 v x24 x25 x26 x27 x28 x29 x30 wx :=
  ⟨fun e => h.h0 (upd_ne e rfl), fun e => h.h1 (upd_ne e rfl), fun e => h.h2 (upd_ne e rfl), fun e => h.h3 (upd_ne e rfl), fun e => h.h4 (upd_ne e rfl), fun e => h.h5 (upd_ne e rfl), fun _ => hv, fun e => h.h7 (upd_ne e rfl), fun e => h.h8 (upd_ne e rfl), fun e => h.h9 (upd_ne e rfl), fun e => h.h10 (upd_ne e rfl), fun e => h.h11 (upd_ne e rfl), fun e => h.h12 (upd_ne e rfl), fun e => h.h13 (upd_ne e rfl), fun e => h.m0 (upd_f e), fun e1 e2 => h.g3 (upd_f e1) (upd_ne e2 rfl), fun e => h.m1 (upd_ne e rfl), h.b, h.c.up 6 (fun e => absurd e (by decide)) (fun e => absurd e (by decide)) (fun e => absurd e (by decide)) (fun e => absurd e (by decide))⟩
theorem JL.p8 {w : World} {I n k y q M : Nat} {z : Int} {A : Option Addr} {c : Nat} {fs : List S3} {wx : World} {L : Nat → Bool} {x17 x18 x19 x20 x21 x22 x23 x24 x25 x26 x27 x28 x29 x30 : Value} (h : JL w I n k y q M z A c fs L x17 x18 x19 x20 x21 x22 x23 x24 x25 x26 x27 x28 x29 x30 wx) {v : Value} (hv : v = .slice A n c) : JL w I n k y q M z A c fs (upd L 8) x17 x18 x19 x20 x21 x22 x23 x24 v x26 x27 x28 x29 x30 wx :=
  ⟨fun e => h.h0 (upd_ne e rfl), fun e => h.h1 (upd_ne e rfl), fun e => h.h2 (upd_ne e rfl), fun e => h.h3 (upd_ne e rfl), fun e => h.h4 (upd_ne e rfl), fun e => h.h5 (upd_ne e rfl), fun e => h.h6 (upd_ne e rfl), fun e => h.h7 (upd_ne e rfl), fun _ => hv, fun e => h.h9 (upd_ne e rfl), fun e => h.h10 (upd_ne e rfl), fun e => h.h11 (upd_ne e rfl), fun e => h.h12 (upd_ne e rfl), fun e => h.h13 (upd_ne e rfl), fun e => h.m0 (upd_f e), fun e1 e2 => h.g3 (upd_f e1) (upd_ne e2 rfl), fun e => h.m1 (upd_ne e rfl), h.b, h.c.up 8 (fun e => absurd e (by decide)) (fun e => absurd e (by decide)) (fun e => absurd e (by decide)) (fun e => absurd e (by decide))⟩
theorem JL.p9 {w : World} {I n k y q M : Nat} {z : Int} {A : Option Addr} {c : Nat} {fs : List S3} {wx : World} {L : Nat → Bool} {x17 x18 x19 x20 x21 x22 x23 x24 x25 x26 x27 x28 x29 x30 : Value} (h : JL w I n k y q M z A c fs L x17 x18 x19 x20 x21 x22 x23 x24 x25 x26 x27 x28 x29 x30 wx) {v : Value} (hv : v = .int .i64 (n : Nat)) : JL w I n k y q M z A c fs (upd L 9) x17 x18 x19 x20 x21 x22 x23 x24 x25 v x27 x28 x29 x30 wx :=
  ⟨fun e => h.h0 (upd_ne e rfl), fun e => h.h1 (upd_ne e rfl), fun e => h.h2 (upd_ne e rfl), fun e => h.h3 (upd_ne e rfl), fun e => h.h4 (upd_ne e rfl), fun e => h.h5 (upd_ne e rfl), fun e => h.h6 (upd_ne e rfl), fun e => h.h7 (upd_ne e rfl), fun e => h.h8 (upd_ne e rfl), fun _ => hv, fun e => h.h10 (upd_ne e rfl), fun e => h.h11 (upd_ne e rfl), fun e => h.h12 (upd_ne e rfl), fun e => h.h13 (upd_ne e rfl), fun e => h.m0 (upd_f e), fun e1 e2 => h.g3 (upd_f e1) (upd_ne e2 rfl), fun e => h.m1 (upd_ne e rfl), h.b, h.c.up 9 (fun e => absurd e (by decide)) (fun e => absurd e (by decide)) (fun e => absurd e (by decide)) (fun e => absurd e (by decide))⟩
theorem JL.p10 {w : World} {I n k y q M : Nat} {z : Int} {A : Option Addr} {c : Nat} {fs : List S3} {wx : World} {L : Nat → Bool} {x17 x18 x19 x20 x21 x22 x23 x24 x25 x26 x27 x28 x29 x30 : Value} (h : JL w I n k y q M z A c fs L x17 x18 x19 x20 x21 x22 x23 x24 x25 x26 x27 x28 x29 x30 wx) {v : Value} (hv : v = .int .i64 ((n : Int) - 1)) : JL w I n k y q M z A c fs (upd L 10) x17 x18 x19 x20 x21 x22 x23 x24 x25 x26 v x28 x29 x30 wx :=
  ⟨fun e => h.h0 (upd_ne e rfl), fun e => h.h1 (upd_ne e rfl), fun e => h.h2 (upd_ne e rfl), fun e => h.h3 (upd_ne e rfl), fun e => h.h4 (upd_ne e rfl), fun e => h.h5 (upd_ne e rfl), fun e => h.h6 (upd_ne e rfl), fun e => h.h7 (upd_ne e rfl), fun e => h.h8 (upd_ne e rfl), fun e => h.h9 (upd_ne e rfl), fun _ => hv, fun e => h.h11 (upd_ne e rfl), fun e => h.h12 (upd_ne e rfl), fun e => h.h13 (upd_ne e rfl), fun e => h.m0 (upd_f e), fun e1 e2 => h.g3 (upd_f e1) (upd_ne e2 rfl), fun e => h.m1 (upd_ne e rfl), h.b, h.c.up 10 (fun e => absurd e (by decide)) (fun e => absurd e (by decide)) (fun e => absurd e (by decide)) (fun e => absurd e (by decide))⟩
theorem JL.p11 {w : World} {I n k y q M : Nat} {z : Int} {A : Option Addr} {c : Nat} {fs : List S3} {wx : World} {L : Nat → Bool} {x17 x18 x19 x20 x21 x22 x23 x24 x25 x26 x27 x28 x29 x30 : Value} (h : JL w I n k y q M z A c fs L x17 x18 x19 x20 x21 x22 x23 x24 x25 x26 x27 x28 x29 x30 wx) {v : Value} (hv : v = .int .i64 (M : Nat)) : JL w I n k y q M z A c fs (upd L 11) x17 x18 x19 x20 x21 x22 x23 x24 x25 x26 x27 v x29 x30 wx :=
  ⟨fun e => h.h0 (upd_ne e rfl), fun e => h.h1 (upd_ne e rfl), fun e => h.h2 (upd_ne e rfl), fun e => h.h3 (upd_ne e rfl), fun e => h.h4 (upd_ne e rfl), fun e => h.h5 (upd_ne e rfl), fun e => h.h6 (upd_ne e rfl), fun e => h.h7 (upd_ne e rfl), fun e => h.h8 (upd_ne e rfl), fun e => h.h9 (upd_ne e rfl), fun e => h.h10 (upd_ne e rfl), fun _ => hv, fun e => h.h12 (upd_ne e rfl), fun e => h.h13 (upd_ne e rfl), fun e => h.m0 (upd_f e), fun e1 e2 => h.g3 (upd_f e1) (upd_ne e2 rfl), fun e => h.m1 (upd_ne e rfl), h.b, h.c.up 11 (fun e => absurd e (by decide)) (fun e => absurd e (by decide)) (fun e => absurd e (by decide)) (fun e => absurd e (by decide))⟩
theorem JL.p12 {w : World} {I n k y q M : Nat} {z : Int} {A : Option Addr} {c : Nat} {fs : List S3} {wx : World} {L : Nat → Bool} {x17 x18 x19 x20 x21 x22 x23 x24 x25 x26 x27 x28 x29 x30 : Value} (h : JL w I n k y q M z A c fs L x17 x18 x19 x20 x21 x22 x23 x24 x25 x26 x27 x28 x29 x30 wx) {v : Value} (hv : v = .int .i64 ((M : Int) - 1)) : JL w I n k y q M z A c fs (upd L 12) x17 x18 x19 x20 x21 x22 x23 x24 x25 x26 x27 x28 v x30 wx :=
  ⟨fun e => h.h0 (upd_ne e rfl), fun e => h.h1 (upd_ne e rfl), fun e => h.h2 (upd_ne e rfl), fun e => h.h3 (upd_ne e rfl), fun e => h.h4 (upd_ne e rfl), fun e => h.h5 (upd_ne e rfl), fun e => h.h6 (upd_ne e rfl), fun e => h.h7 (upd_ne e rfl), fun e => h.h8 (upd_ne e rfl), fun e => h.h9 (upd_ne e rfl), fun e => h.h10 (upd_ne e rfl), fun e => h.h11 (upd_ne e rfl), fun _ => hv, fun e => h.h13 (upd_ne e rfl), fun e => h.m0 (upd_f e), fun e1 e2 => h.g3 (upd_f e1) (upd_ne e2 rfl), fun e => h.m1 (upd_ne e rfl), h.b, h.c.up 12 (fun e => absurd e (by decide)) (fun e => absurd e (by decide)) (fun e => absurd e (by decide)) (fun e => absurd e (by decide))⟩
theorem JL.p7 {w : World} {I n k y q M : Nat} {z : Int} {A : Option Addr} {c : Nat} {fs : List S3} {wx : World} {L : Nat → Bool} {x17 x18 x19 x20 x21 x22 x23 x24 x25 x26 x27 x28 x29 x30 : Value} (h : JL w I n k y q M z A c fs L x17 x18 x19 x20 x21 x22 x23 x24 x25 x26 x27 x28 x29 x30 wx) {v : Value} (hv : v = .int .i64 (q : Nat)) (hd5 : L 5 = true) : JL w I n k y q M z A c fs (upd L 7) x17 x18 x19 x20 x21 x22 x23 (v) x25 x26 x27 x28 x29 x30 wx := by
  exact ⟨fun e => h.h0 (upd_ne e rfl), fun e => h.h1 (upd_ne e rfl), fun e => h.h2 (upd_ne e rfl), fun e => h.h3 (upd_ne e rfl), fun e => h.h4 (upd_ne e rfl), fun e => h.h5 (upd_ne e rfl), fun e => h.h6 (upd_ne e rfl), fun _ => hv, fun e => h.h8 (upd_ne e rfl), fun e => h.h9 (upd_ne e rfl), fun e => h.h10 (upd_ne e rfl), fun e => h.h11 (upd_ne e rfl), fun e => h.h12 (upd_ne e rfl), fun e => h.h13 (upd_ne e rfl), fun e => h.m0 (upd_f e), fun e1 e2 => h.g3 (upd_f e1) (upd_ne e2 rfl), fun e => h.m1 (upd_ne e rfl), h.b, h.c.up 7 (fun e => absurd e (by decide)) (fun _ => hd5) (fun e => absurd e (by decide)) (fun e => absurd e (by decide))⟩
theorem JL.p13 {w : World} {I n k y q M : Nat} {z : Int} {A : Option Addr} {c : Nat} {fs : List S3} {wx : World} {L : Nat → Bool} {x17 x18 x19 x20 x21 x22 x23 x24 x25 x26 x27 x28 x29 x30 : Value} (h : JL w I n k y q M z A c fs L x17 x18 x19 x20 x21 x22 x23 x24 x25 x26 x27 x28 x29 x30 wx) {v : Value} (hv : v = .int .i64 z) (hd7 : L 7 = true) : JL w I n k y q M z A c fs (upd L 13) x17 x18 x19 x20 x21 x22 x23 x24 x25 x26 x27 x28 x29 (v) wx := by
  exact ⟨fun e => h.h0 (upd_ne e rfl), fun e => h.h1 (upd_ne e rfl), fun e => h.h2 (upd_ne e rfl), fun e => h.h3 (upd_ne e rfl), fun e => h.h4 (upd_ne e rfl), fun e => h.h5 (upd_ne e rfl), fun e => h.h6 (upd_ne e rfl), fun e => h.h7 (upd_ne e rfl), fun e => h.h8 (upd_ne e rfl), fun e => h.h9 (upd_ne e rfl), fun e => h.h10 (upd_ne e rfl), fun e => h.h11 (upd_ne e rfl), fun e => h.h12 (upd_ne e rfl), fun _ => hv, fun e => h.m0 (upd_f e), fun e1 e2 => h.g3 (upd_f e1) (upd_ne e2 rfl), fun e => h.m1 (upd_ne e rfl), h.b, h.c.up 13 (fun e => absurd e (by decide)) (fun e => absurd e (by decide)) (fun _ => hd7) (fun e => absurd e (by decide))⟩
theorem JL.call {w : World} {I n k y q M : Nat} {z : Int} {A : Option Addr} {c : Nat} {fs : List S3} {wx : World} {L : Nat → Bool} {x17 x18 x19 x20 x21 x22 x23 x24 x25 x26 x27 x28 x29 x30 : Value} (h : JL w I n k y q M z A c fs L x17 x18 x19 x20 x21 x22 x23 x24 x25 x26 x27 x28 x29 x30 wx) {A2 : Option Addr} {k2 : Nat} {wy : World} (hb : Below wx.heap.size wx wy) (hr : GR wy A2 k2 (compN I fs n)) : JL w I n k y q M z A c fs (upd L 3) x17 x18 x19 (.slice A2 k2 k2) x21 x22 x23 x24 x25 x26 x27 x28 x29 x30 wy := by
  exact ⟨fun e => h.h0 (upd_ne e rfl), fun e => h.h1 (upd_ne e rfl), fun e => h.h2 (upd_ne e rfl), fun _ => ⟨A2, k2, rfl⟩, fun e => h.h4 (upd_ne e rfl), fun e => h.h5 (upd_ne e rfl), fun e => h.h6 (upd_ne e rfl), fun e => h.h7 (upd_ne e rfl), fun e => h.h8 (upd_ne e rfl), fun e => h.h9 (upd_ne e rfl), fun e => h.h10 (upd_ne e rfl), fun e => h.h11 (upd_ne e rfl), fun e => h.h12 (upd_ne e rfl), fun e => h.h13 (upd_ne e rfl), fun e => (h.m0 (upd_f e)).kept (row := none) ⟨hb.os, hb.tape, hb.output, hb.size, fun i hi _ => hb.block i hi⟩ (by simp), fun _ _ => ⟨A2, k2, rfl, hr⟩, fun e => (h.m1 (upd_ne e rfl)).kept (row := none) ⟨hb.os, hb.tape, hb.output, hb.size, fun i hi _ => hb.block i hi⟩ (by simp), h.b.trans (hb.mono h.b.size), h.c.up 3 (fun e => absurd e (by decide)) (fun e => absurd e (by decide)) (fun e => absurd e (by decide)) (fun e => absurd e (by decide))⟩
theorem JL.run {w : World} {I n k y q M : Nat} {z : Int} {A : Option Addr} {c : Nat} {fs : List S3} {wx : World} {L : Nat → Bool} {x17 x18 x19 x20 x21 x22 x23 x24 x25 x26 x27 x28 x29 x30 : Value} (h : JL w I n k y q M z A c fs L x17 x18 x19 x20 x21 x22 x23 x24 x25 x26 x27 x28 x29 x30 wx) (hd3 : L 3 = true) {wy : World} (hb : Below wx.heap.size wx wy) : JL w I n k y q M z A c fs (upd L 5) x17 x18 x19 x20 x21 (.int .i64 (y : Nat)) x23 x24 x25 x26 x27 x28 x29 x30 wy := by
  exact ⟨fun e => h.h0 (upd_ne e rfl), fun e => h.h1 (upd_ne e rfl), fun e => h.h2 (upd_ne e rfl), fun e => h.h3 (upd_ne e rfl), fun e => h.h4 (upd_ne e rfl), fun _ => rfl, fun e => h.h6 (upd_ne e rfl), fun e => h.h7 (upd_ne e rfl), fun e => h.h8 (upd_ne e rfl), fun e => h.h9 (upd_ne e rfl), fun e => h.h10 (upd_ne e rfl), fun e => h.h11 (upd_ne e rfl), fun e => h.h12 (upd_ne e rfl), fun e => h.h13 (upd_ne e rfl), fun e => (h.m0 (upd_f e)).kept (row := none) ⟨hb.os, hb.tape, hb.output, hb.size, fun i hi _ => hb.block i hi⟩ (by simp), fun e1 e2 => by obtain ⟨A1, k1, e3, e4⟩ := h.g3 (upd_f e1) (upd_ne e2 rfl); exact ⟨A1, k1, e3, e4.below hb⟩, fun e => (h.m1 (upd_ne e rfl)).kept (row := none) ⟨hb.os, hb.tape, hb.output, hb.size, fun i hi _ => hb.block i hi⟩ (by simp), h.b.trans (hb.mono h.b.size), h.c.up 5 (fun _ => hd3) (fun e => absurd e (by decide)) (fun e => absurd e (by decide)) (fun e => absurd e (by decide))⟩
theorem JL.put {w : World} {I n k y q M : Nat} {z : Int} {A : Option Addr} {c : Nat} {fs : List S3} {wx : World} {L : Nat → Bool} {x17 x18 x19 x20 x21 x22 x23 x24 x25 x26 x27 x28 x29 x30 : Value} (h : JL w I n k y q M z A c fs L x17 x18 x19 x20 x21 x22 x23 x24 x25 x26 x27 x28 x29 x30 wx) (hd13 : L 13 = true) {wy : World} (hm : wy.ownsMap Try.prog 3 (plainElem (H := Unit) Try.prog 4) w.heap.size (k + 1) (setOf (.lit (.bool true)) ((leftL I fs (k + 1)).map key))) (hg : wx.grownBy wy (some w.heap.size)) : JL w I n k y q M z A c fs (upd L 14) x17 x18 x19 x20 x21 x22 x23 x24 x25 x26 x27 x28 x29 x30 wy := by
  exact ⟨fun e => h.h0 (upd_ne e rfl), fun e => h.h1 (upd_ne e rfl), fun e => h.h2 (upd_ne e rfl), fun e => h.h3 (upd_ne e rfl), fun e => h.h4 (upd_ne e rfl), fun e => h.h5 (upd_ne e rfl), fun e => h.h6 (upd_ne e rfl), fun e => h.h7 (upd_ne e rfl), fun e => h.h8 (upd_ne e rfl), fun e => h.h9 (upd_ne e rfl), fun e => h.h10 (upd_ne e rfl), fun e => h.h11 (upd_ne e rfl), fun e => h.h12 (upd_ne e rfl), fun e => h.h13 (upd_ne e rfl), fun e => by simp [upd] at e, fun e => by simp [upd] at e, fun _ => hm, h.b.grown hg h.b.size (by simp), h.c.up 14 (fun e => absurd e (by decide)) (fun e => absurd e (by decide)) (fun e => absurd e (by decide)) (fun _ => hd13)⟩
set_option maxRecDepth 100000 in
set_option maxHeartbeats 8000000 in
theorem leftOver_ok (I n P : Nat) (A : Option Addr) (c : Nat) (fs : List S3) (w : World) (h : SR w A n fs) (hI : 1 ≤ I ∧ I ≤ 3) (hP : 2 ^ I = P) (hn : 1 ≤ n ∧ n ≤ 3) (hq : formQ (I : Nat) fs = true) :
    Calls Try.prog 19 #[.int .i64 I, .slice A n c] w fun e w' => e = .returned (.int .i64 ((seenZ (leftL I fs P)).length : Nat)) ∧ Below w.heap.size w w' := by
  have hmm := @run_makeMap Try.prog
  obtain ⟨hI1, hI2⟩ := hI
  obtain ⟨hn1, hn2⟩ := hn
  have HR0 := hide h
  have HLen := Lib.hid h.len
  have HS := hide (formQ_iff.1 hq).2.2
  have HQ := Lib.hid hq
  have hP8 : P ≤ 8 := by rw [← hP]; exact (show 2 ^ I ≤ 2 ^ 3 from Nat.pow_le_pow_right (by omega) hI2)
  have hw := show wrap64 ((2 : Int) ^ I) = (P : Int) by rw [← hP]; rcases (show I = 1 ∨ I = 2 ∨ I = 3 by omega) with rfl | rfl | rfl <;> decide +kernel
  have HP := Lib.hid hP
  clear h hq hP
  go_enter Try.func19, Try.ntmps19
  go_wp2_with fail
  refine (formValid_b true _ _ _ _ fs HQ.out _ HR0.out).mono ?_
  rintro e w1 ⟨rfl, hb1⟩
  have HR1 := hide (HR0.out.below hb1)
  have B1 := hide hb1
  have HM0 := hide (World.ownsMap_made w1 Try.prog 3 (plainElem (H := Unit) Try.prog 4))
  have B0 := hide (show Below w1.heap.size w1 (w1.alloc (.map #[] 0)) by go_grown)
  clear hb1
  go_wp2_with fail
  rw [hw]
  clear hw
  go_loopw [14] (fun iv wr => ∃ j : Nat, j ≤ P ∧ iv = .int .i64 j ∧ Hid (wr.ownsMap Try.prog 3 (plainElem (H := Unit) Try.prog 4) w1.heap.size j (setOf (.lit (.bool true)) ((leftL I fs j).map key))) ∧ Hid (Below w1.heap.size w1 wr)) (fun iv _ => P - (intOf iv).toNat)
  case atStart => exact ⟨0, by omega, rfl, HM0.out, B0.out⟩
  case round =>
    obtain ⟨k, hk, rfl, HM, HB⟩ := hrel
    by_cases hlt : k < P
    · have hkx : k < 2 ^ (8 : Int).toNat := by show k < 256; omega
      have HLV := hide (leftV_lt I fs k (by rw [HLen.out]; exact hn2))
      have HSnoc := Lib.hid (show (leftL I fs (k + 1)).map key = (leftL I fs k).map key ++ [key (leftV I fs k)] by rw [leftL, tab_succ, List.map_append]; rfl)
      obtain ⟨y, hy⟩ : ∃ y, circN (compN I fs n) k = y := ⟨_, rfl⟩
      have hyl : y < 64 := by
        have h1 := (left_at (x := k) ⟨hI1, hI2⟩ (by rw [HLen.out]; exact hn2) (by rw [HP.out]; exact hlt) HS.out n (by rw [HLen.out]; omega)).lt
        rw [hy] at h1
        have h2 : 2 ^ (I + n) ≤ 2 ^ 6 := Nat.pow_le_pow_right (by omega) (by omega)
        omega
      have HY := Lib.hid hy
      have HLE := Lib.hid (show leftV I fs k = ((y / 2 ^ I % 2 ^ (n - 1) : Nat) : Int) by rw [leftV, HLen.out, hy]; rfl)
      obtain ⟨q, M, hq64, hM4, hM1, hsh, hshl, hand⟩ := left_facts (y := y) ⟨hI1, hI2⟩ ⟨hn1, hn2⟩ hyl
      obtain ⟨z, hz⟩ : ∃ z, leftV I fs k = z := ⟨_, rfl⟩
      rw [← HLE.out, hz] at hand
      rw [hz] at HSnoc
      have HZ3 := hide (show 0 ≤ z ∧ z ≤ 3 by rw [← hz]; exact HLV.out)
      clear hy hz
      go_upto_region 7 with fail

      refine wp_frame fun a0 ha0 => ?_
      have HA := Lib.hid ha0
      clear ha0
      refine wp_region_inv (fun L a wx => ∃ x17 x18 x19 x20 x21 x22 x23 x24 x25 x26 x27 x28 x29 x30, a = putL a0 [(17, x17), (18, x18), (19, x19), (20, x20), (21, x21), (22, x22), (23, x23), (24, x24), (25, x25), (26, x26), (27, x27), (28, x28), (29, x29), (30, x30)] ∧ Hid (JL w1 I n k y q M z A c fs L x17 x18 x19 x20 x21 x22 x23 x24 x25 x26 x27 x28 x29 x30 wx)) (by kernel_rfl) (by kernel_rfl) ?_ ?_ ?_
      · exact ⟨_, _, _, _, _, _, _, _, _, _, _, _, _, _, putL_self a0 [17, 18, 19, 20, 21, 22, 23, 24, 25, 26, 27, 28, 29, 30], hide (JL.start (HM.out.drew) (below_drewN HB.out 1))⟩
      · refine ⟨?_, ?_, ?_, ?_, ?_, ?_, ?_, ?_, ?_, ?_, ?_, ?_, ?_, ?_, ?_, trivial⟩
        · intro L a wx hL0 hd
          rintro ⟨x17, x18, x19, x20, x21, x22, x23, x24, x25, x26, x27, x28, x29, x30, rfl, HJ⟩
          have hD := hd
          try simp [deps, Region.binds] at hD
          clear hD hd
          rw [← HA.out]
          simp only [putL, List.setIfInBounds_toArray, List.set_cons_succ, List.set_cons_zero]
          go_wp2_with fail
          refine ⟨_, _, _, _, _, _, _, _, _, _, _, _, _, _, ?_, hide (HJ.out.p0 rfl)⟩
          · try rw [← HA.out]
            try simp only [putL, List.setIfInBounds_toArray, List.set_cons_succ, List.set_cons_zero]
        · intro L a wx hL0 hd
          rintro ⟨x17, x18, x19, x20, x21, x22, x23, x24, x25, x26, x27, x28, x29, x30, rfl, HJ⟩
          have hD := hd
          try simp [deps, Region.binds] at hD
          clear hD hd
          rw [← HA.out]
          simp only [putL, List.setIfInBounds_toArray, List.set_cons_succ, List.set_cons_zero]
          go_wp2_with fail
          refine ⟨_, _, _, _, _, _, _, _, _, _, _, _, _, _, ?_, hide (HJ.out.p1 rfl)⟩
          · try rw [← HA.out]
            try simp only [putL, List.setIfInBounds_toArray, List.set_cons_succ, List.set_cons_zero]
        · intro L a wx hL0 hd
          rintro ⟨x17, x18, x19, x20, x21, x22, x23, x24, x25, x26, x27, x28, x29, x30, rfl, HJ⟩
          have hD := hd
          try simp [deps, Region.binds] at hD
          clear hD hd
          rw [← HA.out]
          simp only [putL, List.setIfInBounds_toArray, List.set_cons_succ, List.set_cons_zero]
          go_wp2_with fail
          refine ⟨_, _, _, _, _, _, _, _, _, _, _, _, _, _, ?_, hide (HJ.out.p2 rfl)⟩
          · try rw [← HA.out]
            try simp only [putL, List.setIfInBounds_toArray, List.set_cons_succ, List.set_cons_zero]
        · intro L a wx hL0 hd
          rintro ⟨x17, x18, x19, x20, x21, x22, x23, x24, x25, x26, x27, x28, x29, x30, rfl, HJ⟩
          have hD := hd
          try simp [deps, Region.binds] at hD
          obtain rfl := HJ.out.h1 (by simp [hD])
          obtain rfl := HJ.out.h2 (by simp [hD])
          clear hD hd
          rw [← HA.out]
          simp only [putL, List.setIfInBounds_toArray, List.set_cons_succ, List.set_cons_zero]
          go_wp2_with fail
          refine (compute_any I n A c fs _ (HR1.out.below HJ.out.b) ⟨hI1, hI2⟩ ⟨hn1, hn2⟩ HS.out).mono ?_
          rintro e w8 ⟨⟨A2, k2, rfl, hr2⟩, hb⟩
          have HJ2 := hide (HJ.out.call hb hr2)
          clear hb hr2
          go_wp2_with fail
          refine ⟨_, _, _, _, _, _, _, _, _, _, _, _, _, _, ?_, hide (HJ2.out)⟩
          · try rw [← HA.out]
            try simp only [putL, List.setIfInBounds_toArray, List.set_cons_succ, List.set_cons_zero]
        · intro L a wx hL0 hd
          rintro ⟨x17, x18, x19, x20, x21, x22, x23, x24, x25, x26, x27, x28, x29, x30, rfl, HJ⟩
          have hD := hd
          try simp [deps, Region.binds] at hD
          clear hD hd
          rw [← HA.out]
          simp only [putL, List.setIfInBounds_toArray, List.set_cons_succ, List.set_cons_zero]
          go_wp2_with fail
          refine ⟨_, _, _, _, _, _, _, _, _, _, _, _, _, _, ?_, hide (HJ.out.p4 rfl)⟩
          · try rw [← HA.out]
            try simp only [putL, List.setIfInBounds_toArray, List.set_cons_succ, List.set_cons_zero]
        · intro L a wx hL0 hd
          rintro ⟨x17, x18, x19, x20, x21, x22, x23, x24, x25, x26, x27, x28, x29, x30, rfl, HJ⟩
          have hD := hd
          try simp [deps, Region.binds] at hD
          obtain ⟨A1, k1, rfl, hgr⟩ := HJ.out.g3 (HJ.out.c.no hL0) (by simp [hD])
          obtain rfl := HJ.out.h4 (by simp [hD])
          have HGR := hide hgr
          have hd3 : L 3 = true := (by simp [hD])
          clear hgr
          clear hD hd
          rw [← HA.out]
          simp only [putL, List.setIfInBounds_toArray, List.set_cons_succ, List.set_cons_zero]
          go_wp2_with fail
          refine (runAll_any 8 A1 k1 k1 (compN I fs n) k _ HGR.out (compN_all _ _ _) (by omega)).mono ?_
          rintro e w8 ⟨rfl, hb⟩
          rw [HY.out]
          have HJ2 := hide (HJ.out.run hd3 hb)
          clear hb
          go_wp2_with fail
          refine ⟨_, _, _, _, _, _, _, _, _, _, _, _, _, _, ?_, hide (HJ2.out)⟩
          · try rw [← HA.out]
            try simp only [putL, List.setIfInBounds_toArray, List.set_cons_succ, List.set_cons_zero]
        · intro L a wx hL0 hd
          rintro ⟨x17, x18, x19, x20, x21, x22, x23, x24, x25, x26, x27, x28, x29, x30, rfl, HJ⟩
          have hD := hd
          try simp [deps, Region.binds] at hD
          clear hD hd
          rw [← HA.out]
          simp only [putL, List.setIfInBounds_toArray, List.set_cons_succ, List.set_cons_zero]
          go_wp2_with fail
          refine ⟨_, _, _, _, _, _, _, _, _, _, _, _, _, _, ?_, hide (HJ.out.p6 rfl)⟩
          · try rw [← HA.out]
            try simp only [putL, List.setIfInBounds_toArray, List.set_cons_succ, List.set_cons_zero]
        · intro L a wx hL0 hd
          rintro ⟨x17, x18, x19, x20, x21, x22, x23, x24, x25, x26, x27, x28, x29, x30, rfl, HJ⟩
          have hD := hd
          try simp [deps, Region.binds] at hD
          obtain rfl := HJ.out.h5 (by simp [hD])
          obtain rfl := HJ.out.h6 (by simp [hD])
          have hd5 : L 5 = true := (by simp [hD])
          clear hD hd
          rw [← HA.out]
          simp only [putL, List.setIfInBounds_toArray, List.set_cons_succ, List.set_cons_zero]
          go_wp2_with fail
          refine ⟨_, _, _, _, _, _, _, _, _, _, _, _, _, _, ?_, hide (HJ.out.p7 rfl hd5)⟩
          · try rw [← HA.out]
            try simp only [putL, List.setIfInBounds_toArray, List.set_cons_succ, List.set_cons_zero]
        · intro L a wx hL0 hd
          rintro ⟨x17, x18, x19, x20, x21, x22, x23, x24, x25, x26, x27, x28, x29, x30, rfl, HJ⟩
          have hD := hd
          try simp [deps, Region.binds] at hD
          clear hD hd
          rw [← HA.out]
          simp only [putL, List.setIfInBounds_toArray, List.set_cons_succ, List.set_cons_zero]
          go_wp2_with fail
          refine ⟨_, _, _, _, _, _, _, _, _, _, _, _, _, _, ?_, hide (HJ.out.p8 rfl)⟩
          · try rw [← HA.out]
            try simp only [putL, List.setIfInBounds_toArray, List.set_cons_succ, List.set_cons_zero]
        · intro L a wx hL0 hd
          rintro ⟨x17, x18, x19, x20, x21, x22, x23, x24, x25, x26, x27, x28, x29, x30, rfl, HJ⟩
          have hD := hd
          try simp [deps, Region.binds] at hD
          obtain rfl := HJ.out.h8 (by simp [hD])
          clear hD hd
          rw [← HA.out]
          simp only [putL, List.setIfInBounds_toArray, List.set_cons_succ, List.set_cons_zero]
          go_wp2_with fail
          refine ⟨_, _, _, _, _, _, _, _, _, _, _, _, _, _, ?_, hide (HJ.out.p9 rfl)⟩
          · try rw [← HA.out]
            try simp only [putL, List.setIfInBounds_toArray, List.set_cons_succ, List.set_cons_zero]
        · intro L a wx hL0 hd
          rintro ⟨x17, x18, x19, x20, x21, x22, x23, x24, x25, x26, x27, x28, x29, x30, rfl, HJ⟩
          have hD := hd
          try simp [deps, Region.binds] at hD
          obtain rfl := HJ.out.h9 (by simp [hD])
          clear hD hd
          rw [← HA.out]
          simp only [putL, List.setIfInBounds_toArray, List.set_cons_succ, List.set_cons_zero]
          go_wp2_with fail
          refine ⟨_, _, _, _, _, _, _, _, _, _, _, _, _, _, ?_, hide (HJ.out.p10 rfl)⟩
          · try rw [← HA.out]
            try simp only [putL, List.setIfInBounds_toArray, List.set_cons_succ, List.set_cons_zero]
        · intro L a wx hL0 hd
          rintro ⟨x17, x18, x19, x20, x21, x22, x23, x24, x25, x26, x27, x28, x29, x30, rfl, HJ⟩
          have hD := hd
          try simp [deps, Region.binds] at hD
          obtain rfl := HJ.out.h10 (by simp [hD])
          clear hD hd
          rw [← HA.out]
          simp only [putL, List.setIfInBounds_toArray, List.set_cons_succ, List.set_cons_zero]
          go_wp2_with fail
          refine ⟨_, _, _, _, _, _, _, _, _, _, _, _, _, _, ?_, hide (HJ.out.p11 (v := .int .i64 (wrap64 ((2 : Int) ^ (n - 1)))) (by rw [hshl]))⟩
          · try rw [← HA.out]
            try simp only [putL, List.setIfInBounds_toArray, List.set_cons_succ, List.set_cons_zero]
        · intro L a wx hL0 hd
          rintro ⟨x17, x18, x19, x20, x21, x22, x23, x24, x25, x26, x27, x28, x29, x30, rfl, HJ⟩
          have hD := hd
          try simp [deps, Region.binds] at hD
          obtain rfl := HJ.out.h11 (by simp [hD])
          clear hD hd
          rw [← HA.out]
          simp only [putL, List.setIfInBounds_toArray, List.set_cons_succ, List.set_cons_zero]
          go_wp2_with fail
          refine ⟨_, _, _, _, _, _, _, _, _, _, _, _, _, _, ?_, hide (HJ.out.p12 rfl)⟩
          · try rw [← HA.out]
            try simp only [putL, List.setIfInBounds_toArray, List.set_cons_succ, List.set_cons_zero]
        · intro L a wx hL0 hd
          rintro ⟨x17, x18, x19, x20, x21, x22, x23, x24, x25, x26, x27, x28, x29, x30, rfl, HJ⟩
          have hD := hd
          try simp [deps, Region.binds] at hD
          obtain rfl := HJ.out.h7 (by simp [hD])
          obtain rfl := HJ.out.h12 (by simp [hD])
          have hd7 : L 7 = true := (by simp [hD])
          clear hD hd
          rw [← HA.out]
          simp only [putL, List.setIfInBounds_toArray, List.set_cons_succ, List.set_cons_zero]
          go_wp2_with fail
          refine ⟨_, _, _, _, _, _, _, _, _, _, _, _, _, _, ?_, hide (HJ.out.p13 rfl hd7)⟩
          · try rw [← HA.out]
            try simp only [putL, List.setIfInBounds_toArray, List.set_cons_succ, List.set_cons_zero]
        · intro L a wx hL0 hd
          rintro ⟨x17, x18, x19, x20, x21, x22, x23, x24, x25, x26, x27, x28, x29, x30, rfl, HJ⟩
          have hD := hd
          try simp [deps, Region.binds] at hD
          obtain rfl := HJ.out.h0 (by simp [hD])
          obtain rfl := HJ.out.h13 (by simp [hD])
          have hd13 : L 13 = true := (by simp [hD])
          have HMm := hide (HJ.out.m0 hL0)
          clear hD hd
          rw [← HA.out]
          simp only [putL, List.setIfInBounds_toArray, List.set_cons_succ, List.set_cons_zero]
          go_wp2_with (at_mapUpdate; refine wpList_mapUpdate_own _ rfl _ _ _ 50 rfl 3 4 (Go.Maps.int_keyed Try.underlying3) Try.underlying50 (plainElem (H := Unit) Try.prog 4) w1.heap.size k _ rfl HMm.out (by unfold maxLen; omega) _ _ (key z) rfl rfl (Go.Maps.keyOf_int_mk Try.underlying3 (wf_small (by have := HZ3.out; omega))) _ [] (plainElem_bool Try.underlying4 true) ?_; intro w9 hown9 hgrow9; have HM9 := hide (show w9.ownsMap Try.prog 3 (plainElem (H := Unit) Try.prog 4) w1.heap.size (k + 1) (setOf (.lit (.bool true)) ((leftL I fs (k + 1)).map key)) from (by rw [HSnoc.out, setOf_snoc]; exact hown9)); have HG9 := hide hgrow9; clear hown9 hgrow9)
          refine ⟨_, _, _, _, _, _, _, _, _, _, _, _, _, _, ?_, hide (HJ.out.put hd13 HM9.out HG9.out)⟩
          · try rw [← HA.out]
            try simp only [putL, List.setIfInBounds_toArray, List.set_cons_succ, List.set_cons_zero]
      · intro L a wx hall
        rintro ⟨x17, x18, x19, x20, x21, x22, x23, x24, x25, x26, x27, x28, x29, x30, rfl, HJ⟩
        rw [← HA.out]
        simp only [putL, List.setIfInBounds_toArray, List.set_cons_succ, List.set_cons_zero]
        have HMe := hide (HJ.out.m1 (hall 14 (by decide)))
        have HBe := hide HJ.out.b
        go_wp2_with fail
        go_roundw
        case rel => exact ⟨k + 1, by omega, by go_num, HMe.out, HBe.out⟩
        case measure => simp [intOf]; omega
    · obtain rfl : k = P := by omega
      have HSz := Lib.hid (size_key (leftL I fs k) (fun x hx => by
        obtain ⟨j, hj, rfl⟩ := List.mem_map.1 hx
        exact wf_small (by have := leftV_lt I fs j (by rw [HLen.out]; exact hn2); omega)))
      go_wp2_with (at_len; refine wpList_len_own _ rfl _ 50 rfl 3 4 Try.underlying50 (plainElem (H := Unit) Try.prog 4) w1.heap.size k _ rfl HM.out ?_)
      go_ret
      exact ⟨by rw [← HSz.out]; rfl, bseq B1.out HB.out⟩
set_option maxHeartbeats 1000000 in
theorem leftOver_any (i : Int) (A : Option Addr) (n c : Nat) (fs : List S3) (w : World) (h : SR w A n fs) :
    Calls Try.prog 19 #[.int .i64 i, .slice A n c] w fun e w' => e = .returned (.int .i64 (leftOver i fs)) ∧ Below w.heap.size w w' := by
  cases hq : formQ i fs
  · have HE := Lib.hid (show leftOver i fs = -1 by rw [leftOver, hq, if_neg (by simp)])
    have HR := hide h
    have HQ := Lib.hid hq
    clear h hq
    go_enter Try.func19, Try.ntmps19
    go_wp2_with fail
    refine (formValid_b false _ _ _ _ fs HQ.out _ HR.out).mono ?_
    rintro e w1 ⟨rfl, hb1⟩
    go_wp2_with fail
    go_ret
    exact ⟨by rw [HE.out]; rfl, hb1⟩
  · have hl := (formQ_iff.1 hq).2.1
    rw [h.len] at hl
    have e : leftOver i fs = ((seenZ (leftL i.toNat fs (2 ^ i.toNat))).length : Nat) := by rw [leftOver, hq, if_pos rfl]
    have hi := (formQ_iff.1 hq).1
    obtain ⟨I, rfl⟩ := Int.eq_ofNat_of_zero_le (show 0 ≤ i by omega)
    rw [e]
    exact leftOver_ok I n _ A c fs w h (by omega) rfl hl hq
end Go.Proofs.Ytpklpebngholcaa
