/-
  Circuits: lists of gates in memory; which circuits are valid; what a circuit makes of a word.
  No condition.
-/
import Derived.Test.YtlaidoomjnhlaaaRun2
import Derived.Test.YtlaidoomjnhlaaaSRun
namespace Go.Proofs.Ytlaidoomjnhlaaa
open Go.RowKit Go.Sort base
abbrev G4 := Int × Int × Int × Int
def gth (gs : List G4) (i : Nat) : G4 := gs.getD i (0, 0, 0, 0)
theorem gth_lt {gs : List G4} {k : Nat} (h : k < gs.length) : gth gs k = gs[k] := by simp [gth, h]
theorem take_succ_gth {gs : List G4} {k : Nat} (h : k < gs.length) : gs.take (k + 1) = gs.take k ++ [gth gs k] := by
  rw [List.take_succ_eq_append_getElem h, gth_lt h]
theorem gth_mem {gs : List G4} {k : Nat} (h : k < gs.length) : gth gs k ∈ gs := by rw [gth_lt h]; exact List.getElem_mem h
/-- a gate that lies at a place of a block -/
def GAt (w : World) (b q : Nat) (g : G4) : Prop :=
  w.cell? ⟨b, q, none⟩ = some (.int .i64 g.1) ∧ w.cell? ⟨b, q + 1, none⟩ = some (.int .i64 g.2.1) ∧ w.cell? ⟨b, q + 2, none⟩ = some (.int .i64 g.2.2.1) ∧ w.cell? ⟨b, q + 3, none⟩ = some (.int .i64 g.2.2.2)
/-- A slice '.slice A n c' reads as the gates gs: nil, empty or not. -/
structure GR (w : World) (A : Option Addr) (n : Nat) (gs : List G4) : Prop where
  len : gs.length = n
  max : n ≤ 9223372036854775807
  at_ : 0 < n → ∃ b o, A = some ⟨b, o, none⟩ ∧ b < w.heap.size ∧ ∀ i, i < n → GAt w b (o + i * 4) (gth gs i)
theorem GR.keep {w w' : World} {A : Option Addr} {n : Nat} {gs : List G4} (h : GR w A n gs) (hs : w.heap.size ≤ w'.heap.size) (hk : ∀ p : Addr, p.block < w.heap.size → w'.cell? p = w.cell? p) : GR w' A n gs :=
  ⟨h.len, h.max, fun hn => by
    obtain ⟨b, o, e, hb, hc⟩ := h.at_ hn
    exact ⟨b, o, e, by omega, fun i hi => ⟨(hk _ hb).trans (hc i hi).1, (hk _ hb).trans (hc i hi).2.1, (hk _ hb).trans (hc i hi).2.2.1, (hk _ hb).trans (hc i hi).2.2.2⟩⟩⟩
theorem GR.below {w w' : World} {A : Option Addr} {n : Nat} {gs : List G4} (h : GR w A n gs) (hb : Below w.heap.size w w') : GR w' A n gs := h.keep hb.size fun _ hp => hb.cell hp
def gateOk (l : Int) (g : G4) : Bool := gateQ l g.1 g.2.1 g.2.2.1 g.2.2.2
/-- the circuit is valid -/
def circQ (l : Int) (gs : List G4) : Bool := lnOk l && decide (gs.length ≤ 24) && gs.all (gateOk l)
theorem all_take_succ {gs : List G4} {k : Nat} (p : G4 → Bool) (h : k < gs.length) : (gs.take (k + 1)).all p = ((gs.take k).all p && p (gth gs k)) := by
  rw [take_succ_gth h]; simp
theorem circQ_no {l : Int} {gs : List G4} {k : Nat} (hk : k < gs.length) (h : gateOk l (gth gs k) = false) : circQ l gs = false := by
  have : gs.all (gateOk l) = false := by rw [List.all_eq_false]; exact ⟨gth gs k, gth_mem hk, by simp [h]⟩
  simp [circQ, this]
/-- what gates make of a word -/
def circN (gs : List G4) (x : Nat) : Nat := gs.foldl (fun x g => runG g.1 g.2.1.toNat g.2.2.1.toNat g.2.2.2.toNat x) x
theorem circN_snoc (gs : List G4) (g : G4) (x : Nat) : circN (gs ++ [g]) x = runG g.1 g.2.1.toNat g.2.2.1.toNat g.2.2.2.toNat (circN gs x) := by simp [circN, List.foldl_append]
theorem gateOk_lt {l : Int} {g : G4} (h : gateOk l g = true) {x : Nat} (hx : x < 2 ^ l.toNat) : runG g.1 g.2.1.toNat g.2.2.1.toNat g.2.2.2.toNat x < 2 ^ l.toNat := by
  have := gateQ_in h
  exact runG_lt (by omega) (by omega) (by omega) hx
theorem circN_lt {l : Int} : ∀ (gs : List G4) (x : Nat), gs.all (gateOk l) = true → x < 2 ^ l.toNat → circN gs x < 2 ^ l.toNat
  | [], x, _, hx => hx
  | g :: gs, x, h, hx => by
    simp only [List.all_cons, Bool.and_eq_true] at h
    exact circN_lt gs _ h.2 (gateOk_lt h.1 hx)
def circRun (l : Int) (gs : List G4) (x : Int) : Int := if circQ l gs = true ∧ wv l x = true then (circN gs x.toNat : Nat) else -1
theorem circRun_no {l x : Int} {gs : List G4} (h : circQ l gs = false) : circRun l gs x = -1 := by unfold circRun; rw [if_neg (by rw [h]; simp)]
theorem circRun_no' {l x : Int} {gs : List G4} (h : wv l x = false) : circRun l gs x = -1 := by unfold circRun; rw [if_neg (by rw [h]; simp)]
theorem circRun_ok {l : Int} {gs : List G4} {x : Nat} (h : circQ l gs = true) (hv : wv l x = true) : circRun l gs x = ((circN gs x : Nat) : Int) := by unfold circRun; rw [if_pos ⟨h, hv⟩]; simp
theorem circQ_out {l : Int} {gs : List G4} (h : circQ l gs = true) : lnOk l = true ∧ gs.length ≤ 24 ∧ gs.all (gateOk l) = true := by
  simp only [circQ, Bool.and_eq_true, decide_eq_true_eq] at h; exact ⟨h.1.1, h.1.2, h.2⟩
theorem pow8 {l : Int} (h : lnOk l = true) : 2 ^ l.toNat ≤ 256 := by
  have := lnOk_iff.1 h
  exact Nat.pow_le_pow_right (n := 2) (by omega) (show l.toNat ≤ 8 by omega)
theorem wv_ok {l : Int} {x : Nat} (h : lnOk l = true) (hx : x < 2 ^ l.toNat) : wv l (x : Int) = true := by
  have h1 : pw l = ((2 ^ l.toNat : Nat) : Int) := by simp [pw]
  rw [wv, h, h1]
  simp only [Bool.true_and, Bool.and_eq_true, decide_eq_true_eq]
  exact ⟨by omega, by omega⟩
theorem gateRun_val {l k a b c : Int} {x : Nat} (h : gateQ l k a b c = true) (hv : wv l x = true) : gateRun l k a b c x = ((runG k a.toNat b.toNat c.toNat x : Nat) : Int) := by
  unfold gateRun; rw [if_pos ⟨h, hv⟩]; simp
/- a valid gate, at a word -/
theorem run_i (y : Nat) (l k a b c : Int) (x : Nat) (hg : gateQ l k a b c = true) (hx : x < 2 ^ l.toNat) (hy : runG k a.toNat b.toNat c.toNat x = y) (w : World) :
    Calls Try.prog 14 #[.agg #[.int .i64 k, .int .i64 a, .int .i64 b, .int .i64 c], .int .i64 x] w fun e w' => e = .returned (.int .i64 y) ∧ Below w.heap.size w w' := by
  subst hy
  have h8 := pow8 (gateQ_ln hg)
  obtain ⟨h1, h2, h3, h4⟩ := gateQ_in hg
  obtain ⟨a', rfl⟩ := Int.eq_ofNat_of_zero_le h2.1
  obtain ⟨b', rfl⟩ := Int.eq_ofNat_of_zero_le h3.1
  obtain ⟨c', rfl⟩ := Int.eq_ofNat_of_zero_le h4.1
  exact run_any k a' b' c' x (gateQ_kind hg) (by omega) (by omega) (by omega) (by omega) w
end Go.Proofs.Ytlaidoomjnhlaaa
