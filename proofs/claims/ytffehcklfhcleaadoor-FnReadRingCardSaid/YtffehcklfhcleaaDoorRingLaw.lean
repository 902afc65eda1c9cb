/-
  Rings, plainly: what a rule tells, the sum of two rings, steps forward and back; that steps back undo steps forward, that runs add up, and that linear rules lead sums to sums.
  No condition.
-/
import Derived.Test.YtffehcklfhcleaaDoorPlain
namespace Go.Proofs.YtffehcklfhcleaaDoor
def bitQ (x : Int) : Bool := x == 0 || x == 1
def badBit (x : Int) : Bool := !bitQ x
def ruleQ (r : Int) : Bool := decide (0 ≤ r) && decide (r ≤ 255)
def ringQ (z : List Int) : Bool := decide (3 ≤ z.length) && decide (z.length ≤ 12) && !z.any badBit
/-- the bit of a rule -/
def rbit (rule : Int) (k : Nat) : Int := rule / 2 ^ k % 2
def rb (rule l o r : Int) : Int := rbit rule (4 * l + 2 * o + r).toNat
def ruleBit (rule l o r : Int) : Int := if ruleQ rule && bitQ l && bitQ o && bitQ r then rb rule l o r else -1
def ruled (rule : Int) (z : List Int) : List Int := tab z.length fun i => rb rule (nth z ((i + z.length - 1) % z.length)) (nth z i) (nth z ((i + 1) % z.length))
def sum2 (a b : List Int) : List Int := tab a.length fun i => (nth a i + nth b i) % 2
def pairQ (a b : List Int) : Bool := ringQ a && ringQ b && decide (a.length = b.length)
theorem bitQ_iff {x : Int} : bitQ x = true ↔ x = 0 ∨ x = 1 := by simp [bitQ]
theorem ruleQ_iff {x : Int} : ruleQ x = true ↔ 0 ≤ x ∧ x ≤ 255 := by simp [ruleQ]
theorem bitQ_mod (x : Int) : bitQ (x % 2) = true := by rw [bitQ_iff]; omega
/-- n cells, each a bit -/
def Bits (n : Nat) (z : List Int) : Prop := z.length = n ∧ ∀ k, k < n → bitQ (nth z k) = true
theorem ringQ_iff {z : List Int} : ringQ z = true ↔ 3 ≤ z.length ∧ z.length ≤ 12 ∧ Bits z.length z := by
  have : (!z.any badBit) = z.all bitQ := by
    rw [Bool.eq_iff_iff]; simp [badBit]
  unfold ringQ Bits
  rw [this, Bool.and_eq_true, Bool.and_eq_true, all_nth]
  simp [and_assoc]
theorem ring_of_bits {n : Nat} {z : List Int} (h : Bits n z) (h1 : 3 ≤ n) (h2 : n ≤ 12) : ringQ z = true := by
  obtain ⟨rfl, h⟩ := h
  exact ringQ_iff.2 ⟨h1, h2, rfl, h⟩
theorem sum2_bits {n : Nat} {a b : List Int} (ha : a.length = n) : Bits n (sum2 a b) := by
  subst ha
  refine ⟨tab_len _ _, fun k hk => ?_⟩
  rw [sum2, tab_nth hk]; exact bitQ_mod _
theorem ruled_bits {n : Nat} {rule : Int} {z : List Int} (hz : z.length = n) : Bits n (ruled rule z) := by
  subst hz
  refine ⟨tab_len _ _, fun k hk => ?_⟩
  rw [ruled, tab_nth hk]; exact bitQ_mod _
theorem sum2_nth {n : Nat} {a b : List Int} (ha : a.length = n) {k : Nat} (hk : k < n) : nth (sum2 a b) k = (nth a k + nth b k) % 2 := by
  subst ha; exact tab_nth hk
theorem sum2_twice {n : Nat} {a b : List Int} (ha : a.length = n) (hb : Bits n b) : sum2 a (sum2 a b) = b := by
  refine nth_ext (by rw [sum2, tab_len, ha, hb.1]) fun k hk => ?_
  rw [sum2, tab_len, ha] at hk
  rw [sum2_nth ha hk, sum2_nth ha hk]
  rcases bitQ_iff.1 (hb.2 k hk) with h | h <;> rw [h] <;> omega
theorem sum2_self {n : Nat} {a : List Int} (ha : a.length = n) : sum2 a a = tab n fun _ => 0 := by
  subst ha; exact tab_eq fun k _ => by omega
/-- two rings one behind the other -/
abbrev Two := List Int × List Int
def next (rule : Int) (p : Two) : Two := (p.2, sum2 (ruled rule p.2) p.1)
def prev (rule : Int) (p : Two) : Two := (sum2 (ruled rule p.1) p.2, p.1)
def fwd (rule : Int) : Nat → Two → Two
  | 0, p => p
  | k + 1, p => next rule (fwd rule k p)
def bwd (rule : Int) : Nat → Two → Two
  | 0, p => p
  | k + 1, p => prev rule (bwd rule k p)
def TwoBits (n : Nat) (p : Two) : Prop := Bits n p.1 ∧ Bits n p.2
theorem next_bits {n : Nat} {rule : Int} {p : Two} (h : TwoBits n p) : TwoBits n (next rule p) := ⟨h.2, sum2_bits (ruled_bits h.2.1).1⟩
theorem prev_bits {n : Nat} {rule : Int} {p : Two} (h : TwoBits n p) : TwoBits n (prev rule p) := ⟨sum2_bits (ruled_bits h.1.1).1, h.1⟩
theorem fwd_bits {n : Nat} {rule : Int} {p : Two} (h : TwoBits n p) : ∀ k, TwoBits n (fwd rule k p)
  | 0 => h
  | k + 1 => next_bits (fwd_bits h k)
theorem bwd_bits {n : Nat} {rule : Int} {p : Two} (h : TwoBits n p) : ∀ k, TwoBits n (bwd rule k p)
  | 0 => h
  | k + 1 => prev_bits (bwd_bits h k)
theorem prev_next {n : Nat} {rule : Int} {p : Two} (h : TwoBits n p) : prev rule (next rule p) = p := by
  obtain ⟨a, b⟩ := p
  simp only [next, prev, Prod.mk.injEq, and_true]
  exact sum2_twice (ruled_bits h.2.1).1 h.1
theorem next_prev {n : Nat} {rule : Int} {p : Two} (h : TwoBits n p) : next rule (prev rule p) = p := by
  obtain ⟨a, b⟩ := p
  simp only [next, prev, Prod.mk.injEq, true_and]
  exact sum2_twice (ruled_bits h.1.1).1 h.2
theorem fwd_add (rule : Int) (j : Nat) (p : Two) : ∀ k, fwd rule (j + k) p = fwd rule k (fwd rule j p)
  | 0 => rfl
  | k + 1 => by rw [← Nat.add_assoc, fwd, fwd_add rule j p k]; rfl
theorem bwd_add (rule : Int) (j : Nat) (p : Two) : ∀ k, bwd rule (j + k) p = bwd rule k (bwd rule j p)
  | 0 => rfl
  | k + 1 => by rw [← Nat.add_assoc, bwd, bwd_add rule j p k]; rfl
theorem bwd_fwd {n : Nat} {rule : Int} : ∀ (k : Nat) {p : Two}, TwoBits n p → bwd rule k (fwd rule k p) = p
  | 0, _, _ => rfl
  | k + 1, p, h => by
    rw [Nat.add_comm, bwd_add, fwd_add]
    have e : fwd rule k (fwd rule 1 p) = next rule (fwd rule k p) := by rw [← fwd_add, Nat.add_comm]; rfl
    rw [e]
    show bwd rule k (prev rule (next rule (fwd rule k p))) = p
    rw [prev_next (fwd_bits h k), bwd_fwd k h]
theorem fwd_bwd {n : Nat} {rule : Int} : ∀ (k : Nat) {p : Two}, TwoBits n p → fwd rule k (bwd rule k p) = p
  | 0, _, _ => rfl
  | k + 1, p, h => by
    rw [Nat.add_comm, fwd_add, bwd_add]
    have e : bwd rule k (bwd rule 1 p) = prev rule (bwd rule k p) := by rw [← bwd_add, Nat.add_comm]; rfl
    rw [e]
    show fwd rule k (next rule (prev rule (bwd rule k p))) = p
    rw [next_prev (bwd_bits h k), fwd_bwd k h]
/-- the run of whatever number of steps -/
def runTwo (rule : Int) (p : Two) (steps : Int) : Two := bwd rule (-steps).toNat (fwd rule steps.toNat p)
theorem run_bits {n : Nat} {rule : Int} {p : Two} (h : TwoBits n p) (s : Int) : TwoBits n (runTwo rule p s) := bwd_bits (fwd_bits h _) _
theorem run_pos (rule : Int) (p : Two) (k : Nat) : runTwo rule p k = fwd rule k p := by
  unfold runTwo; rw [show (-(k : Int)).toNat = 0 by omega]; rfl
theorem run_neg (rule : Int) (p : Two) (k : Nat) : runTwo rule p (-(k : Int)) = bwd rule k p := by
  unfold runTwo; rw [show (- -(k : Int)).toNat = k by omega, show (-(k : Int)).toNat = 0 by omega]; rfl
theorem run_back {n : Nat} {rule : Int} {p : Two} (h : TwoBits n p) (s : Int) : runTwo rule (runTwo rule p s) (-s) = p := by
  rcases Int.le_total 0 s with hs | hs
  · obtain ⟨k, rfl⟩ := Int.eq_ofNat_of_zero_le hs
    rw [run_pos, run_neg, bwd_fwd k h]
  · obtain ⟨k, hk⟩ := Int.eq_ofNat_of_zero_le (show 0 ≤ -s by omega)
    obtain rfl : s = -(k : Int) := by omega
    rw [run_neg, Int.neg_neg, run_pos, fwd_bwd k h]
theorem run_parts (rule : Int) (p : Two) (s h : Int) (hs : (0 ≤ h ∧ h ≤ s) ∨ (s ≤ h ∧ h ≤ 0)) : runTwo rule (runTwo rule p h) (s - h) = runTwo rule p s := by
  rcases hs with ⟨h1, h2⟩ | ⟨h1, h2⟩
  · obtain ⟨k, rfl⟩ := Int.eq_ofNat_of_zero_le h1
    obtain ⟨j, hj⟩ := Int.eq_ofNat_of_zero_le (show 0 ≤ s - k by omega)
    obtain rfl : s = ((k + j : Nat) : Int) := by omega
    rw [hj, run_pos, run_pos, run_pos, fwd_add]
  · obtain ⟨k, hk⟩ := Int.eq_ofNat_of_zero_le (show 0 ≤ -h by omega)
    obtain rfl : h = -(k : Int) := by omega
    obtain ⟨j, hj⟩ := Int.eq_ofNat_of_zero_le (show 0 ≤ -(k : Int) - s by omega)
    obtain rfl : s = -((k + j : Nat) : Int) := by omega
    rw [show -((k + j : Nat) : Int) - -(k : Int) = -(j : Int) by omega, run_neg, run_neg, run_neg, bwd_add]
/-! ### Linear rules -/
def linQ (rule : Int) : Bool := (List.range 8).all fun a => (List.range 8).all fun b => rbit rule (a ^^^ b) == (rbit rule a + rbit rule b) % 2
def lin (rule : Int) : Bool := ruleQ rule && linQ rule
theorem lin_eight : ((List.range 256).filter fun k : Nat => lin (k : Int)).length = 8 := by decide +kernel
theorem linQ_at {rule : Int} (h : linQ rule = true) {a b : Nat} (ha : a < 8) (hb : b < 8) : rbit rule (a ^^^ b) = (rbit rule a + rbit rule b) % 2 := by
  have h1 := List.all_eq_true.1 h a (by simpa using ha)
  have h2 := List.all_eq_true.1 h1 b (by simpa using hb)
  simpa using h2
theorem rb_lin {rule l1 o1 r1 l2 o2 r2 : Int} (h : linQ rule = true) (a1 : bitQ l1 = true) (a2 : bitQ o1 = true) (a3 : bitQ r1 = true) (b1 : bitQ l2 = true) (b2 : bitQ o2 = true) (b3 : bitQ r2 = true) :
    rb rule ((l1 + l2) % 2) ((o1 + o2) % 2) ((r1 + r2) % 2) = (rb rule l1 o1 r1 + rb rule l2 o2 r2) % 2 := by
  rw [bitQ_iff] at *
  have key : (4 * ((l1 + l2) % 2) + 2 * ((o1 + o2) % 2) + (r1 + r2) % 2).toNat = (4 * l1 + 2 * o1 + r1).toNat ^^^ (4 * l2 + 2 * o2 + r2).toNat := by
    rcases a1 with rfl | rfl <;> rcases a2 with rfl | rfl <;> rcases a3 with rfl | rfl <;> rcases b1 with rfl | rfl <;> rcases b2 with rfl | rfl <;> rcases b3 with rfl | rfl <;> rfl
  unfold rb
  rw [key]
  exact linQ_at h (by omega) (by omega)
theorem ruled_sum {n : Nat} {rule : Int} {a b : List Int} (h : linQ rule = true) (hn : 0 < n) (ha : Bits n a) (hb : Bits n b) : ruled rule (sum2 a b) = sum2 (ruled rule a) (ruled rule b) := by
  obtain ⟨rfl, ha⟩ := ha
  obtain ⟨hl, hb⟩ := hb
  have e1 : (sum2 a b).length = a.length := tab_len _ _
  refine nth_ext (by rw [(ruled_bits rfl).1, (sum2_bits (ruled_bits rfl).1).1, e1]) fun k hk => ?_
  have hk : k < a.length := by rw [ruled, tab_len, e1] at hk; exact hk
  rw [sum2_nth (ruled_bits rfl).1 hk]
  unfold ruled
  rw [tab_nth (by rw [e1]; exact hk), tab_nth hk, tab_nth (by rw [hl]; exact hk), e1, hl]
  have m1 : (k + a.length - 1) % a.length < a.length := Nat.mod_lt _ hn
  have m2 : (k + 1) % a.length < a.length := Nat.mod_lt _ hn
  rw [sum2_nth rfl m1, sum2_nth rfl m2, sum2_nth rfl hk]
  exact rb_lin h (ha _ m1) (ha _ hk) (ha _ m2) (hb _ m1) (hb _ hk) (hb _ m2)
theorem sum2_four {n : Nat} {a b c d : List Int} (ha : a.length = n) (hc : c.length = n) : sum2 (sum2 a b) (sum2 c d) = sum2 (sum2 a c) (sum2 b d) ∨ b.length ≠ n := by
  by_cases hb : b.length = n
  · left
    have e1 : (sum2 a b).length = n := by rw [sum2, tab_len, ha]
    have e2 : (sum2 a c).length = n := by rw [sum2, tab_len, ha]
    refine nth_ext (by rw [sum2, tab_len, e1, sum2, tab_len, e2]) fun k hk => ?_
    have hk : k < n := by rw [sum2, tab_len, e1] at hk; exact hk
    rw [sum2_nth e1 hk, sum2_nth ha hk, sum2_nth hc hk, sum2_nth e2 hk, sum2_nth ha hk, sum2_nth hb hk]
    omega
  · exact .inr hb
/-- the sum of two pairs of rings -/
def sumTwo (p q : Two) : Two := (sum2 p.1 q.1, sum2 p.2 q.2)
theorem next_sum {n : Nat} {rule : Int} {p q : Two} (h : linQ rule = true) (hn : 0 < n) (hp : TwoBits n p) (hq : TwoBits n q) : next rule (sumTwo p q) = sumTwo (next rule p) (next rule q) := by
  obtain ⟨a, b⟩ := p
  obtain ⟨c, d⟩ := q
  simp only [next, sumTwo, Prod.mk.injEq, true_and]
  rw [ruled_sum h hn hp.2 hq.2]
  rcases sum2_four (n := n) (a := ruled rule b) (b := ruled rule d) (c := a) (d := c) (ruled_bits hp.2.1).1 hp.1.1 with e | e
  · exact e
  · exact absurd (ruled_bits hq.2.1).1 e
theorem prev_sum {n : Nat} {rule : Int} {p q : Two} (h : linQ rule = true) (hn : 0 < n) (hp : TwoBits n p) (hq : TwoBits n q) : prev rule (sumTwo p q) = sumTwo (prev rule p) (prev rule q) := by
  obtain ⟨a, b⟩ := p
  obtain ⟨c, d⟩ := q
  simp only [prev, sumTwo, Prod.mk.injEq, and_true]
  rw [ruled_sum h hn hp.1 hq.1]
  rcases sum2_four (n := n) (a := ruled rule a) (b := ruled rule c) (c := b) (d := d) (ruled_bits hp.1.1).1 hp.2.1 with e | e
  · exact e
  · exact absurd (ruled_bits hq.1.1).1 e
theorem fwd_sum {n : Nat} {rule : Int} {p q : Two} (h : linQ rule = true) (hn : 0 < n) (hp : TwoBits n p) (hq : TwoBits n q) : ∀ k, fwd rule k (sumTwo p q) = sumTwo (fwd rule k p) (fwd rule k q)
  | 0 => rfl
  | k + 1 => by rw [fwd, fwd_sum h hn hp hq k, next_sum h hn (fwd_bits hp k) (fwd_bits hq k)]; rfl
theorem bwd_sum {n : Nat} {rule : Int} {p q : Two} (h : linQ rule = true) (hn : 0 < n) (hp : TwoBits n p) (hq : TwoBits n q) : ∀ k, bwd rule k (sumTwo p q) = sumTwo (bwd rule k p) (bwd rule k q)
  | 0 => rfl
  | k + 1 => by rw [bwd, bwd_sum h hn hp hq k, prev_sum h hn (bwd_bits hp k) (bwd_bits hq k)]; rfl
theorem run_sum {n : Nat} {rule : Int} {p q : Two} (h : linQ rule = true) (hn : 0 < n) (hp : TwoBits n p) (hq : TwoBits n q) (s : Int) : runTwo rule (sumTwo p q) s = sumTwo (runTwo rule p s) (runTwo rule q s) := by
  unfold runTwo
  rw [fwd_sum h hn hp hq, bwd_sum h hn (fwd_bits hp _) (fwd_bits hq _)]
/-! ### The other direction of time -/
def swapTwo (p : Two) : Two := (p.2, p.1)
theorem fwd_swap (rule : Int) (p : Two) : ∀ k, fwd rule k (swapTwo p) = swapTwo (bwd rule k p)
  | 0 => rfl
  | k + 1 => by rw [fwd, fwd_swap rule p k, bwd]; rfl
theorem swap_period {n : Nat} {rule : Int} {p : Two} (h : TwoBits n p) (k : Nat) : fwd rule k (swapTwo p) = swapTwo p ↔ fwd rule k p = p := by
  rw [fwd_swap]
  constructor
  · intro e
    have e1 : bwd rule k p = p := by
      have := congrArg swapTwo e
      exact this
    rw [← e1, fwd_bwd k h, e1]
  · intro e
    have e1 : bwd rule k p = p := by rw [← e, bwd_fwd k h, e]
    rw [e1]
/-! ### Rings shifted, rings and rules in the other direction -/
def shift (z : List Int) (d : Nat) : List Int := tab z.length fun i => nth z ((i + (z.length - d % z.length)) % z.length)
def flip (z : List Int) : List Int := z.reverse
theorem flip_nth {z : List Int} {k : Nat} (h : k < z.length) : nth (flip z) k = nth z (z.length - 1 - k) := by
  rw [nth_lt (by simpa [flip] using h), nth_lt (by omega)]
  simp [flip]
def ruleFlip (rule : Int) : Int := (List.range 8).foldl (fun (s : Int) (k : Nat) => s + rb rule ((k : Int) % 2) ((k : Int) / 2 % 2) ((k : Int) / 4) * 2 ^ k) 0
theorem flip_rule : ∀ rule : Fin 256, ruleQ (ruleFlip (rule.val : Int)) = true ∧ ∀ l : Fin 2, ∀ o : Fin 2, ∀ r : Fin 2, rb (ruleFlip (rule.val : Int)) (l.val : Int) (o.val : Int) (r.val : Int) = rb (rule.val : Int) (r.val : Int) (o.val : Int) (l.val : Int) := by
  decide +kernel
theorem rb_flip {rule l o r : Int} (h : ruleQ rule = true) (h1 : bitQ l = true) (h2 : bitQ o = true) (h3 : bitQ r = true) : rb (ruleFlip rule) l o r = rb rule r o l := by
  rw [ruleQ_iff] at h
  obtain ⟨k, rfl⟩ := Int.eq_ofNat_of_zero_le h.1
  have := (flip_rule ⟨k, by omega⟩).2
  rw [bitQ_iff] at h1 h2 h3
  rcases h1 with rfl | rfl <;> rcases h2 with rfl | rfl <;> rcases h3 with rfl | rfl
  · exact this 0 0 0
  · exact this 0 0 1
  · exact this 0 1 0
  · exact this 0 1 1
  · exact this 1 0 0
  · exact this 1 0 1
  · exact this 1 1 0
  · exact this 1 1 1
theorem ruleQ_flip {rule : Int} (h : ruleQ rule = true) : ruleQ (ruleFlip rule) = true := by
  rw [ruleQ_iff] at h
  obtain ⟨k, rfl⟩ := Int.eq_ofNat_of_zero_le h.1
  exact (flip_rule ⟨k, by omega⟩).1
theorem ruled_shift {rule : Int} {z : List Int} (hn : 3 ≤ z.length) : ruled rule (shift z 1) = shift (ruled rule z) 1 := by
  have e1 : (shift z 1).length = z.length := tab_len _ _
  have e2 : (ruled rule z).length = z.length := tab_len _ _
  have e3 : 1 % z.length = 1 := Nat.mod_eq_of_lt (by omega)
  have sh : ∀ (x : List Int) k, x.length = z.length → k < z.length → nth (shift x 1) k = nth x ((k + (z.length - 1)) % z.length) := by
    intro x k hx hk
    unfold shift
    rw [hx, tab_nth hk, e3]
  refine nth_ext (by rw [(ruled_bits rfl).1, e1, shift, tab_len, e2]) fun k hk => ?_
  have hk : k < z.length := by rw [ruled, tab_len, e1] at hk; exact hk
  rw [sh _ _ e2 hk]
  have m0 : (k + (z.length - 1)) % z.length < z.length := Nat.mod_lt _ (by omega)
  unfold ruled
  rw [tab_nth (by rw [e1]; exact hk), tab_nth m0, e1, sh z _ rfl (Nat.mod_lt _ (by omega)), sh z _ rfl hk, sh z _ rfl (Nat.mod_lt _ (by omega))]
  have c1 : ((k + z.length - 1) % z.length + (z.length - 1)) % z.length = ((k + (z.length - 1)) % z.length + z.length - 1) % z.length := by
    rw [show k + z.length - 1 = k + (z.length - 1) by omega, show (k + (z.length - 1)) % z.length + z.length - 1 = (k + (z.length - 1)) % z.length + (z.length - 1) by omega]
  have c2 : ((k + 1) % z.length + (z.length - 1)) % z.length = ((k + (z.length - 1)) % z.length + 1) % z.length := by
    rw [Nat.mod_add_mod, Nat.mod_add_mod]
    congr 1
    omega
  rw [c1, c2]
theorem ruled_flip {rule : Int} {z : List Int} (hn : 3 ≤ z.length) (hb : Bits z.length z) (hr : ruleQ rule = true) : ruled (ruleFlip rule) (flip z) = flip (ruled rule z) := by
  have e1 : (flip z).length = z.length := by simp [flip]
  have e2 : (ruled rule z).length = z.length := tab_len _ _
  refine nth_ext (by rw [ruled, tab_len, e1]; simp [flip, e2]) fun k hk => ?_
  have hk : k < z.length := by rw [ruled, tab_len, e1] at hk; exact hk
  rw [flip_nth (by rw [e2]; exact hk), e2]
  have m1 : (k + z.length - 1) % z.length < z.length := Nat.mod_lt _ (by omega)
  have m2 : (k + 1) % z.length < z.length := Nat.mod_lt _ (by omega)
  unfold ruled
  rw [tab_nth (by rw [e1]; exact hk), tab_nth (by omega), e1, flip_nth m1, flip_nth hk, flip_nth m2]
  rw [rb_flip hr (hb.2 _ (by omega)) (hb.2 _ (by omega)) (hb.2 _ (by omega))]
  have c1 : z.length - 1 - (k + 1) % z.length = (z.length - 1 - k + z.length - 1) % z.length := by
    by_cases h : k + 1 = z.length
    · rw [h, Nat.mod_self, show z.length - 1 - k + z.length - 1 = z.length - 1 by omega, Nat.mod_eq_of_lt (by omega)]; omega
    · rw [Nat.mod_eq_of_lt (show k + 1 < z.length by omega), show z.length - 1 - k + z.length - 1 = (z.length - 2 - k) + z.length by omega, Nat.add_mod_right, Nat.mod_eq_of_lt (by omega)]; omega
  have c2 : z.length - 1 - (k + z.length - 1) % z.length = (z.length - 1 - k + 1) % z.length := by
    by_cases h : k = 0
    · subst h
      rw [show 0 + z.length - 1 = z.length - 1 by omega, Nat.mod_eq_of_lt (show z.length - 1 < z.length by omega), show z.length - 1 - 0 + 1 = z.length by omega, Nat.mod_self]; omega
    · rw [show k + z.length - 1 = (k - 1) + z.length by omega, Nat.add_mod_right, Nat.mod_eq_of_lt (show k - 1 < z.length by omega), Nat.mod_eq_of_lt (by omega)]; omega
  rw [c1, c2]
end Go.Proofs.YtffehcklfhcleaaDoor
