/-
  Plain law: the gates of a formula leave the bits of its steps on their lines.
  No condition.
-/
import Derived.Test.YtpklpebngholcaaStepS
import Derived.Test.YtpklpebngholcaaBits
namespace Go.Proofs.Ytpklpebngholcaa
open Go.RowKit Go.Sort base
/-- the gates of the first k steps -/
def compN (I : Nat) (fs : List S3) : Nat → List G4
  | 0 => []
  | k + 1 => compN I fs k ++ stepG (sth fs k).1 (sth fs k).2.1 (sth fs k).2.2 ((I + k : Nat) : Int)
theorem stepG_all (op x y l : Int) : (stepG op x y l).all (gateOk 8) = true := by
  unfold stepG
  split
  · rename_i h
    simp only [stepQ, Bool.and_eq_true] at h
    exact h.2
  · rfl
theorem stepG_len (op x y l : Int) : (stepG op x y l).length ≤ 3 := by
  unfold stepG stepL
  repeat' split
  all_goals simp
theorem compN_all (I : Nat) (fs : List S3) : ∀ k, (compN I fs k).all (gateOk 8) = true
  | 0 => rfl
  | k + 1 => by rw [compN, List.all_append, compN_all I fs k, stepG_all]; rfl
theorem compN_len (I : Nat) (fs : List S3) : ∀ k, (compN I fs k).length ≤ 3 * k
  | 0 => by simp [compN]
  | k + 1 => by
    have h1 := compN_len I fs k
    have h2 := stepG_len (sth fs k).1 (sth fs k).2.1 (sth fs k).2.2 ((I + k : Nat) : Int)
    rw [compN, List.length_append]; omega
theorem circN_app (a b : List G4) (x : Nat) : circN (a ++ b) x = circN b (circN a x) := by simp [circN, List.foldl_append]
def bn (y j : Nat) : Nat := y / 2 ^ j % 2
def nbN (op a b : Nat) : Nat := if op = 0 then a * b else if op = 1 then max a b else if op = 2 then (a + b) % 2 else 1 - a
def stepV (m op a b : Nat) : Bool := (op != 3 && a == b) || (op == 3 && b != 0) || (List.range (2 ^ m)).all fun y => circN (stepG op a b m) y == y + nbN op (bn y a) (bn y b) * 2 ^ m
def stepsV (m : Nat) : Bool := (List.range 4).all fun op => (List.range m).all fun a => (List.range m).all fun b => stepV m op a b
theorem stepsV_1 : stepsV 1 = true := by decide +kernel
theorem stepsV_2 : stepsV 2 = true := by decide +kernel
theorem stepsV_3 : stepsV 3 = true := by decide +kernel
theorem stepsV_4 : stepsV 4 = true := by decide +kernel
theorem stepsV_5 : stepsV 5 = true := by decide +kernel
def bitV (m : Nat) : Bool := (List.range (2 ^ m)).all fun y => (List.range 2).all fun c => y + c * 2 ^ m < 2 ^ (m + 1) && bn (y + c * 2 ^ m) m == c && (List.range m).all fun j => bn (y + c * 2 ^ m) j == bn y j
theorem bitV_ok : (List.range 6).all bitV = true := by decide +kernel
theorem step_val {m op a b y : Nat} (hm : 1 ≤ m ∧ m ≤ 5) (hop : op ≤ 3) (ha : a < m) (hb : b < m) (h1 : op ≠ 3 → a ≠ b) (h2 : op = 3 → b = 0) (hy : y < 2 ^ m) : circN (stepG op a b m) y = y + nbN op (bn y a) (bn y b) * 2 ^ m := by
  have hs : stepsV m = true := by
    rcases (show m = 1 ∨ m = 2 ∨ m = 3 ∨ m = 4 ∨ m = 5 by omega) with rfl | rfl | rfl | rfl | rfl
    · exact stepsV_1
    · exact stepsV_2
    · exact stepsV_3
    · exact stepsV_4
    · exact stepsV_5
  simp only [stepsV, List.all_eq_true, List.mem_range] at hs
  have h := hs op (by omega) a ha b hb
  simp only [stepV, Bool.or_eq_true, Bool.and_eq_true, bne_iff_ne, beq_iff_eq, List.all_eq_true, List.mem_range] at h
  rcases h with (⟨h3, h4⟩ | ⟨h3, h4⟩) | h
  · exact absurd h4 (h1 h3)
  · exact absurd (h2 h3) h4
  · exact h y hy
theorem bit_val {m y c : Nat} (hm : m ≤ 5) (hy : y < 2 ^ m) (hc : c < 2) : y + c * 2 ^ m < 2 ^ (m + 1) ∧ bn (y + c * 2 ^ m) m = c ∧ ∀ j, j < m → bn (y + c * 2 ^ m) j = bn y j := by
  have h := bitV_ok
  simp only [List.all_eq_true, List.mem_range] at h
  have h := h m (by omega)
  simp only [bitV, List.all_eq_true, List.mem_range] at h
  have h := h y hy c hc
  simp only [Bool.and_eq_true, decide_eq_true_eq, beq_iff_eq, List.all_eq_true, List.mem_range] at h
  exact ⟨h.1.1, h.1.2, h.2⟩
theorem nb_lt (op : Nat) {a b : Nat} (ha : a < 2) (hb : b < 2) : nbN op a b < 2 := by
  unfold nbN
  rcases (show a = 0 ∨ a = 1 by omega) with rfl | rfl <;> rcases (show b = 0 ∨ b = 1 by omega) with rfl | rfl <;> (repeat' split) <;> decide
theorem bn_lt (y j : Nat) : bn y j < 2 := Nat.mod_lt _ (by omega)
/-- the word behind the gates of k steps -/
structure LeftAt (I : Nat) (fs : List S3) (x : Nat) (k : Nat) : Prop where
  lt : circN (compN I fs k) x < 2 ^ (I + k)
  bit : ∀ j, j < I + k → nth (bitsN I (x : Int) (fs.take k)) j = (bn (circN (compN I fs k) x) j : Nat)
theorem left_at {I : Nat} {fs : List S3} {x : Nat} (hI : 1 ≤ I ∧ I ≤ 3) (hn : fs.length ≤ 3) (hx : x < 2 ^ I) (hs : ∀ k, k < fs.length → stepOk ((I : Int) + k - 1) (sth fs k) = true) : ∀ k, k ≤ fs.length → LeftAt I fs x k
  | 0, _ => ⟨by simpa [compN, circN] using hx, fun j hj => by
      have : nth (bitsN I (x : Int) (fs.take 0)) j = bitAt x j := by simp only [bitsN, List.take_zero, List.foldl_nil]; exact tab_nth (by omega)
      rw [this]
      simp [compN, circN, bitAt, bn]⟩
  | k + 1, hk => by
    have ih := left_at hI hn hx hs k (by omega)
    obtain ⟨⟨op, a, b⟩, hg⟩ : ∃ s, sth fs k = s := ⟨_, rfl⟩
    have hso := hs k (by omega)
    rw [hg] at hso
    obtain ⟨hop, ha, hb⟩ := step_in hso
    obtain ⟨op, rfl⟩ := Int.eq_ofNat_of_zero_le (show 0 ≤ op by omega)
    obtain ⟨a, rfl⟩ := Int.eq_ofNat_of_zero_le ha.1
    obtain ⟨b, rfl⟩ := Int.eq_ofNat_of_zero_le hb.1
    have hne : (op ≠ 3 → a ≠ b) ∧ (op = 3 → b = 0) := by
      simp only [stepOk, Bool.and_eq_true, decide_eq_true_eq] at hso
      refine ⟨fun h3 => ?_, fun h3 => ?_⟩
      · have h4 := hso.2
        rw [if_neg (by omega)] at h4
        simp at h4; omega
      · have h4 := hso.2
        rw [if_pos (by omega)] at h4
        simp at h4; omega
    have hl := bitsN_len I (x : Int) fs k (by omega)
    have e : circN (compN I fs (k + 1)) x = circN (compN I fs k) x + nbN op (bn (circN (compN I fs k) x) a) (bn (circN (compN I fs k) x) b) * 2 ^ (I + k) := by
      rw [compN, circN_app, hg]
      exact step_val (m := I + k) (by omega) (by omega) (by omega) (by omega) hne.1 hne.2 ih.lt
    have hnb := nb_lt op (bn_lt (circN (compN I fs k) x) a) (bn_lt (circN (compN I fs k) x) b)
    obtain ⟨h1, h2, h3⟩ := bit_val (m := I + k) (by omega) ih.lt hnb
    refine ⟨by rw [e]; exact h1, fun j hj => ?_⟩
    rw [e, bitsN_succ (by omega), hg]
    rcases Nat.lt_or_ge j (I + k) with h | h
    · rw [nth_app (by omega), ih.bit j h, h3 j h]
    · obtain rfl : j = (bitsN I (x : Int) (fs.take k)).length := by omega
      rw [nth_last, hl, h2]
      have ea := ih.bit a (by omega)
      have eb := ih.bit b (by omega)
      have la := bn_lt (circN (compN I fs k) x) a
      have lb := bn_lt (circN (compN I fs k) x) b
      generalize bn (circN (compN I fs k) x) a = u at *
      generalize bn (circN (compN I fs k) x) b = v at *
      simp only [nextBit, Int.toNat_natCast, ea, eb, nbN]
      rcases (show op = 0 ∨ op = 1 ∨ op = 2 ∨ op = 3 by omega) with rfl | rfl | rfl | rfl <;> rcases (show u = 0 ∨ u = 1 by omega) with rfl | rfl <;> rcases (show v = 0 ∨ v = 1 by omega) with rfl | rfl <;> decide
/-- what is left over of a word -/
def leftN (I n y : Nat) : Nat := y / 2 ^ I % 2 ^ (n - 1)
/-- .. by the bits of the steps -/
def sumBits (bs : List Int) : Nat → Int
  | 0 => 0
  | k + 1 => sumBits bs k + nth bs k * 2 ^ k
theorem nth_drop (bs : List Int) (I k : Nat) : nth (bs.drop I) k = nth bs (I + k) := by simp [nth]
theorem left_sum {I : Nat} {fs : List S3} {x : Nat} (hI : 1 ≤ I ∧ I ≤ 3) (hn : 1 ≤ fs.length ∧ fs.length ≤ 3) (h : LeftAt I fs x fs.length) :
    sumBits ((bitsN I (x : Int) fs).drop I) (fs.length - 1) = (leftN I fs.length (circN (compN I fs fs.length) x) : Nat) := by
  have hb := h.bit
  rw [List.take_length] at hb
  generalize circN (compN I fs fs.length) x = y at *
  rcases (show fs.length = 1 ∨ fs.length = 2 ∨ fs.length = 3 by omega) with e | e | e
  · rw [e]; simp [sumBits, leftN, Nat.mod_one]
  · have h0 := hb I (by omega)
    rw [e]
    simp only [sumBits, leftN, nth_drop, Nat.add_zero, h0, bn]
    simp
  · have h0 := hb I (by omega)
    have h1 := hb (I + 1) (by omega)
    rw [e]
    simp only [sumBits, leftN, nth_drop, Nat.add_zero, h0, h1, bn]
    rw [Nat.pow_succ, ← Nat.div_div_eq_div_mul]
    generalize y / 2 ^ I = q
    simp
    omega
end Go.Proofs.Ytpklpebngholcaa
