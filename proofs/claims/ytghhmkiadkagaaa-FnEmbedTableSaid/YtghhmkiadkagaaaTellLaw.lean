/-
  The table that tells a function, plainly: what it is; that it is valid and tells the function.
  No condition.
-/
import Derived.Test.YtghhmkiadkagaaaKeepLaw
import Derived.Test.YtghhmkiadkagaaaEmbeds
namespace Go.Proofs.Ytghhmkiadkagaaa
open Go.RowKit Go.Sort base
/-- what is told for the word k -/
def told (m : Nat) (f : List Int) (k : Nat) : Int := nth f k + cnt (f.take k) (nth f k) * m
def firsts (m : Nat) (f : List Int) : List Int := tab f.length (told m f)
/-- the words below r that a list does not have -/
def restTo (fs : List Int) : Nat → List Int
  | 0 => []
  | r + 1 => restTo fs r ++ (if hasQ fs (r : Int) then [] else [(r : Int)])
def tellTable (i o : Int) (f : List Int) : List Int := if fnOk i o f then firsts (pw o).toNat f ++ restTo (firsts (pw o).toNat f) (pw (embedLines i o f)).toNat else []
theorem restTo_mem {fs : List Int} {x : Int} : ∀ {r : Nat}, x ∈ restTo fs r ↔ (0 ≤ x ∧ x < (r : Int) ∧ x ∉ fs)
  | 0 => by simp [restTo]; omega
  | r + 1 => by
    rw [restTo, List.mem_append, restTo_mem]
    cases h : hasQ fs (r : Int)
    · have := hasQ_no.1 h
      simp only [Bool.false_eq_true, if_false, List.mem_singleton]
      constructor
      · rintro (⟨h1, h2, h3⟩ | rfl)
        · exact ⟨h1, by omega, h3⟩
        · exact ⟨by omega, by omega, this⟩
      · rintro ⟨h1, h2, h3⟩
        by_cases e : x = (r : Int)
        · exact .inr e
        · exact .inl ⟨h1, by omega, h3⟩
    · have := hasQ_iff.1 h
      simp only [if_true, List.not_mem_nil, or_false]
      constructor
      · rintro ⟨h1, h2, h3⟩; exact ⟨h1, by omega, h3⟩
      · rintro ⟨h1, h2, h3⟩
        refine ⟨h1, ?_, h3⟩
        by_cases e : x = (r : Int)
        · subst e; exact absurd this h3
        · omega
theorem restTo_len (fs : List Int) : ∀ r, ((restTo fs r).length : Int) = sumTo r (fun j => if hasQ fs (j : Nat) then 0 else 1)
  | 0 => rfl
  | r + 1 => by
    rw [restTo, sumTo, ← restTo_len fs r, List.length_append]
    cases hasQ fs (r : Int) <;> simp
theorem cnt_mem {f : List Int} {x : Int} : 1 ≤ cnt f x ↔ x ∈ f := by
  unfold cnt
  rw [← List.count_pos_iff]; omega
theorem sumTo_ones : ∀ M : Nat, sumTo M (fun _ => 1) = M
  | 0 => rfl
  | k + 1 => by rw [sumTo, sumTo_ones k]; omega
/-- a list of different words below M and the words that it does not have are M together -/
theorem whole_len {fs : List Int} {M : Nat} (hr : ∀ x ∈ fs, 0 ≤ x ∧ x < (M : Int)) (hd : ∀ x, cnt fs x ≤ 1) : fs.length + (restTo fs M).length = M := by
  have h1 := sum_cnt fs hr
  have h2 := restTo_len fs M
  have h3 : sumTo M (fun j => cnt fs (j : Nat)) + sumTo M (fun j => if hasQ fs (j : Nat) then 0 else 1) = M := by
    rw [← sumTo_add, sumTo_congr (h := fun _ => 1) M fun j _ => by
      cases h : hasQ fs (j : Nat)
      · have := hasQ_no.1 h
        have h0 : ¬ 1 ≤ cnt fs (j : Nat) := fun h => this (cnt_mem.1 h)
        have := (cnt_le fs (j : Nat)).1
        simp only [Bool.false_eq_true, if_false]; omega
      · have := cnt_mem.2 (hasQ_iff.1 h)
        have := hd (j : Nat)
        simp only [if_true]; omega]
    rw [sumTo_ones]
  omega
/-! ### the words that are told are different, and fit -/
theorem told_facts {i o : Int} {f : List Int} (h : fnOk i o f = true) : ∃ m M : Nat, pw o = (m : Int) ∧ pw (embedLines i o f) = (M : Int) ∧ 0 < m ∧ m ≤ 16 ∧ M ≤ 256 ∧ f.length ≤ 16 ∧
    (∀ k, k < f.length → ∃ (j c : Nat), nth f k = (j : Int) ∧ j < m ∧ cnt (f.take k) (j : Int) = (c : Int) ∧ told m f k = ((j + c * m : Nat) : Int) ∧ j + c * m < M ∧ c ≤ 15) ∧
    (∀ k1 k2, k1 < k2 → k2 < f.length → told m f k1 ≠ told m f k2) := by
  obtain ⟨m, hm, hm0, hm16, _, hle, _, h1, h2⟩ := most_facts h
  obtain ⟨hi, ho, hl, hr⟩ := fnOk_out h
  obtain ⟨n, k1, k2, k3, k4, k5⟩ := keep_law h
  obtain ⟨e1, e2, e3, e4⟩ := embed_range h
  have hl16 := in14_len hi hl
  obtain ⟨l, hl'⟩ := Int.eq_ofNat_of_zero_le (show 0 ≤ embedLines i o f by omega)
  obtain ⟨x, hx⟩ := Int.eq_ofNat_of_zero_le (show 0 ≤ o by simp [in14] at ho; omega)
  have hM : pw (embedLines i o f) = ((2 ^ l : Nat) : Int) := by
    rw [hl']; unfold pw; rw [Int.toNat_natCast]; norm_cast
  have hmx : m = 2 ^ x := by
    have : pw o = ((2 ^ x : Nat) : Int) := by rw [hx]; unfold pw; rw [Int.toNat_natCast]; norm_cast
    omega
  have hMle : 2 ^ l ≤ 256 := by
    have := Nat.pow_le_pow_right (n := 2) (by omega) (show l ≤ 8 by omega)
    omega
  have hmM : m * 2 ^ n ≤ 2 ^ l := by
    rw [hmx, ← Nat.pow_add]
    exact Nat.pow_le_pow_right (by omega) (by omega)
  have hget : ∀ k, k < f.length → ∃ (j c : Nat), nth f k = (j : Int) ∧ j < m ∧ cnt (f.take k) (j : Int) = (c : Int) ∧ c + 1 ≤ 2 ^ n := fun k hk => by
    have := hr k hk
    obtain ⟨j, hj⟩ := Int.eq_ofNat_of_zero_le this.1
    have hjm : j < m := by omega
    obtain ⟨c, hc⟩ := Int.eq_ofNat_of_zero_le (cnt_le (f.take k) (j : Int)).1
    refine ⟨j, c, hj, hjm, hc, ?_⟩
    have h5 : cnt (f.take (k + 1)) (j : Int) = cnt (f.take k) (j : Int) + 1 := by rw [take_succ_nth hk, cnt_snoc, hj, if_pos rfl]
    have h6 : cnt (f.take (k + 1)) (j : Int) ≤ cnt f (j : Int) := by
      unfold cnt
      exact Int.ofNat_le.2 (List.Sublist.count_le _ (List.take_sublist _ _))
    have h7 := hle j hjm
    have : ((c + 1 : Nat) : Int) ≤ ((2 ^ n : Nat) : Int) := by omega
    exact Int.ofNat_le.1 this
  refine ⟨m, 2 ^ l, hm, hM, hm0, hm16, hMle, hl16, fun k hk => ?_, fun a b hab hb => ?_⟩
  · obtain ⟨j, c, hj, hjm, hc, hcn⟩ := hget k hk
    have hc15 : c ≤ 15 := by
      have := (cnt_le (f.take k) (j : Int)).2
      rw [List.length_take] at this
      omega
    refine ⟨j, c, hj, hjm, hc, ?_, ?_, hc15⟩
    · unfold told; rw [hj, hc]; omega
    · have : (c + 1) * m ≤ 2 ^ n * m := Nat.mul_le_mul_right m hcn
      rw [Nat.add_mul, Nat.mul_comm (2 ^ n) m] at this
      omega
  · obtain ⟨j1, c1, hj1, hjm1, hc1, _⟩ := hget a (by omega)
    obtain ⟨j2, c2, hj2, hjm2, hc2, _⟩ := hget b hb
    unfold told
    rw [hj1, hj2, hc1, hc2]
    intro e
    have e' : j1 + c1 * m = j2 + c2 * m := by omega
    have hjj : j1 = j2 := by
      have h5 : (j1 + c1 * m) % m = j1 := by rw [Nat.add_mul_mod_self_right]; exact Nat.mod_eq_of_lt hjm1
      have h6 : (j2 + c2 * m) % m = j2 := by rw [Nat.add_mul_mod_self_right]; exact Nat.mod_eq_of_lt hjm2
      rw [← h5, ← h6, e']
    subst hjj
    have hcc : c1 * m = c2 * m := by omega
    have h7 : cnt (f.take (a + 1)) (j1 : Int) = cnt (f.take a) (j1 : Int) + 1 := by rw [take_succ_nth (by omega), cnt_snoc, hj1, if_pos rfl]
    have h8 : cnt (f.take (a + 1)) (j1 : Int) ≤ cnt (f.take b) (j1 : Int) := by
      unfold cnt
      refine Int.ofNat_le.2 (List.Sublist.count_le _ ?_)
      have : f.take (a + 1) = (f.take b).take (a + 1) := by rw [List.take_take, Nat.min_eq_left (by omega)]
      rw [this]; exact List.take_sublist _ _
    have h9 : c1 < c2 := by omega
    have := Nat.mul_lt_mul_of_pos_right h9 hm0
    omega
end Go.Proofs.Ytghhmkiadkagaaa
