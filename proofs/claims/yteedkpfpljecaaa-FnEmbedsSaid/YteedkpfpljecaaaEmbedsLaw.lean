/-
  Plain law: no table with fewer lines tells a function.
  No condition.
-/
import Derived.Test.YteedkpfpljecaaaOntoLaw
import Derived.Test.YteedkpfpljecaaaKeepLaw
import Derived.Test.YteedkpfpljecaaaEmbeds
namespace Go.Proofs.Yteedkpfpljecaaa
open Go.RowKit Go.Sort base
/-- of the words before k that become j, the upper parts of their tables' words -/
def ups (t : List Int) (M : Int) (f : List Int) (j : Int) : Nat → List Int
  | 0 => []
  | k + 1 => ups t M f j k ++ if nth f k = j then [nth t k / M] else []
theorem ups_len {t : List Int} {M : Int} {f : List Int} {j : Int} : ∀ k, k ≤ f.length → ((ups t M f j k).length : Int) = cnt (f.take k) j
  | 0, _ => by simp [ups, cnt]
  | k + 1, h => by
    rw [ups, cnt_take (by omega), List.length_append, Int.natCast_add, ups_len k (by omega)]
    split <;> simp
theorem ups_mem {t : List Int} {M : Int} {f : List Int} {j x : Int} : ∀ k, x ∈ ups t M f j k → ∃ i, i < k ∧ nth f i = j ∧ x = nth t i / M
  | 0, h => by simp [ups] at h
  | k + 1, h => by
    rw [ups, List.mem_append] at h
    rcases h with h | h
    · obtain ⟨i, h1, h2, h3⟩ := ups_mem k h; exact ⟨i, by omega, h2, h3⟩
    · split at h
      · rename_i e; simp at h; exact ⟨k, by omega, e, h⟩
      · simp at h
theorem ups_one {t : List Int} {M : Int} {f : List Int} {j : Int} (hM : 0 < M) (hg : goodL t = true) (hl : f.length ≤ t.length) (he : ∀ k, k < f.length → nth t k % M = nth f k) (x : Int) : ∀ k, k ≤ f.length → cnt (ups t M f j k) x ≤ 1
  | 0, _ => by simp [ups, cnt]
  | k + 1, h => by
    have ih := ups_one (j := j) hM hg hl he x k (by omega)
    rw [ups]
    split
    · rename_i e
      rw [cnt_snoc]
      by_cases hx : nth t k / M = x
      · rw [if_pos hx]
        have hno : x ∉ ups t M f j k := fun hm => by
          obtain ⟨i, h1, h2, h3⟩ := ups_mem k hm
          have e1 := he k (by omega)
          have e2 := he i (by omega)
          have d1 := Int.mul_ediv_add_emod (nth t k) M
          have d2 := Int.mul_ediv_add_emod (nth t i) M
          have heq : nth t k = nth t i := by rw [← d1, ← d2, e1, e2, e, h2, hx, h3]
          have hgk := goodL_iff.1 hg k (by omega)
          simp only [goodAt, Bool.and_eq_true, Bool.not_eq_true'] at hgk
          have hni := hasQ_no.1 hgk.2
          apply hni
          rw [heq, nth_lt (show i < t.length by omega)]
          exact List.mem_iff_getElem.2 ⟨i, by simp; omega, by simp⟩
        have := mt cnt_mem.2 hno
        omega
      · rw [if_neg hx]; omega
    · rw [List.append_nil]; exact ih
theorem few {L : List Int} {N : Nat} (h : ∀ x ∈ L, 0 ≤ x ∧ x < (N : Int)) (h1 : ∀ x, cnt L x ≤ 1) : L.length ≤ N := by
  have e := sum_cnt L h
  have := sumTo_le (M := 1) N (g := fun j => cnt L (j : Nat)) (fun j _ => h1 _)
  rw [e] at this
  omega
theorem pw_nat' {l : Int} (h : lnOk l = true) : pw l = ((2 ^ l.toNat : Nat) : Int) := by simp [pw]
/-- the table has at least EmbedLines lines -/
theorem embed_law {l i o : Int} {t f : List Int} (h : embeds l t i o f = true) : 0 ≤ embedLines i o f ∧ embedLines i o f ≤ l := by
  simp only [embeds, Bool.and_eq_true, decide_eq_true_eq] at h
  obtain ⟨⟨⟨ht, hf⟩, hil, hol⟩, hE⟩ := h
  obtain ⟨hln, htl, hg⟩ := tableOk_out ht
  obtain ⟨hi, ho, hfl, hfr⟩ := fnOk_out hf
  have hlen := emb_len ht hf hil
  obtain ⟨hr1, hr2, hr3, hr4⟩ := embed_range hf
  obtain ⟨n, hk, hn4, _, hn⟩ := keep_law hf
  obtain ⟨m, hm, hm0, hm16, ⟨j, hj, ej⟩, hle, _, h1, h16⟩ := most_facts hf
  have hb := lnOk_iff.1 hln
  have hb2 := lnOk_iff.1 (in14_lnOk ho)
  refine ⟨by omega, ?_⟩
  have hexp : pw l = pw o * ((2 ^ (l - o).toNat : Nat) : Int) := by
    rw [pw_nat' hln, pw_nat' (in14_lnOk ho), ← Int.natCast_mul, ← Nat.pow_add]
    congr 2
    omega
  have hpo : 0 < pw o := by rw [hm]; omega
  have he : ∀ k, k < f.length → nth t k % pw o = nth f k := fun k hk => by
    have := embL_iff.1 hE k hk
    simpa [embAt] using this
  have hcnt : sameMost i o f ≤ ((2 ^ (l - o).toNat : Nat) : Int) := by
    rw [ej]
    have e1 := ups_len (t := t) (M := pw o) (f := f) (j := (j : Nat)) f.length (Nat.le_refl _)
    rw [List.take_length] at e1
    rw [← e1]
    have := few (L := ups t (pw o) f (j : Nat) f.length) (N := 2 ^ (l - o).toNat) (fun x hx => by
      obtain ⟨k, hk, _, rfl⟩ := ups_mem _ hx
      have h0 := (goodL_iff.1 hg k (by omega))
      simp only [goodAt, Bool.and_eq_true, decide_eq_true_eq] at h0
      refine ⟨Int.ediv_nonneg h0.1.1 (by omega), ?_⟩
      refine Int.ediv_lt_of_lt_mul hpo ?_
      rw [Int.mul_comm, ← hexp, ← htl]
      omega) (fun x => ups_one hpo hg hlen he x f.length (Nat.le_refl _))
    omega
  have hkn : n ≤ (l - o).toNat := by
    rcases hn with rfl | h2
    · omega
    · have h3 : (2 ^ (n - 1) : Nat) < 2 ^ (l - o).toNat := by omega
      have := (Nat.pow_lt_pow_iff_right (by omega : 1 < 2)).1 h3
      omega
  unfold embedLines
  rw [if_pos hf, hk]
  omega
end Go.Proofs.Yteedkpfpljecaaa
