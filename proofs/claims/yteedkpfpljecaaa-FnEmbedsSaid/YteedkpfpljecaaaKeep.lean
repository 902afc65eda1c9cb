/-
  KeepLines and EmbedLines of the program and of the reference.
  No condition.
-/
import Derived.Test.YteedkpfpljecaaaMostLaw
import Derived.Test.YteedkpfpljecaaaShelf
namespace Go.Proofs.Yteedkpfpljecaaa
open Go.RowKit Go.Sort base
def keepLines (i o : Int) (f : List Int) : Int := if fnOk i o f then ((Lib.bitLen (sameMost i o f - 1).toNat : Nat) : Int) else -1
def embedLines (i o : Int) (f : List Int) : Int := if fnOk i o f then max i (o + keepLines i o f) else -1
theorem keep_fin : ∀ m : Fin 17, ∀ k : Fin 5, 1 ≤ m.val → m.val ≤ 2 ^ k.val → (k.val = 0 ∨ 2 ^ (k.val - 1) < m.val) → Lib.bitLen (m.val - 1) = k.val := by decide +kernel
theorem keep_of {m : Int} {k : Nat} (h1 : 1 ≤ m) (h2 : m ≤ 16) (hk : k ≤ 4) (hle : m ≤ ((2 ^ k : Nat) : Int)) (hlt : k = 0 ∨ ((2 ^ (k - 1) : Nat) : Int) < m) : Lib.bitLen (m - 1).toNat = k := by
  obtain ⟨a, rfl⟩ := Int.eq_ofNat_of_zero_le (show 0 ≤ m by omega)
  have := keep_fin ⟨a, by omega⟩ ⟨k, by omega⟩ (by simpa using (show 1 ≤ a by omega)) (by simpa using Int.ofNat_le.1 hle) (by
    rcases hlt with h | h
    · exact .inl h
    · exact .inr (Int.ofNat_lt.1 h))
  rw [show ((a : Int) - 1).toNat = a - 1 by omega]
  exact this
theorem bitLen_le {m : Int} (h1 : 1 ≤ m) (h2 : m ≤ 16) : Lib.bitLen (m - 1).toNat ≤ 4 := by
  obtain ⟨a, rfl⟩ := Int.eq_ofNat_of_zero_le (show 0 ≤ m by omega)
  have : ∀ a : Fin 17, Lib.bitLen (a.val - 1) ≤ 4 := by decide +kernel
  rw [show ((a : Int) - 1).toNat = a - 1 by omega]
  exact this ⟨a, by omega⟩
theorem keep_range {i o : Int} {f : List Int} (h : fnOk i o f = true) : 0 ≤ keepLines i o f ∧ keepLines i o f ≤ 4 := by
  obtain ⟨_, _, _, _, _, _, _, h1, h2⟩ := most_facts h
  have := bitLen_le h1 h2
  simp only [keepLines, h, if_true]
  omega
theorem embed_range {i o : Int} {f : List Int} (h : fnOk i o f = true) : 1 ≤ embedLines i o f ∧ embedLines i o f ≤ 8 ∧ i ≤ embedLines i o f ∧ o + keepLines i o f ≤ embedLines i o f := by
  have hk := keep_range h
  obtain ⟨hi, ho, _⟩ := fnOk_out h
  simp only [in14, Bool.and_eq_true, decide_eq_true_eq] at hi ho
  simp only [embedLines, h, if_true]
  omega
set_option maxHeartbeats 1000000 in
theorem keepLines_any (i o : Int) (A : Option Addr) (n c : Nat) (f : List Int) (w : World) (hf : IR w A n f) :
    Calls Try.prog 15 #[.int .i64 i, .int .i64 o, .slice A n c] w fun e w' => e = .returned (.int .i64 (keepLines i o f)) ∧ Below w.heap.size w w' := by
  have HF := hide hf
  clear hf
  cases h1 : fnOk i o f
  · have HS := Lib.hid (show keepLines i o f = -1 by simp [keepLines, h1])
    have HM := Lib.hid (show sameMost i o f = -1 by simp [sameMost, h1])
    go_enter Try.func15, Try.ntmps15
    go_wp2_with fail
    refine (sameMost_any i o A n c f _ HF.out).mono ?_
    rintro e w1 ⟨rfl, hb1⟩
    rw [HM.out]
    go_wp2_with fail
    go_ret
    exact ⟨by rw [HS.out]; rfl, hb1⟩
  · obtain ⟨_, _, _, _, _, _, _, m1, m2⟩ := most_facts h1
    have HS := Lib.hid (show keepLines i o f = ((Lib.bitLen (sameMost i o f - 1).toNat : Nat) : Int) by simp [keepLines, h1])
    obtain ⟨M, hM⟩ : ∃ M, M = sameMost i o f := ⟨_, rfl⟩
    rw [← hM] at m1 m2
    have HM := Lib.hid hM.symm
    clear hM
    go_enter Try.func15, Try.ntmps15
    go_wp2_with fail
    refine (sameMost_any i o A n c f _ HF.out).mono ?_
    rintro e w1 ⟨rfl, hb1⟩
    rw [HM.out]
    go_wp2_with fail
    refine (Try.bits_Len (M - 1) _ (by omega) (by omega)).mono ?_
    rintro e w' ⟨rfl, rfl⟩
    go_wp2_with fail
    go_ret
    exact ⟨by rw [HS.out, HM.out, show (M - 1).toNat = M.toNat - 1 by omega]; rfl, hb1⟩
set_option maxHeartbeats 1000000 in
theorem embedLines_any (i o : Int) (A : Option Addr) (n c : Nat) (f : List Int) (w : World) (hf : IR w A n f) :
    Calls Try.prog 19 #[.int .i64 i, .int .i64 o, .slice A n c] w fun e w' => e = .returned (.int .i64 (embedLines i o f)) ∧ Below w.heap.size w w' := by
  have HF := hide hf
  clear hf
  cases h1 : fnOk i o f
  · have HS := Lib.hid (show embedLines i o f = -1 by simp [embedLines, h1])
    have HM := Lib.hid (show keepLines i o f = -1 by simp [keepLines, h1])
    go_enter Try.func19, Try.ntmps19
    go_wp2_with fail
    refine (keepLines_any i o A n c f _ HF.out).mono ?_
    rintro e w1 ⟨rfl, hb1⟩
    rw [HM.out]
    go_wp2_with fail
    go_ret
    exact ⟨by rw [HS.out]; rfl, hb1⟩
  · have hk := keep_range h1
    have hio : 1 ≤ i ∧ i ≤ 4 ∧ 1 ≤ o ∧ o ≤ 4 := by
      obtain ⟨hi, ho, _⟩ := fnOk_out h1
      simp only [in14, Bool.and_eq_true, decide_eq_true_eq] at hi ho
      omega
    obtain ⟨i1, i2, i3, i4⟩ := hio
    have HS := Lib.hid (show embedLines i o f = max i (o + keepLines i o f) by simp [embedLines, h1])
    obtain ⟨M, hM⟩ : ∃ M, M = keepLines i o f := ⟨_, rfl⟩
    rw [← hM] at hk
    obtain ⟨k1, k2⟩ := hk
    have HM := Lib.hid hM.symm
    clear hM
    go_enter Try.func19, Try.ntmps19
    go_wp2_with fail
    refine (keepLines_any i o A n c f _ HF.out).mono ?_
    rintro e w1 ⟨rfl, hb1⟩
    rw [HM.out]
    go_wp2_with fail
    go_ret
    exact ⟨by rw [HS.out, HM.out]; rfl, hb1⟩
end Go.Proofs.Yteedkpfpljecaaa
