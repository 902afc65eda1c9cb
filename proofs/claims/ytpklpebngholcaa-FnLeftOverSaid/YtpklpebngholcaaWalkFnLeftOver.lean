/-
  The walk of the law FnLeftOver: it returns true at every input, and turns nothing that was there.
  No condition.
-/
import Derived.Test.YtpklpebngholcaaDrawForm
namespace Go.Proofs.Ytpklpebngholcaa
open Go.RowKit Go.Sort base
theorem addZ_nodup {acc : List Int} (h : acc.Nodup) (x : Int) : (addZ acc x).Nodup := by
  unfold addZ
  split
  · exact h
  · rename_i hx
    rw [List.nodup_append]
    refine ⟨h, by simp, fun a ha b hb => ?_⟩
    simp only [List.mem_singleton] at hb
    subst hb
    rintro rfl
    exact hx (hasQ_iff.2 ha)
theorem fold_nodup : ∀ (xs acc : List Int), acc.Nodup → (xs.foldl addZ acc).Nodup
  | [], _, h => h
  | x :: xs, acc, h => fold_nodup xs _ (addZ_nodup h x)
theorem addZ_mem {acc : List Int} {x z : Int} (h : z ∈ addZ acc x) : z ∈ acc ∨ z = x := by
  unfold addZ at h
  split at h
  · exact .inl h
  · simpa using h
theorem fold_mem : ∀ (xs acc : List Int) (z : Int), z ∈ xs.foldl addZ acc → z ∈ acc ∨ z ∈ xs
  | [], _, _, h => .inl h
  | x :: xs, acc, z, h => by
    rcases fold_mem xs _ z h with h | h
    · rcases addZ_mem h with h | h
      · exact .inl h
      · exact .inr (by simp [h])
    · exact .inr (by simp [h])
theorem addZ_len (acc : List Int) (x : Int) : acc.length ≤ (addZ acc x).length ∧ (addZ acc x).length ≤ acc.length + 1 ∧ 1 ≤ (addZ acc x).length := by
  unfold addZ
  split
  · rename_i h
    have := List.length_pos_of_mem (hasQ_iff.1 h)
    omega
  · simp
theorem fold_len : ∀ (xs acc : List Int), acc.length ≤ (xs.foldl addZ acc).length ∧ (xs.foldl addZ acc).length ≤ acc.length + xs.length
  | [], _ => by simp
  | x :: xs, acc => by
    have h1 := fold_len xs (addZ acc x)
    have h2 := addZ_len acc x
    simp only [List.foldl_cons, List.length_cons]
    omega
theorem pigeon : ∀ (M : Nat) (l : List Int), l.Nodup → (∀ z ∈ l, 0 ≤ z ∧ z < (M : Int)) → l.length ≤ M
  | 0, l, _, h => by
    cases l with
    | nil => simp
    | cons z l => have := h z (by simp); omega
  | M + 1, l, hn, h => by
    have h1 := pigeon M (l.erase (M : Int)) (hn.erase _) (fun z hz => by
      have := (hn.mem_erase_iff).1 hz
      have := h z this.2
      omega)
    have h2 := List.length_erase (a := (M : Int)) (l := l)
    split at h2 <;> omega
structure LeftF (I n P M N : Nat) : Prop where
  p : wrap64 ((2 : Int) ^ I) = (P : Int)
  m : wrap64 ((2 : Int) ^ (n - 1)) = (M : Int)
  n1 : 1 ≤ N
  np : N ≤ P
  nm : N ≤ M
  one : n = 1 → M = 1
  ok : 1 ≤ n ∧ n ≤ 3 ∧ 1 ≤ I ∧ I ≤ 3 ∧ P ≤ 8 ∧ M ≤ 4
theorem left_laws {I : Nat} {fs : List S3} (h : formQ (I : Nat) fs = true) : ∃ P M N, leftOver (I : Nat) fs = (N : Nat) ∧ LeftF I fs.length P M N := by
  obtain ⟨hi, hl, _⟩ := formQ_iff.1 h
  obtain ⟨n, hn⟩ : ∃ n, fs.length = n := ⟨_, rfl⟩
  rw [hn] at hl ⊢
  have hI : 1 ≤ I ∧ I ≤ 3 := by omega
  have hN : leftOver (I : Nat) fs = ((seenZ (leftL I fs (2 ^ I))).length : Nat) := by rw [leftOver, h, if_pos rfl]; rfl
  have hpos : 1 ≤ 2 ^ I := Nat.pow_pos (by omega)
  have hlen : (leftL I fs (2 ^ I)).length = 2 ^ I := tab_len _ _
  have h1 : 1 ≤ (seenZ (leftL I fs (2 ^ I))).length := by
    cases hx : leftL I fs (2 ^ I) with
    | nil => rw [hx] at hlen; simp at hlen; omega
    | cons x xs =>
      have h2 := (fold_len xs (addZ [] x)).1
      have h3 := (addZ_len [] x).2.2
      simp only [seenZ, List.foldl_cons]
      omega
  have h2 : (seenZ (leftL I fs (2 ^ I))).length ≤ 2 ^ I := by
    have := (fold_len (leftL I fs (2 ^ I)) []).2
    rw [hlen] at this
    simpa [seenZ] using this
  have h3 : (seenZ (leftL I fs (2 ^ I))).length ≤ 2 ^ (n - 1) := by
    refine pigeon _ _ (fold_nodup _ _ (by simp)) fun z hz => ?_
    rcases fold_mem _ _ z hz with hz | hz
    · cases hz
    · obtain ⟨j, hj, rfl⟩ := List.mem_map.1 hz
      have : leftN I fs.length (circN (compN I fs fs.length) j) < 2 ^ (fs.length - 1) := Nat.mod_lt _ (Nat.pow_pos (by omega))
      rw [hn] at this
      unfold leftV
      rw [hn]
      omega
  refine ⟨2 ^ I, 2 ^ (n - 1), _, hN, ?_, ?_, h1, h2, h3, fun e => by rw [e], hl.1, hl.2, hI.1, hI.2, ?_, ?_⟩
  · rcases (show I = 1 ∨ I = 2 ∨ I = 3 by omega) with rfl | rfl | rfl <;> decide +kernel
  · rcases (show n = 1 ∨ n = 2 ∨ n = 3 by omega) with rfl | rfl | rfl <;> decide +kernel
  · rcases (show I = 1 ∨ I = 2 ∨ I = 3 by omega) with rfl | rfl | rfl <;> decide
  · rcases (show n = 1 ∨ n = 2 ∨ n = 3 by omega) with rfl | rfl | rfl <;> decide
set_option maxRecDepth 100000 in
set_option maxHeartbeats 4000000 in
theorem walk_FnLeftOver (Ap : Option Addr) (np cp : Nat) (zp : List Int) (w : World) (hp : IRk .u8 w Ap np zp) (yp : ∀ z ∈ zp, (Lit.int .u8 z).wf = true) (dp : np ≤ cp) :
    Calls Try.prog 6 #[.slice Ap np cp] w fun e w' => e = .returned (.bool true) ∧ Below w.heap.size w w' := by
  have maxp := hp.max
  have Hp := hide hp
  have Yp := hide yp
  clear hp yp
  by_cases bigp : 1048576 < np
  · go_enter Try.func6, Try.ntmps6
    go_wp2_with fail
    go_ret
    exact ⟨rfl, Below.refl _ _⟩
  go_enter Try.func6, Try.ntmps6
  have B0 := hide (Below.refl w.heap.size w)
  go_wp2_with fail
  refine (drawLeftOver_b Ap np cp zp _ (Hp.out.below B0.out) Yp.out dp).mono ?_
  rintro e w1 ⟨⟨i, Af, nf, cf, fs, rfl, hi0, hi4, hnf, hsr⟩, hb1⟩
  have B1 := hide (bseq B0.out hb1)
  clear hb1
  have F_1 := hide hsr
  clear hsr
  obtain ⟨X, hX⟩ : ∃ X, leftOver i fs = X := ⟨_, rfl⟩
  have HX := Lib.hid hX
  clear hX
  go_wp2_with fail
  refine (leftOver_any i _ _ _ fs _ F_1.out).mono ?_
  rintro e w2 ⟨rfl, hb2⟩
  have B2 := hide (bseq B1.out hb2)
  have f_2 := hide (F_1.out.below hb2)
  clear hb2
  rw [HX.out]
  go_wp2_with fail
  refine (sLeftOver_any i _ _ _ fs _ f_2.out).mono ?_
  rintro e w3 ⟨rfl, hb3⟩
  have B3 := hide (bseq B2.out hb3)
  have f_3 := hide (f_2.out.below hb3)
  clear hb3
  rw [HX.out]
  have hxx : (X != X) = false := by simp
  cases hq : formQ i fs
  · obtain rfl : X = -1 := by rw [← HX.out, leftOver, hq, if_neg (by simp)]
    clear hq
    go_wp2_with (go_at_call 21; refine (alive_any _).mono ?_; rintro e w' ⟨rfl, rfl⟩)
    go_ret
    exact ⟨by first | rfl | (simp; omega) | simp, B3.out⟩
  · obtain ⟨I, rfl⟩ := Int.eq_ofNat_of_zero_le hi0
    obtain ⟨P, M, N, hN, hF⟩ := left_laws hq
    obtain rfl : X = (N : Int) := by rw [← HX.out]; exact hN
    have hlen := f_3.out.len
    rw [hlen] at hF
    obtain ⟨hP, hM, h1, h2, h3, h4, h5, h6, h7, h8, h9, h10⟩ := hF
    clear hlen hN hq
    by_cases hn1 : nf = 1
    · obtain rfl := hn1
      obtain rfl := h4 rfl
      obtain rfl : N = 1 := by omega
      clear h4
      go_wp2_with fail
      go_ret
      exact ⟨by first | rfl | (simp; omega) | simp, B3.out⟩
    · have hn2 : 1 < nf := by omega
      clear h4 hn1
      go_wp2_with fail
      go_ret
      exact ⟨by first | rfl | (simp; omega) | simp, B3.out⟩
end Go.Proofs.Ytpklpebngholcaa
