/-
  The draws of the laws over one statement, and the walk of the law FnLineValid.
  No condition.
-/
import Derived.Test.YtkakhajellemcaaDrawText
namespace Go.Proofs.Ytkakhajellemcaa
open Go.RowKit Go.Sort base
/- some statement -/
def FreshLine (w : World) (e : Ending) (w' : World) : Prop :=
  ∃ k v m n : Int, e = .returned (.agg #[.int .i64 k, .int .i64 v, .int .i64 m, .int .i64 n]) ∧ (0 ≤ n ∧ n ≤ 127) ∧ Below w.heap.size w w'
set_option maxHeartbeats 1000000 in
theorem drawLineValid_b (A : Option Addr) (n c : Nat) (zs : List Int) (w : World) (h : IRk .u8 w A n zs) (hz : ∀ z ∈ zs, (Lit.int .u8 z).wf = true) (hc : n ≤ c) :
    Calls Try.prog 15 #[.slice A n c] w (FreshLine w) := by
  have B0 := hide (show Below w.heap.size w (w.alloc (.cells #[.int .i64 0, .int .i64 0, .int .i64 0, .int .i64 0] 25)) by go_grown)
  have H := hide (h.below B0.out)
  have HZ := hide hz
  have X0 := hide (Box4.made w 0 0 0 0 25)
  have F0 : Hid (Free (w.alloc (.cells #[.int .i64 0, .int .i64 0, .int .i64 0, .int .i64 0] 25)) w.heap.size) := free_made w _ _
  clear h hz
  go_enter Try.func15, Try.ntmps15
  go_wp2_with fail
  refine (open_b A n c zs _ H.out HZ.out hc).mono ?_
  rintro e w1 ⟨R, rfl, hR, hr, hb⟩
  rw [World.size_alloc] at hR
  have H1 := hide hr
  have X1 := hide (X0.out.below hb)
  have F1 : Hid (Free w1 w.heap.size) := F0.out.below (by simp) hb
  have B1 := hide (B0.out.trans (hb.mono B0.out.size))
  clear hr hb
  go_wp2_with fail
  refine (l20Text_b R 0 2 _ H1.out (by omega) (by omega)).mono ?_
  rintro e w2 ⟨k, v, m, n, rfl, hn, _, hg⟩
  have X2 := hide (X1.out.grown hg (by omega))
  have F2 : Hid (Free w2 w.heap.size) := F1.out.grown X1.out.lt hg (by omega)
  have B2 := hide (B1.out.grown hg B1.out.size (by simp; omega))
  clear hg
  obtain ⟨x0, x1, x2, x3⟩ := X2.out
  have fx := F2.out
  unfold Free at fx
  go_wp2_with fail
  refine post_named fun w3 hw3 => ?_
  obtain ⟨p0, p1, p2, p3⟩ : Box4 w3 w.heap.size k v m n := by rw [← hw3]; exact box4_put X2.out _ _ _ _
  have B3 := hide (show Below w.heap.size w w3 by rw [← hw3]; exact (((B2.out.setCell (Nat.le_refl _) _).setCell (Nat.le_refl _) _).setCell (Nat.le_refl _) _).setCell (Nat.le_refl _) _)
  clear hw3
  exact bodyPost_ret (v := .agg #[.int .i64 k, .int .i64 v, .int .i64 m, .int .i64 n]) (by simp [results, Try.results15, go_sem, p0, p1, p2, p3]) rfl ⟨k, v, m, n, rfl, hn, B3.out⟩
set_option maxHeartbeats 1000000 in
theorem drawLineBack_b (A : Option Addr) (n c : Nat) (zs : List Int) (w : World) (h : IRk .u8 w A n zs) (hz : ∀ z ∈ zs, (Lit.int .u8 z).wf = true) (hc : n ≤ c) :
    Calls Try.prog 17 #[.slice A n c] w (FreshLine w) := by
  have B0 := hide (show Below w.heap.size w (w.alloc (.cells #[.int .i64 0, .int .i64 0, .int .i64 0, .int .i64 0] 25)) by go_grown)
  have H := hide (h.below B0.out)
  have HZ := hide hz
  have X0 := hide (Box4.made w 0 0 0 0 25)
  have F0 : Hid (Free (w.alloc (.cells #[.int .i64 0, .int .i64 0, .int .i64 0, .int .i64 0] 25)) w.heap.size) := free_made w _ _
  clear h hz
  go_enter Try.func17, Try.ntmps17
  go_wp2_with fail
  refine (open_b A n c zs _ H.out HZ.out hc).mono ?_
  rintro e w1 ⟨R, rfl, hR, hr, hb⟩
  rw [World.size_alloc] at hR
  have H1 := hide hr
  have X1 := hide (X0.out.below hb)
  have F1 : Hid (Free w1 w.heap.size) := F0.out.below (by simp) hb
  have B1 := hide (B0.out.trans (hb.mono B0.out.size))
  clear hr hb
  go_wp2_with fail
  refine (l20Text_b R 0 6 _ H1.out (by omega) (by omega)).mono ?_
  rintro e w2 ⟨k, v, m, n, rfl, hn, _, hg⟩
  have X2 := hide (X1.out.grown hg (by omega))
  have F2 : Hid (Free w2 w.heap.size) := F1.out.grown X1.out.lt hg (by omega)
  have B2 := hide (B1.out.grown hg B1.out.size (by simp; omega))
  clear hg
  obtain ⟨x0, x1, x2, x3⟩ := X2.out
  have fx := F2.out
  unfold Free at fx
  go_wp2_with fail
  refine post_named fun w3 hw3 => ?_
  obtain ⟨p0, p1, p2, p3⟩ : Box4 w3 w.heap.size k v m n := by rw [← hw3]; exact box4_put X2.out _ _ _ _
  have B3 := hide (show Below w.heap.size w w3 by rw [← hw3]; exact (((B2.out.setCell (Nat.le_refl _) _).setCell (Nat.le_refl _) _).setCell (Nat.le_refl _) _).setCell (Nat.le_refl _) _)
  clear hw3
  exact bodyPost_ret (v := .agg #[.int .i64 k, .int .i64 v, .int .i64 m, .int .i64 n]) (by simp [results, Try.results17, go_sem, p0, p1, p2, p3]) rfl ⟨k, v, m, n, rfl, hn, B3.out⟩
theorem bare_a {k : Int} (h : 4 ≤ k ∧ k ≤ 8) : lineQ k 0 0 0 = true := by
  rcases (show k = 4 ∨ k = 5 ∨ k = 6 ∨ k = 7 ∨ k = 8 by omega) with rfl | rfl | rfl | rfl | rfl <;> rfl
theorem bare_no {k : Int} (h : k ≠ 2) (h' : k < 4 ∨ 8 < k) : lineQ k 0 0 0 = false := by
  cases hk : inR 0 8 k
  · simp [lineQ, hk]
  · rcases kind9 hk with rfl | rfl | rfl | rfl | rfl | rfl | rfl | rfl | rfl <;> first | rfl | (exfalso; omega)
theorem inR_true {lo hi x : Int} (h : lo ≤ x ∧ x ≤ hi) : inR lo hi x = true := inR_iff.2 h
theorem back_ok {k v w n k1 v1 w1 n1 : Int} (h : lineQ k v w n = true) (hb : lineBack k v w n = (k1, v1, w1, n1)) : lineQ k1 v1 w1 n1 = true := by
  have h9 := kind9 (show inR 0 8 k = true by simp only [lineQ, Bool.and_eq_true] at h; exact h.1)
  have hn := lineQ_n h
  rcases h9 with rfl | rfl | rfl | rfl | rfl | rfl | rfl | rfl | rfl <;>
    (rw [lineBack, h] at hb; simp at hb; obtain ⟨rfl, rfl, rfl, rfl⟩ := hb)
  · exact h
  · exact h
  · simp [lineQ, inR, hasV, hasW, mostN] at h ⊢; omega
  · exact h
  · rfl
  · simp [lineQ, inR, hasV, hasW, mostN] at h ⊢; omega
  · exact h
  · exact h
  · exact h
set_option maxHeartbeats 4000000 in
theorem walk_FnLineValid (A : Option Addr) (n c : Nat) (zs : List Int) (w : World) (h : IRk .u8 w A n zs) (hz : ∀ z ∈ zs, (Lit.int .u8 z).wf = true) (hc : n ≤ c) :
    Calls Try.prog 5 #[.slice A n c] w fun e w' => e = .returned (.bool true) ∧ Below w.heap.size w w' := by
  have hmax := h.max
  by_cases hbig : 1048576 < n
  · clear h hz
    go_enter Try.func5, Try.ntmps5
    go_wp2_with fail
    go_ret
    exact ⟨rfl, Below.refl _ _⟩
  have H := hide (drawLineValid_b A n c zs w h hz hc)
  clear h hz
  go_enter Try.func5, Try.ntmps5
  go_wp2_with fail
  refine H.out.mono ?_
  rintro e w1 ⟨k, v, m, n2, rfl, hn, hb1⟩
  have B1 := hide hb1
  have hs1 := hb1.size
  have X1 := hide (Box4.made w1 k v m n2 25)
  have B1' := hide (hb1.alloc hs1 (.cells #[.int .i64 k, .int .i64 v, .int .i64 m, .int .i64 n2] 25))
  clear hb1 hn
  obtain ⟨ok, hok⟩ : ∃ ok, lineQ k v m n2 = ok := ⟨_, rfl⟩
  have HOK := Lib.hid hok
  clear hok
  have e1 : (ok != ok) = false := by simp
  obtain ⟨k1, v1, m1, n1, hbk⟩ : ∃ k1 v1 m1 n1, lineBack k v m n2 = (k1, v1, m1, n1) := ⟨_, _, _, _, rfl⟩
  have HC := hide (lineBack_any k v m n2)
  rw [hbk] at HC
  have HC' : Hid (∀ W, Calls Try.prog 13 #[.agg #[.int .i64 k, .int .i64 v, .int .i64 m, .int .i64 n2]] W fun e w' => e = .returned (.agg #[.int .i64 k1, .int .i64 v1, .int .i64 m1, .int .i64 n1]) ∧ Below W.heap.size W w') := HC.out
  have HK := Lib.hid hbk
  clear HC hbk
  obtain ⟨bq, hbq⟩ : ∃ bq, lineQ k 0 0 0 = bq := ⟨_, rfl⟩
  have HBQ := Lib.hid hbq
  clear hbq
  go_wp2_with fail
  refine (lineValid_b ok k v m n2 HOK.out _).mono ?_
  rintro e w2 ⟨rfl, hb⟩
  have B2 := hide (B1'.out.trans (hb.mono B1'.out.size))
  have X2 := hide (X1.out.below hb)
  clear hb
  obtain ⟨c0, c1, c2, c3⟩ := X2.out
  go_wp2_with fail
  clear c0 c1 c2 c3
  refine (sLineValid_b ok k v m n2 HOK.out _).mono ?_
  rintro e w3 ⟨rfl, hb⟩
  have B3 := hide (B2.out.trans (hb.mono B2.out.size))
  have X3 := hide (X2.out.below hb)
  clear hb
  obtain ⟨c0, c1, c2, c3⟩ := X3.out
  go_wp2_with fail
  clear c0 c1 c2 c3
  refine (lineValid_b bq k 0 0 0 HBQ.out _).mono ?_
  rintro e w4 ⟨rfl, hb⟩
  have B4 := hide (B3.out.trans (hb.mono B3.out.size))
  have X4 := hide (X3.out.below hb)
  clear hb
  rcases (show k = 2 ∨ (k ≠ 2 ∧ 4 ≤ k ∧ k ≤ 8) ∨ (k ≠ 2 ∧ k < 4) ∨ (k ≠ 2 ∧ 8 < k) by omega) with rfl | ⟨hk2, hk4, hk8⟩ | ⟨hk2, hk4⟩ | ⟨hk2, hk8⟩
  · obtain rfl : bq = true := by rw [← HBQ.out]; exact rfl
    obtain ⟨c0, c1, c2, c3⟩ := X4.out
    cases ok
    · go_wp2_with fail
      refine (alive_any _).mono ?_
      rintro e w' ⟨rfl, rfl⟩
      go_wp2_with fail
      go_ret
      exact ⟨rfl, B4.out⟩
    · have HB := Lib.hid (back_ok HOK.out HK.out)
      go_wp2_with fail
      refine (HC'.out _).mono ?_
      rintro e w5 ⟨rfl, hb⟩
      have B5 := hide (B4.out.trans (hb.mono B4.out.size))
      clear hb
      go_wp2_with fail
      refine (lineValid_b true k1 v1 m1 n1 HB.out _).mono ?_
      rintro e w6 ⟨rfl, hb⟩
      have B6 := hide (B5.out.trans (hb.mono B5.out.size))
      clear hb
      go_wp2_with fail
      refine (alive_any _).mono ?_
      rintro e w' ⟨rfl, rfl⟩
      go_wp2_with fail
      go_ret
      exact ⟨rfl, B6.out⟩
  · obtain rfl : bq = true := by rw [← HBQ.out]; exact bare_a ⟨hk4, hk8⟩
    have e2 : (k == 2) = false := by simpa using hk2
    clear hk2
    obtain ⟨c0, c1, c2, c3⟩ := X4.out
    cases ok
    · go_wp2_with fail
      refine (alive_any _).mono ?_
      rintro e w' ⟨rfl, rfl⟩
      go_wp2_with fail
      go_ret
      exact ⟨rfl, B4.out⟩
    · have HB := Lib.hid (back_ok HOK.out HK.out)
      go_wp2_with fail
      refine (HC'.out _).mono ?_
      rintro e w5 ⟨rfl, hb⟩
      have B5 := hide (B4.out.trans (hb.mono B4.out.size))
      clear hb
      go_wp2_with fail
      refine (lineValid_b true k1 v1 m1 n1 HB.out _).mono ?_
      rintro e w6 ⟨rfl, hb⟩
      have B6 := hide (B5.out.trans (hb.mono B5.out.size))
      clear hb
      go_wp2_with fail
      refine (alive_any _).mono ?_
      rintro e w' ⟨rfl, rfl⟩
      go_wp2_with fail
      go_ret
      exact ⟨rfl, B6.out⟩
  · obtain rfl : bq = false := by rw [← HBQ.out]; exact bare_no hk2 (.inl hk4)
    have e2 : (k == 2) = false := by simpa using hk2
    clear hk2
    obtain ⟨c0, c1, c2, c3⟩ := X4.out
    cases ok
    · go_wp2_with fail
      refine (alive_any _).mono ?_
      rintro e w' ⟨rfl, rfl⟩
      go_wp2_with fail
      go_ret
      exact ⟨rfl, B4.out⟩
    · have HB := Lib.hid (back_ok HOK.out HK.out)
      go_wp2_with fail
      refine (HC'.out _).mono ?_
      rintro e w5 ⟨rfl, hb⟩
      have B5 := hide (B4.out.trans (hb.mono B4.out.size))
      clear hb
      go_wp2_with fail
      refine (lineValid_b true k1 v1 m1 n1 HB.out _).mono ?_
      rintro e w6 ⟨rfl, hb⟩
      have B6 := hide (B5.out.trans (hb.mono B5.out.size))
      clear hb
      go_wp2_with fail
      refine (alive_any _).mono ?_
      rintro e w' ⟨rfl, rfl⟩
      go_wp2_with fail
      go_ret
      exact ⟨rfl, B6.out⟩
  · obtain rfl : bq = false := by rw [← HBQ.out]; exact bare_no hk2 (.inr hk8)
    have e8 : decide (k ≤ 8) = false := by simp; omega
    have e2 : (k == 2) = false := by simpa using hk2
    clear hk2
    obtain ⟨c0, c1, c2, c3⟩ := X4.out
    cases ok
    · go_wp2_with fail
      refine (alive_any _).mono ?_
      rintro e w' ⟨rfl, rfl⟩
      go_wp2_with fail
      go_ret
      exact ⟨rfl, B4.out⟩
    · have HB := Lib.hid (back_ok HOK.out HK.out)
      go_wp2_with fail
      refine (HC'.out _).mono ?_
      rintro e w5 ⟨rfl, hb⟩
      have B5 := hide (B4.out.trans (hb.mono B4.out.size))
      clear hb
      go_wp2_with fail
      refine (lineValid_b true k1 v1 m1 n1 HB.out _).mono ?_
      rintro e w6 ⟨rfl, hb⟩
      have B6 := hide (B5.out.trans (hb.mono B5.out.size))
      clear hb
      go_wp2_with fail
      refine (alive_any _).mono ?_
      rintro e w' ⟨rfl, rfl⟩
      go_wp2_with fail
      go_ret
      exact ⟨rfl, B6.out⟩
end Go.Proofs.Ytkakhajellemcaa
