/-
  The draws of a program: some statements, in a row of their own.
  No condition.
-/
import Derived.Test.YtacdagdhkmcbiaaDrawPart
namespace Go.Proofs.Ytacdagdhkmcbiaa
open Go.RowKit Go.Sort base
theorem PD.base {w W w' : World} {R P Q m : Nat} {v : Value} (h : RG w R P W) (k : PD W R Q m v w') : PD w R Q m v w' := by
  obtain ⟨gs, hl, ho⟩ := k.own
  exact ⟨h.pick k.r.rd k.r.gr, gs, hl, ho.base_le h.gr.size⟩
theorem PD.slice {w wx : World} {R P m : Nat} {v : Value} (h : PD w R P m v wx) : ∃ A n c, v = .slice A n c ∧ n ≤ m := by
  obtain ⟨gs, hl, ho⟩ := h.own
  obtain ⟨A, c, hv, _⟩ := ho.gr
  exact ⟨A, gs.length, c, hv, hl⟩
theorem zeros17 : (madeCells (Value.agg #[.int .i64 0, .int .i64 0, .int .i64 0, .int .i64 0]).cells (17 * 4)).toList = gcells (List.replicate 17 (0, 0, 0, 0)) := by kernel_rfl
theorem part2' (R p : Nat) (w : World) (h : RdB w R p) (hp : p ≤ 50000) : Calls Try.prog 27 #[.pointer (some ⟨R, 0, none⟩), .int .i64 2] w (DrawnP w R (p + 157) 72) := part2_b (part1_b part0_b) R p w h (by omega)
theorem part1' (R p : Nat) (w : World) (h : RdB w R p) (hp : p ≤ 50000) : Calls Try.prog 27 #[.pointer (some ⟨R, 0, none⟩), .int .i64 1] w (DrawnP w R (p + 37) 16) := part1_b part0_b R p w h (by omega)
set_option maxHeartbeats 8000000 in
theorem l20Program_b (R p : Nat) (w : World) (h : RdB w R p) (hp : p ≤ 40000) :
    Calls Try.prog 17 #[.pointer (some ⟨R, 0, none⟩), .int .i64 2] w (DrawnP w R (p + 310) 73) := by
  obtain ⟨i0, hi, hz0, hz1, hz2⟩ := info_parts gate_info'
  have H := hide h
  clear h
  go_enter Try.func17, Try.ntmps17
  go_wp2_with fail
  refine (part2' R p w H.out (by omega)).mono ?_
  rintro e w1 ⟨v, rfl, hP⟩
  obtain ⟨A1, n1, c1, rfl, hn1⟩ := hP.slice
  have S1 := hide hP
  clear hP
  go_wp2_with fail
  go_loopw [5, 6] (fun ov kv wr => ∃ (A : Option Addr) (n c k : Nat), ov = .slice A n c ∧ kv = .int .i64 (k : Nat) ∧ k ≤ 4 ∧ n ≤ 72 ∧ Hid (PD w R (p + 157 + 37 * k) 72 (.slice A n c) wr)) (fun _ kv _ => 4 - (intOf kv).toNat)
  case atStart => exact ⟨_, _, _, 0, rfl, by go_num, by omega, hn1, S1⟩
  case round =>
    clear S1
    obtain ⟨A, n, c, k, rfl, rfl, hk, hn, HS⟩ := hrel
    by_cases hgo : k < 4 ∧ 16 < n
    · obtain ⟨hk4, hn16⟩ := hgo
      have hk4' : ((k : Nat) : Int) < 4 := by omega
      have hn16' : (16 : Int) < (n : Int) := by omega
      go_wp2_with fail
      refine (part1' R _ _ HS.out.r.rd (by omega)).mono ?_
      rintro e w2 ⟨v2, rfl, hP⟩
      obtain ⟨A2, n2, c2, rfl, hn2⟩ := hP.slice
      have S2 := hide (PD.base HS.out.r hP)
      clear hP
      go_wp2_with fail
      go_roundw
      case rel => exact ⟨A2, n2, c2, k + 1, rfl, by go_num, by omega, by omega, hide (S2.out.mono (by omega) (by omega))⟩
      case measure => simp [intOf]; omega
    · have hfin : ∀ b : Bool, b = (decide ((k : Int) < 4) && decide ((16 : Int) < (n : Int))) → b = false := by
        rintro b rfl
        rw [Bool.and_eq_false_iff, decide_eq_false_iff_not, decide_eq_false_iff_not]
        omega
      by_cases hk4 : k < 4
      · have hk4' : ((k : Nat) : Int) < 4 := by omega
        have hn16' : ¬ (16 : Int) < (n : Int) := by omega
        clear hfin hgo
        go_wp2_with fail
        refine (odd_b R _ 2 _ HS.out.r.rd (by omega) ⟨by omega, by omega⟩).mono ?_
        rintro e w2 ⟨bo, rfl, hr, hg⟩
        have S2 := hide (HS.out.pick hr hg)
        clear hr hg HS
        cases bo
        · go_wp2_with fail
          go_ret
          exact ⟨_, rfl, S2.out.mono (by omega) (by omega)⟩
        · go_wp2_with fail
          refine (pick_b R _ 4 _ S2.out.r.rd (by omega) (by omega)).mono ?_
          rintro e w3 ⟨r, rfl, a3, b3, _, hr, hg⟩
          have c3 := b3 (by omega)
          have S3 := hide (S2.out.pick hr hg)
          clear hr hg b3 S2
          rcases (show r = 0 ∨ r = 1 ∨ r = 2 ∨ r = 3 by omega) with rfl | rfl | rfl | rfl
          · clear a3 c3
            obtain ⟨gs4, hl4, ho4⟩ := S3.out.own
            have HO4 := hide (ho4.alloc (.cells #[.int .i64 5, .int .i64 0, .int .i64 0, .int .i64 0] 32))
            have HF4 := hide (one_line w3 5 0 0 0)
            have hz4 : w.heap.size ≤ w3.heap.size := S3.out.r.gr.size
            clear ho4
            go_wp2_with (at_builtin; refine wpList_append_gates HO4.out HF4.out (.tmp 28) (.tmp 30) rfl rfl rfl rfl (by simp; omega) (by simp; omega) ?_; intro v6 w6 ho6 hg6; have S6 := hide (PD.app (k := 1) (ns := [(5, 0, 0, 0)]) (j := 73) (S3.out.r.alloc (.cells #[.int .i64 5, .int .i64 0, .int .i64 0, .int .i64 0] 32)) hl4 HO4.out (Nat.le_refl 1) ho6 hg6 (by omega)); clear ho6 hg6)
            go_ret
            exact ⟨_, rfl, S6.out.mono (by omega) (by omega)⟩
          · clear a3 c3
            obtain ⟨gs4, hl4, ho4⟩ := S3.out.own
            have HO4 := hide (ho4.alloc (.cells #[.int .i64 6, .int .i64 0, .int .i64 0, .int .i64 0] 32))
            have HF4 := hide (one_line w3 6 0 0 0)
            have hz4 : w.heap.size ≤ w3.heap.size := S3.out.r.gr.size
            clear ho4
            go_wp2_with (at_builtin; refine wpList_append_gates HO4.out HF4.out (.tmp 34) (.tmp 36) rfl rfl rfl rfl (by simp; omega) (by simp; omega) ?_; intro v6 w6 ho6 hg6; have S6 := hide (PD.app (k := 1) (ns := [(6, 0, 0, 0)]) (j := 73) (S3.out.r.alloc (.cells #[.int .i64 6, .int .i64 0, .int .i64 0, .int .i64 0] 32)) hl4 HO4.out (Nat.le_refl 1) ho6 hg6 (by omega)); clear ho6 hg6)
            go_ret
            exact ⟨_, rfl, S6.out.mono (by omega) (by omega)⟩
          · clear a3 c3
            obtain ⟨gs4, hl4, ho4⟩ := S3.out.own
            have HO4 := hide (ho4.alloc (.cells #[.int .i64 0, .int .i64 1, .int .i64 1, .int .i64 0] 32))
            have HF4 := hide (one_line w3 0 1 1 0)
            have hz4 : w.heap.size ≤ w3.heap.size := S3.out.r.gr.size
            clear ho4
            go_wp2_with (at_builtin; refine wpList_append_gates HO4.out HF4.out (.tmp 40) (.tmp 42) rfl rfl rfl rfl (by simp; omega) (by simp; omega) ?_; intro v6 w6 ho6 hg6; have S6 := hide (PD.app (k := 1) (ns := [(0, 1, 1, 0)]) (j := 73) (S3.out.r.alloc (.cells #[.int .i64 0, .int .i64 1, .int .i64 1, .int .i64 0] 32)) hl4 HO4.out (Nat.le_refl 1) ho6 hg6 (by omega)); clear ho6 hg6)
            go_ret
            exact ⟨_, rfl, S6.out.mono (by omega) (by omega)⟩
          · clear a3 c3
            have hz4 : w.heap.size ≤ w3.heap.size := S3.out.r.gr.size
            go_wp2_with (at_make; refine wpList_make_full _ rfl _ _ 25 rfl w.heap.size 32 i0 _ 4 Try.underlying25 hi hz0 hz1 _ _ _ _ 17 rfl rfl rfl rfl (by rw [hz2]; omega) (by unfold maxLen; omega) hz4 ?_; intro w6 hown hgrow; have S6 : Hid (PD w R (p + 310) 73 (.slice (some ⟨w3.heap.size, 0, none⟩) 17 17) w6) := ⟨(S3.out.r.step hgrow (fun x hx => by cases hx)).mono (by omega), List.replicate 17 (0, 0, 0, 0), by simp, by rw [zeros17] at hown; exact hown⟩; clear hown hgrow)
            go_ret
            exact ⟨_, rfl, S6.out⟩
      · have hk4' : ¬ ((k : Nat) : Int) < 4 := by omega
        clear hfin hgo
        go_wp2_with fail
        refine (odd_b R _ 2 _ HS.out.r.rd (by omega) ⟨by omega, by omega⟩).mono ?_
        rintro e w2 ⟨bo, rfl, hr, hg⟩
        have S2 := hide (HS.out.pick hr hg)
        clear hr hg HS
        cases bo
        · go_wp2_with fail
          go_ret
          exact ⟨_, rfl, S2.out.mono (by omega) (by omega)⟩
        · go_wp2_with fail
          refine (pick_b R _ 4 _ S2.out.r.rd (by omega) (by omega)).mono ?_
          rintro e w3 ⟨r, rfl, a3, b3, _, hr, hg⟩
          have c3 := b3 (by omega)
          have S3 := hide (S2.out.pick hr hg)
          clear hr hg b3 S2
          rcases (show r = 0 ∨ r = 1 ∨ r = 2 ∨ r = 3 by omega) with rfl | rfl | rfl | rfl
          · clear a3 c3
            obtain ⟨gs4, hl4, ho4⟩ := S3.out.own
            have HO4 := hide (ho4.alloc (.cells #[.int .i64 5, .int .i64 0, .int .i64 0, .int .i64 0] 32))
            have HF4 := hide (one_line w3 5 0 0 0)
            have hz4 : w.heap.size ≤ w3.heap.size := S3.out.r.gr.size
            clear ho4
            go_wp2_with (at_builtin; refine wpList_append_gates HO4.out HF4.out (.tmp 28) (.tmp 30) rfl rfl rfl rfl (by simp; omega) (by simp; omega) ?_; intro v6 w6 ho6 hg6; have S6 := hide (PD.app (k := 1) (ns := [(5, 0, 0, 0)]) (j := 73) (S3.out.r.alloc (.cells #[.int .i64 5, .int .i64 0, .int .i64 0, .int .i64 0] 32)) hl4 HO4.out (Nat.le_refl 1) ho6 hg6 (by omega)); clear ho6 hg6)
            go_ret
            exact ⟨_, rfl, S6.out.mono (by omega) (by omega)⟩
          · clear a3 c3
            obtain ⟨gs4, hl4, ho4⟩ := S3.out.own
            have HO4 := hide (ho4.alloc (.cells #[.int .i64 6, .int .i64 0, .int .i64 0, .int .i64 0] 32))
            have HF4 := hide (one_line w3 6 0 0 0)
            have hz4 : w.heap.size ≤ w3.heap.size := S3.out.r.gr.size
            clear ho4
            go_wp2_with (at_builtin; refine wpList_append_gates HO4.out HF4.out (.tmp 34) (.tmp 36) rfl rfl rfl rfl (by simp; omega) (by simp; omega) ?_; intro v6 w6 ho6 hg6; have S6 := hide (PD.app (k := 1) (ns := [(6, 0, 0, 0)]) (j := 73) (S3.out.r.alloc (.cells #[.int .i64 6, .int .i64 0, .int .i64 0, .int .i64 0] 32)) hl4 HO4.out (Nat.le_refl 1) ho6 hg6 (by omega)); clear ho6 hg6)
            go_ret
            exact ⟨_, rfl, S6.out.mono (by omega) (by omega)⟩
          · clear a3 c3
            obtain ⟨gs4, hl4, ho4⟩ := S3.out.own
            have HO4 := hide (ho4.alloc (.cells #[.int .i64 0, .int .i64 1, .int .i64 1, .int .i64 0] 32))
            have HF4 := hide (one_line w3 0 1 1 0)
            have hz4 : w.heap.size ≤ w3.heap.size := S3.out.r.gr.size
            clear ho4
            go_wp2_with (at_builtin; refine wpList_append_gates HO4.out HF4.out (.tmp 40) (.tmp 42) rfl rfl rfl rfl (by simp; omega) (by simp; omega) ?_; intro v6 w6 ho6 hg6; have S6 := hide (PD.app (k := 1) (ns := [(0, 1, 1, 0)]) (j := 73) (S3.out.r.alloc (.cells #[.int .i64 0, .int .i64 1, .int .i64 1, .int .i64 0] 32)) hl4 HO4.out (Nat.le_refl 1) ho6 hg6 (by omega)); clear ho6 hg6)
            go_ret
            exact ⟨_, rfl, S6.out.mono (by omega) (by omega)⟩
          · clear a3 c3
            have hz4 : w.heap.size ≤ w3.heap.size := S3.out.r.gr.size
            go_wp2_with (at_make; refine wpList_make_full _ rfl _ _ 25 rfl w.heap.size 32 i0 _ 4 Try.underlying25 hi hz0 hz1 _ _ _ _ 17 rfl rfl rfl rfl (by rw [hz2]; omega) (by unfold maxLen; omega) hz4 ?_; intro w6 hown hgrow; have S6 : Hid (PD w R (p + 310) 73 (.slice (some ⟨w3.heap.size, 0, none⟩) 17 17) w6) := ⟨(S3.out.r.step hgrow (fun x hx => by cases hx)).mono (by omega), List.replicate 17 (0, 0, 0, 0), by simp, by rw [zeros17] at hown; exact hown⟩; clear hown hgrow)
            go_ret
            exact ⟨_, rfl, S6.out⟩
end Go.Proofs.Ytacdagdhkmcbiaa
