/-
  Fields as the laws handle them: copied, compared, marked; FieldStep and FieldBack at every field.
  No condition.
-/
import Derived.Test.YtmakpjcjccgalaaSField
namespace Go.Proofs.Ytmakpjcjccgalaa
open Go.RowKit Go.Sort base
/-- a field that a call returns, of new memory: nil or not -/
def RF (w : World) (s : Int) (sh : Bool) (bs : List Bool) (e : Ending) (w' : World) : Prop :=
  ∃ A n c, e = .returned (.agg #[.int .i64 s, .slice A n c, .bool sh]) ∧ OwnB w' w.heap.size (.slice A n c) bs ∧ Below w.heap.size w w'
def outS (s : Int) (bs : List Bool) : Int := if fldOk s bs then s else 0
def outN (s : Int) (sh : Bool) (bs : List Bool) : Bool := if fldOk s bs then !sh else false
def stepL (s : Int) (sh : Bool) (bs : List Bool) : List Bool := if fldOk s bs then stepB s.toNat (if sh then 1 else 0) bs else []
def backL (s : Int) (sh : Bool) (bs : List Bool) : List Bool := if fldOk s bs then stepB s.toNat (if sh then 0 else 1) bs else []
theorem fldOk_out {s : Int} {bs : List Bool} (h : fldOk s bs = true) : ∃ t : Nat, s = (t : Int) ∧ (t = 2 ∨ t = 4 ∨ t = 6 ∨ t = 8) ∧ bs.length = t * t ∧ cnt bs ≤ 12 := by
  unfold fldOk at h
  simp only [Bool.and_eq_true, decide_eq_true_eq] at h
  obtain ⟨⟨h1, h2⟩, h3⟩ := h
  rcases side_cases h1 with rfl | rfl | rfl | rfl
  · exact ⟨2, rfl, by omega, by omega, h3⟩
  · exact ⟨4, rfl, by omega, by omega, h3⟩
  · exact ⟨6, rfl, by omega, by omega, h3⟩
  · exact ⟨8, rfl, by omega, by omega, h3⟩
theorem steps_ok_any (s : Int) (A : Option Addr) (n c : Nat) (sh : Bool) (bs : List Bool) (w : World) (hb : BR w A n bs) (hn : n ≤ 1048576) (hs : (Lit.int .i64 s).wf = true) :
    Calls Try.prog 12 #[.agg #[.int .i64 s, .slice A n c, .bool sh]] w (RF w (outS s bs) (outN s sh bs) (stepL s sh bs)) := by
  cases hv : fldOk s bs
  · refine (steps_no s A n c sh bs w hb hn hs hv).mono ?_
    rintro e w' ⟨rfl, hb'⟩
    refine ⟨none, 0, 0, ?_, ?_, hb'⟩
    · unfold outS outN; rw [hv]; rfl
    · unfold stepL; rw [hv]; exact OwnB.nil_ _ _
  · obtain ⟨t, rfl, ht, hl, _⟩ := fldOk_out hv
    have hs2 : sOk t (if sh then 1 else 0) := ⟨ht, by cases sh <;> simp⟩
    refine (steps_ok t _ A n c sh bs w hs2 rfl (by rw [← hb.len, hl]) hb hv).mono ?_
    rintro e w' ⟨g, m, k, rfl, ho, hb'⟩
    refine ⟨some ⟨g, 0, none⟩, m, k, ?_, ?_, hb'⟩
    · unfold outS outN; rw [hv]; rfl
    · unfold stepL; rw [hv]; exact ho
theorem backs_ok_any (s : Int) (A : Option Addr) (n c : Nat) (sh : Bool) (bs : List Bool) (w : World) (hb : BR w A n bs) (hn : n ≤ 1048576) (hs : (Lit.int .i64 s).wf = true) :
    Calls Try.prog 13 #[.agg #[.int .i64 s, .slice A n c, .bool sh]] w (RF w (outS s bs) (outN s sh bs) (backL s sh bs)) := by
  cases hv : fldOk s bs
  · refine (backs_no s A n c sh bs w hb hn hs hv).mono ?_
    rintro e w' ⟨rfl, hb'⟩
    refine ⟨none, 0, 0, ?_, ?_, hb'⟩
    · unfold outS outN; rw [hv]; rfl
    · unfold backL; rw [hv]; exact OwnB.nil_ _ _
  · obtain ⟨t, rfl, ht, hl, _⟩ := fldOk_out hv
    have hs2 : sOk t (if sh then 0 else 1) := ⟨ht, by cases sh <;> simp⟩
    refine (backs_ok t _ A n c sh bs w hs2 rfl (by rw [← hb.len, hl]) hb hv).mono ?_
    rintro e w' ⟨g, m, k, rfl, ho, hb'⟩
    refine ⟨some ⟨g, 0, none⟩, m, k, ?_, ?_, hb'⟩
    · unfold outS outN; rw [hv]; rfl
    · unfold backL; rw [hv]; exact ho
theorem sSteps_ok_any (s : Int) (A : Option Addr) (n c : Nat) (sh : Bool) (bs : List Bool) (w : World) (hb : BR w A n bs) (hn : n ≤ 1048576) (hs : (Lit.int .i64 s).wf = true) :
    Calls Try.prog 26 #[.agg #[.int .i64 s, .slice A n c, .bool sh]] w (RF w (outS s bs) (outN s sh bs) (stepL s sh bs)) := by
  cases hv : fldOk s bs
  · refine (sSteps_no s A n c sh bs w hb hn hs hv).mono ?_
    rintro e w' ⟨rfl, hb'⟩
    refine ⟨none, 0, 0, ?_, ?_, hb'⟩
    · unfold outS outN; rw [hv]; rfl
    · unfold stepL; rw [hv]; exact OwnB.nil_ _ _
  · obtain ⟨t, rfl, ht, hl, _⟩ := fldOk_out hv
    have hs2 : sOk t (if sh then 1 else 0) := ⟨ht, by cases sh <;> simp⟩
    refine (sSteps_ok t _ A n c sh bs w hs2 rfl (by rw [← hb.len, hl]) hb hv).mono ?_
    rintro e w' ⟨g, m, k, rfl, ho, hb'⟩
    refine ⟨some ⟨g, 0, none⟩, m, k, ?_, ?_, hb'⟩
    · unfold outS outN; rw [hv]; rfl
    · unfold stepL; rw [hv]; exact ho
theorem sBacks_ok_any (s : Int) (A : Option Addr) (n c : Nat) (sh : Bool) (bs : List Bool) (w : World) (hb : BR w A n bs) (hn : n ≤ 1048576) (hs : (Lit.int .i64 s).wf = true) :
    Calls Try.prog 16 #[.agg #[.int .i64 s, .slice A n c, .bool sh]] w (RF w (outS s bs) (outN s sh bs) (backL s sh bs)) := by
  cases hv : fldOk s bs
  · refine (sBacks_no s A n c sh bs w hb hn hs hv).mono ?_
    rintro e w' ⟨rfl, hb'⟩
    refine ⟨none, 0, 0, ?_, ?_, hb'⟩
    · unfold outS outN; rw [hv]; rfl
    · unfold backL; rw [hv]; exact OwnB.nil_ _ _
  · obtain ⟨t, rfl, ht, hl, _⟩ := fldOk_out hv
    have hs2 : sOk t (if sh then 0 else 1) := ⟨ht, by cases sh <;> simp⟩
    refine (sBacks_ok t _ A n c sh bs w hs2 rfl (by rw [← hb.len, hl]) hb hv).mono ?_
    rintro e w' ⟨g, m, k, rfl, ho, hb'⟩
    refine ⟨some ⟨g, 0, none⟩, m, k, ?_, ?_, hb'⟩
    · unfold outS outN; rw [hv]; rfl
    · unfold backL; rw [hv]; exact ho
theorem sOk_wf {s : Int} {bs : List Bool} (h : fldOk s bs = true) : (Lit.int .i64 s).wf = true := by
  obtain ⟨t, rfl, ht, _⟩ := fldOk_out h
  rcases ht with rfl | rfl | rfl | rfl <;> rfl
theorem wf_outS {s : Int} {bs : List Bool} : (Lit.int .i64 (outS s bs)).wf = true := by
  unfold outS
  cases h : fldOk s bs
  · rfl
  · exact sOk_wf h
theorem stepL_len (s : Int) (sh : Bool) (bs : List Bool) : (stepL s sh bs).length ≤ 64 ∧ (backL s sh bs).length ≤ 64 := by
  unfold stepL backL
  cases h : fldOk s bs
  · exact ⟨by simp, by simp⟩
  · obtain ⟨t, rfl, ht, _⟩ := fldOk_out h
    simp only [if_true, stepB_len, Int.toNat_natCast]
    rcases ht with rfl | rfl | rfl | rfl <;> omega
theorem resultsTF : Try.f17.results = #[.cell 2 25] := by kernel_rfl
set_option maxHeartbeats 4000000 in
theorem toField_any (s : Int) (A : Option Addr) (n c : Nat) (sh : Bool) (bs : List Bool) (w : World) (hb : BR w A n bs) (hn : n ≤ 1048576) :
    Calls Try.prog 17 #[.agg #[.int .i64 s, .slice A n c, .bool sh]] w (RF w s sh bs) := by
  have HB := hide hb
  clear hb
  go_enter Try.func17, Try.ntmps17
  go_wp2_with fail
  refine calls_named fun W hW => ?_
  have hsz : W.heap.size = w.heap.size + 3 := by rw [← hW]; simp
  have hbW : Below w.heap.size w W := by rw [← hW]; exact (((Below.refl _ w).alloc (Nat.le_refl _) _).alloc (by simp) _).alloc (by simp; omega) _
  have c2 : W.cell? ⟨w.heap.size, 2, none⟩ = some (.bool sh) := by rw [← hW]; exact cell_old (cell_old (cell_at rfl rfl))
  have rb : W.heap[w.heap.size + 1]? = some (.cells #[.int .i64 0, .slice none 0 0, .bool false] 25 (0, 0)) := by
    rw [← hW]
    have := heap_alloc_new (w.alloc (.cells #[.int .i64 s, .slice A n c, .bool sh] 32)) (.cells #[.int .i64 0, .slice none 0 0, .bool false] 25)
    rw [World.size_alloc] at this
    exact block_alloc this _
  have ob : W.heap[w.heap.size + 2]? = some (.cells #[.int .i64 s, .slice none 0 0, .bool false] 25 (0, 0)) := by
    rw [← hW]
    have := heap_alloc_new ((w.alloc (.cells #[.int .i64 s, .slice A n c, .bool sh] 32)).alloc (.cells #[.int .i64 0, .slice none 0 0, .bool false] 25)) (.cells #[.int .i64 s, .slice none 0 0, .bool false] 25)
    rw [World.size_alloc, World.size_alloc] at this
    exact this
  refine (toBoolS_any A n c bs W (HB.out.below hbW) (by omega)).mono ?_
  rintro e w2 ⟨rfl, ho, hb2⟩
  have c3 : w2.cell? ⟨w.heap.size, 2, none⟩ = some (.bool sh) := (hb2.cell (p := ⟨w.heap.size, 2, none⟩) (by rw [hsz]; first | (simp; done) | (simp; omega))).trans c2
  have HRb := Lib.hid ((hb2.block _ (by rw [hsz]; omega)).trans rb)
  have HOb := Lib.hid ((hb2.block _ (by rw [hsz]; omega)).trans ob)
  have HO := hide ho
  have HLow := hide (hbW.trans (hb2.mono hbW.size))
  have hsz2 : w.heap.size + 3 ≤ w2.heap.size := by have := hb2.size; omega
  have HSz := Lib.hid hsz
  have r0 : w2.cell? ⟨w.heap.size + 1, 0, none⟩ = some (.int .i64 0) := by rw [cell_of_row w2 _ 0 _ _ (0, 0) HRb.out]; rfl
  have r1 : w2.cell? ⟨w.heap.size + 1, 1, none⟩ = some (.slice none 0 0) := by rw [cell_of_row w2 _ 1 _ _ (0, 0) HRb.out]; rfl
  have r2 : w2.cell? ⟨w.heap.size + 1, 2, none⟩ = some (.bool false) := by rw [cell_of_row w2 _ 2 _ _ (0, 0) HRb.out]; rfl
  have q0 := frozen_of_row w2 _ 0 _ _ HRb.out
  have q1 := frozen_of_row w2 _ 1 _ _ HRb.out
  have q2 := frozen_of_row w2 _ 2 _ _ HRb.out
  have o0 : w2.cell? ⟨w.heap.size + 2, 0, none⟩ = some (.int .i64 s) := by rw [cell_of_row w2 _ 0 _ _ (0, 0) HOb.out]; rfl
  have o1 : w2.cell? ⟨w.heap.size + 2, 1, none⟩ = some (.slice none 0 0) := by rw [cell_of_row w2 _ 1 _ _ (0, 0) HOb.out]; rfl
  have o2 : w2.cell? ⟨w.heap.size + 2, 2, none⟩ = some (.bool false) := by rw [cell_of_row w2 _ 2 _ _ (0, 0) HOb.out]; rfl
  have p1 := frozen_of_row w2 _ 1 _ _ HOb.out
  have p2 := frozen_of_row w2 _ 2 _ _ HOb.out
  clear ho hb2 rb ob c2 hW hbW hsz
  go_wp2_with fail
  have g1 := set1B_grown w2 (w.heap.size + 1 + 1) 1 (.slice (some ⟨W.heap.size, 0, none⟩) n n)
  have g2 := set1B_grown (w2.setCell ⟨w.heap.size + 1 + 1, 1, none⟩ (.slice (some ⟨W.heap.size, 0, none⟩) n n)) (w.heap.size + 1 + 1) 2 (.bool sh)
  have gg := grown_seq g1 g2
  clear g1 g2
  generalize ((w2.setCell ⟨w.heap.size + 1 + 1, 1, none⟩ (.slice (some ⟨W.heap.size, 0, none⟩) n n)).setCell ⟨w.heap.size + 1 + 1, 2, none⟩ (.bool sh)) = w3 at *
  have hrb3 := (gg.block (w.heap.size + 1) (by omega) (by simp)).trans HRb.out
  have hg3 := box3_grown w3 (w.heap.size + 1) (.int .i64 s) (.slice (some ⟨W.heap.size, 0, none⟩) n n) (.bool sh)
  have hz := HSz.out
  refine bodyPost_ret (results_cell_row resultsTF _ _ (w.heap.size + 1) 25 #[.int .i64 s, .slice (some ⟨W.heap.size, 0, none⟩) n n, .bool sh] (0, 0) _ rfl (box3_set hrb3 _ _ _) Try.underlying25 rfl infoF) rfl ⟨some ⟨W.heap.size, 0, none⟩, n, n, rfl, ?_, ?_⟩
  · have h1 := (HO.out.kept gg (.inr (by simp [Value.ownBlock]; omega))).kept hg3 (.inr (by simp [Value.ownBlock]; omega))
    exact h1.base_le (by omega)
  · have h1 : Below w.heap.size w2 w3 := ⟨gg.os, gg.tape, gg.output, gg.size, fun k hk => gg.block k (by omega) (by simp; omega)⟩
    exact (HLow.out.trans h1).trans ⟨hg3.os, hg3.tape, hg3.output, hg3.size, fun k hk => hg3.block k (by have := gg.size; omega) (by simp; omega)⟩
set_option maxHeartbeats 400000 in
theorem szBoolS_any (A : Option Addr) (n c : Nat) (k : Int) (w : World) (hn : n ≤ 9223372036854775807) (hk : k = 1048576) :
    Calls Try.prog 36 #[.slice A n c, .int .i64 k] w fun e w' => e = .returned (.int .i64 (if n ≤ 1048576 then k - n else -1)) ∧ w = w' := by
  subst hk
  by_cases h : n ≤ 1048576
  · rw [if_pos h]
    go_enter Try.func36, Try.ntmps36
    go_wp2_with fail
    go_ret
    exact ⟨rfl, rfl⟩
  · rw [if_neg h]
    go_enter Try.func36, Try.ntmps36
    go_wp2_with fail
    go_ret
    exact ⟨rfl, rfl⟩
set_option maxHeartbeats 400000 in
theorem szField_any (s : Int) (A : Option Addr) (n c : Nat) (sh : Bool) (w : World) (hn : n ≤ 9223372036854775807) :
    Calls Try.prog 15 #[.agg #[.int .i64 s, .slice A n c, .bool sh], .int .i64 1048576] w fun e w' => e = .returned (.int .i64 (if n ≤ 1048576 then 1048576 - n else -1)) ∧ Below w.heap.size w w' := by
  by_cases h : n ≤ 1048576
  · have HI := Lib.hid (if_pos h : (if n ≤ 1048576 then 1048576 - (n : Int) else -1) = _)
    go_enter Try.func15, Try.ntmps15
    go_wp2_with fail
    refine (szBoolS_any A n c 1048576 _ hn rfl).mono ?_
    rintro e w' ⟨rfl, rfl⟩
    rw [HI.out]
    go_wp2_with fail
    go_ret
    exact ⟨rfl, by go_grown⟩
  · have HI := Lib.hid (if_neg h : (if n ≤ 1048576 then 1048576 - (n : Int) else -1) = _)
    go_enter Try.func15, Try.ntmps15
    go_wp2_with fail
    refine (szBoolS_any A n c 1048576 _ hn rfl).mono ?_
    rintro e w' ⟨rfl, rfl⟩
    rw [HI.out]
    go_wp2_with fail
    go_ret
    exact ⟨rfl, by go_grown⟩
set_option maxHeartbeats 1000000 in
theorem eqField_same (s : Int) (A B : Option Addr) (n c m d : Nat) (sh : Bool) (bs : List Bool) (w : World) (hx : BR w A n bs) (hy : BR w B m bs) :
    Calls Try.prog 18 #[.agg #[.int .i64 s, .slice A n c, .bool sh], .agg #[.int .i64 s, .slice B m d, .bool sh]] w fun e w' => e = .returned (.bool true) ∧ Below w.heap.size w w' := by
  have HX := hide hx
  have HY := hide hy
  clear hx hy
  go_enter Try.func18, Try.ntmps18
  go_wp2_with fail
  refine calls_named fun W hW => ?_
  have hbW : Below w.heap.size w W := by rw [← hW]; exact ((Below.refl _ w).alloc (Nat.le_refl _) _).alloc (by simp) _
  have c2 : W.cell? ⟨w.heap.size, 2, none⟩ = some (.bool sh) := by rw [← hW]; exact cell_old (cell_at rfl rfl)
  have c3 : W.cell? ⟨w.heap.size + 1, 2, none⟩ = some (.bool sh) := by rw [← hW]; exact cell_at rfl (by simp)
  clear hW
  refine (eqBoolS_any A B n c m d bs bs W (HX.out.below hbW) (HY.out.below hbW)).mono ?_
  rintro e w2 ⟨rfl, q, rfl⟩
  rw [beq_self_eq_true]
  have HB := hide (below_drewN hbW q)
  have hne : (sh != sh) = false := by simp
  clear hbW
  go_wp2_with fail
  go_ret
  exact ⟨rfl, HB.out⟩
set_option maxHeartbeats 1000000 in
theorem markBoolS_v (A : Option Addr) (n c : Nat) (zs : List Bool) (k : Int) (base : Nat) (w : World) (h : OwnB w base (.slice A n c) zs) (hn : n ≤ 4194304) (hk : 0 ≤ k ∧ k ≤ 1000000000) :
    Calls Try.prog 40 #[.slice A n c, .int .i64 k] w fun e w' => e = .returned (.int .i64 (k + n)) ∧ OwnB w' base (.slice A n c) (marksB n k) ∧ w.grownBy w' (Value.slice A n c).ownBlock := by
  rcases h.form with ⟨e, e0⟩ | ⟨g, c', e, _⟩
  · simp only [Value.slice.injEq] at e
    obtain ⟨rfl, rfl, rfl⟩ := e
    have HO := hide h
    obtain ⟨hk1, hk2⟩ := hk
    clear h e0
    go_enter Try.func40, Try.ntmps40
    go_wp2_with fail
    go_loop [1, 5] (fun a i => a = .int .i64 k ∧ i = .int .i64 0) (fun _ _ => 0)
    case atStart => exact ⟨rfl, rfl⟩
    case round =>
      obtain ⟨rfl, rfl⟩ := hrel
      go_wp2_with fail
      go_ret
      exact ⟨by simp, OwnB.nil_ _ _, World.grownBy.refl _ _⟩
  · simp only [Value.slice.injEq] at e
    obtain ⟨rfl, rfl, rfl⟩ := e
    exact markBoolS_any g _ _ zs k base w h hn hk
set_option maxHeartbeats 1000000 in
theorem markField_any (s : Int) (A : Option Addr) (n c : Nat) (sh : Bool) (zs : List Bool) (base : Nat) (w : World) (h : OwnB w base (.slice A n c) zs) (hn : n ≤ 1048576) :
    Calls Try.prog 19 #[.agg #[.int .i64 s, .slice A n c, .bool sh], .int .i64 1] w fun e w' => e = .returned (.int .i64 (1 + n)) ∧ OwnB w' base (.slice A n c) (marksB n 1) ∧ w.grownBy w' (Value.slice A n c).ownBlock := by
  have HO := hide (h.alloc (.cells #[.int .i64 s, .slice A n c, .bool sh] 25))
  clear h
  go_enter Try.func19, Try.ntmps19
  go_wp2_with fail
  refine (markBoolS_v A n c zs 1 base _ HO.out (by omega) (by omega)).mono ?_
  rintro e w2 ⟨rfl, ho, hg⟩
  have HO2 := hide ho
  have HG := hide (grown_seq (World.grownBy_alloc w (.cells #[.int .i64 s, .slice A n c, .bool sh] 25) (Value.slice A n c).ownBlock) hg)
  clear ho hg
  go_wp2_with fail
  go_ret
  exact ⟨rfl, HO2.out, HG.out⟩
set_option maxHeartbeats 1000000 in
theorem heldField_any (s : Int) (A : Option Addr) (n c : Nat) (sh : Bool) (w : World) (h : BR w A n (marksB n 1)) (hn : n ≤ 1048576) :
    Calls Try.prog 20 #[.agg #[.int .i64 s, .slice A n c, .bool sh], .int .i64 1] w fun e w' => e = .returned (.int .i64 (1 + n)) ∧ Below w.heap.size w w' := by
  have HB := hide (h.below ((Below.refl _ w).alloc (Nat.le_refl _) (.cells #[.int .i64 s, .slice A n c, .bool sh] 25)))
  clear h
  go_enter Try.func20, Try.ntmps20
  go_wp2_with fail
  refine (heldBoolS_any A n c 1 _ HB.out (by omega) (by omega)).mono ?_
  rintro e w2 ⟨rfl, rfl⟩
  go_wp2_with fail
  go_ret
  exact ⟨rfl, by go_grown⟩
end Go.Proofs.Ytmakpjcjccgalaa
