/-
  Fields compared: SameField, sameBalls; what a step and a step back make of each other.
  No condition.
-/
import Derived.Test.YtmakpjcjccgalaaFieldBox
import Derived.Test.YtmakpjcjccgalaaTurn
namespace Go.Proofs.Ytmakpjcjccgalaa
open Go.RowKit Go.Sort base
/-! ### plain -/
theorem fldOk_mk {t : Nat} {bs : List Bool} (ht : t = 2 ∨ t = 4 ∨ t = 6 ∨ t = 8) (hl : bs.length = t * t) (hc : cnt bs ≤ 12) : fldOk (t : Int) bs = true := by
  unfold fldOk sideOk
  have h1 : (bs.length : Int) = (t : Int) * t := by rw [hl]; simp
  rcases ht with rfl | rfl | rfl | rfl <;> simp [h1, hc]
theorem hOk {t : Nat} (ht : t = 2 ∨ t = 4 ∨ t = 6 ∨ t = 8) (b : Bool) : sOk t (if b then 1 else 0) ∧ sOk t (if b then 0 else 1) := by cases b <;> exact ⟨⟨ht, by simp⟩, ht, by simp⟩
theorem laws_ok {s : Int} {sh : Bool} {bs : List Bool} (h : fldOk s bs = true) :
    (outS s bs = s ∧ outN s sh bs = !sh ∧ outK s sh bs = sh) ∧
    (fldOk s (stepL s sh bs) = true ∧ cnt (stepL s sh bs) = cnt bs) ∧ (fldOk s (backL s sh bs) = true ∧ cnt (backL s sh bs) = cnt bs) ∧ (fldOk s (turnL s bs) = true ∧ cnt (turnL s bs) = cnt bs) ∧
    stepL s (!sh) (backL s sh bs) = bs ∧ backL s (!sh) (stepL s sh bs) = bs ∧ stepL s (!sh) bs = backL s sh bs ∧ stepL s sh (turnL s bs) = turnL s (stepL s sh bs) := by
  obtain ⟨t, rfl, ht, hl, hc⟩ := fldOk_out h
  have e1 : stepL (t : Int) sh bs = stepB t (if sh then 1 else 0) bs := by unfold stepL; rw [h]; rfl
  have e2 : backL (t : Int) sh bs = stepB t (if sh then 0 else 1) bs := by unfold backL; rw [h]; rfl
  have e3 : turnL (t : Int) bs = turnB t bs := by unfold turnL; rw [h]; rfl
  have c1 := step_cnt (hOk ht sh).1 hl
  have c2 := step_cnt (hOk ht sh).2 hl
  have c3 := turn_cnt (s := t) ⟨ht, .inl rfl⟩ hl
  have f1 : fldOk (t : Int) (stepL (t : Int) sh bs) = true := by rw [e1]; exact fldOk_mk ht (stepB_len _ _ _) (by omega)
  have f2 : fldOk (t : Int) (backL (t : Int) sh bs) = true := by rw [e2]; exact fldOk_mk ht (stepB_len _ _ _) (by omega)
  have f3 : fldOk (t : Int) (turnL (t : Int) bs) = true := by rw [e3]; exact fldOk_mk ht (turnB_len _ _) (by omega)
  refine ⟨⟨?_, ?_, ?_⟩, ⟨f1, by rw [e1]; exact c1⟩, ⟨f2, by rw [e2]; exact c2⟩, ⟨f3, by rw [e3]; exact c3⟩, ?_, ?_, ?_, ?_⟩
  · unfold outS; rw [h]; rfl
  · unfold outN; rw [h]; rfl
  · unfold outK; rw [h]; rfl
  · rw [stepL, f2, e2]
    have e : (if (!sh) = true then 1 else 0) = (if sh = true then 0 else 1) := by cases sh <;> rfl
    simp only [if_true, Int.toNat_natCast, e]
    exact step_back (hOk ht sh).2 hl
  · rw [backL, f1, e1]
    have e : (if (!sh) = true then 0 else 1) = (if sh = true then 1 else 0) := by cases sh <;> rfl
    simp only [if_true, Int.toNat_natCast, e]
    exact step_back (hOk ht sh).1 hl
  · rw [stepL, h, e2]
    have e : (if (!sh) = true then 1 else 0) = (if sh = true then 0 else 1) := by cases sh <;> rfl
    simp only [if_true, Int.toNat_natCast, e]
  · have g1 : ∀ b x, fldOk (t : Int) x = true → stepL (t : Int) b x = stepB t (if b then 1 else 0) x := fun b x hx => by unfold stepL; rw [hx]; rfl
    have g3 : ∀ x, fldOk (t : Int) x = true → turnL (t : Int) x = turnB t x := fun x hx => by unfold turnL; rw [hx]; rfl
    rw [g1 _ _ f3, g3 _ f1, e3, e1]
    exact step_turn (hOk ht sh).1
theorem laws_no {s : Int} {sh : Bool} {bs : List Bool} (h : fldOk s bs = false) : outS s bs = 0 ∧ outN s sh bs = false ∧ stepL s sh bs = [] ∧ backL s sh bs = [] := by
  unfold outS outN stepL backL; rw [h]; exact ⟨rfl, rfl, rfl, rfl⟩
theorem turnL_len (s : Int) (bs : List Bool) : (turnL s bs).length ≤ 64 := by
  unfold turnL
  cases h : fldOk s bs
  · simp
  · obtain ⟨t, rfl, ht, _⟩ := fldOk_out h
    simp only [if_true, turnB_len, Int.toNat_natCast]
    rcases ht with rfl | rfl | rfl | rfl <;> omega
/-! ### walks -/
set_option maxHeartbeats 1000000 in
theorem sameBalls_same (s : Int) (A B : Option Addr) (n c m d : Nat) (sh sh' : Bool) (bs : List Bool) (w : World) (hx : BR w A n bs) (hy : BR w B m bs) :
    Calls Try.prog 22 #[.agg #[.int .i64 s, .slice A n c, .bool sh], .agg #[.int .i64 s, .slice B m d, .bool sh']] w fun e w' => e = .returned (.bool true) ∧ Below w.heap.size w w' := by
  have HX := hide hx
  have HY := hide hy
  have he : (s == s) = true := by simp
  clear hx hy
  go_enter Try.func22, Try.ntmps22
  go_wp2_with fail
  refine calls_named fun W hW => ?_
  have hbW : Below w.heap.size w W := by rw [← hW]; exact ((Below.refl _ w).alloc (Nat.le_refl _) _).alloc (by simp) _
  clear hW
  refine (sameBools_any A B n c m d bs bs W (HX.out.below hbW) (HY.out.below hbW)).mono ?_
  rintro e w2 ⟨rfl, q, rfl⟩
  rw [beq_self_eq_true]
  have HB := hide (below_drewN hbW q)
  clear hbW
  go_wp2_with fail
  go_ret
  exact ⟨rfl, HB.out⟩
set_option maxHeartbeats 1000000 in
theorem same_same (s : Int) (A B : Option Addr) (n c m d : Nat) (sh : Bool) (bs : List Bool) (w : World) (hx : BR w A n bs) (hy : BR w B m bs) :
    Calls Try.prog 44 #[.agg #[.int .i64 s, .slice A n c, .bool sh], .agg #[.int .i64 s, .slice B m d, .bool sh]] w fun e w' => e = .returned (.bool true) ∧ Below w.heap.size w w' := by
  have HX := hide hx
  have HY := hide hy
  have he : (s == s) = true := by simp
  have he2 : (sh == sh) = true := by simp
  clear hx hy
  go_enter Try.func44, Try.ntmps44
  go_wp2_with fail
  refine calls_named fun W hW => ?_
  have hbW : Below w.heap.size w W := by rw [← hW]; exact ((Below.refl _ w).alloc (Nat.le_refl _) _).alloc (by simp) _
  clear hW
  refine (equalB_any A B n c m d bs bs W (HX.out.below hbW) (HY.out.below hbW)).mono ?_
  rintro e w2 ⟨rfl, q, rfl⟩
  rw [beq_self_eq_true]
  have HB := hide (below_drewN hbW q)
  clear hbW
  go_wp2_with fail
  go_ret
  exact ⟨rfl, HB.out⟩
set_option maxHeartbeats 1000000 in
theorem sameField_same (s : Int) (A B : Option Addr) (n c m d : Nat) (sh : Bool) (bs : List Bool) (w : World) (hx : BR w A n bs) (hy : BR w B m bs) (hn : n ≤ 1048576) (hm : m ≤ 1048576) (hs : (Lit.int .i64 s).wf = true) (hv : fldOk s bs = true) :
    Calls Try.prog 24 #[.agg #[.int .i64 s, .slice A n c, .bool sh], .agg #[.int .i64 s, .slice B m d, .bool sh]] w fun e w' => e = .returned (.bool true) ∧ Below w.heap.size w w' := by
  have HX := hide hx
  have HY := hide hy
  have HV := Lib.hid hv
  have HS := Lib.hid hs
  clear hx hy hv hs
  go_enter Try.func24, Try.ntmps24
  go_wp2_with fail
  refine calls_named fun W hW => ?_
  have hbW : Below w.heap.size w W := by rw [← hW]; exact ((Below.refl _ w).alloc (Nat.le_refl _) _).alloc (by simp) _
  have X1 := hide (show BoxF W 25 w.heap.size (.int .i64 s) (.slice A n c) (.bool sh) by rw [← hW]; exact block_alloc (heap_alloc_new w _) _)
  have Y1 := hide (show BoxF W 25 (w.heap.size + 1) (.int .i64 s) (.slice B m d) (.bool sh) by
    rw [← hW]
    have := heap_alloc_new (w.alloc (.cells #[.int .i64 s, .slice A n c, .bool sh] 25)) (.cells #[.int .i64 s, .slice B m d, .bool sh] 25)
    rw [World.size_alloc] at this
    exact this)
  have B1 := hide hbW
  clear hW hbW
  refine (fieldValid_any s A n c sh bs W (HX.out.below B1.out) hn HS.out).mono ?_
  rintro e w2 ⟨rfl, hb⟩
  rw [HV.out]
  have B2 := hide (bseq B1.out hb)
  have X2 := hide (X1.out.below hb)
  have Y2 := hide (Y1.out.below hb)
  obtain ⟨x0, x1, x2⟩ := X2.out.cells
  obtain ⟨y0, y1, y2⟩ := Y2.out.cells
  clear hb B1 X1 Y1
  go_wp2_with fail
  refine (fieldValid_any s B m d sh bs w2 (HY.out.below B2.out) hm HS.out).mono ?_
  rintro e w3 ⟨rfl, hb⟩
  rw [HV.out]
  have B3 := hide (bseq B2.out hb)
  have X3 := hide (X2.out.below hb)
  have Y3 := hide (Y2.out.below hb)
  clear x0 x1 x2 y0 y1 y2 hb X2 Y2 B2
  obtain ⟨x0, x1, x2⟩ := X3.out.cells
  obtain ⟨y0, y1, y2⟩ := Y3.out.cells
  go_wp2_with fail
  refine (same_same s A B n c m d sh bs w3 (HX.out.below B3.out) (HY.out.below B3.out)).mono ?_
  rintro e w4 ⟨rfl, hb⟩
  have B4 := hide (bseq B3.out hb)
  clear hb x0 x1 x2 y0 y1 y2
  go_wp2_with fail
  go_ret
  exact ⟨rfl, B4.out⟩
end Go.Proofs.Ytmakpjcjccgalaa
