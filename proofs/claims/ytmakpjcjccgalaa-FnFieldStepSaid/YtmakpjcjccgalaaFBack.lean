/-
  impl.Field.back, FieldStep and FieldBack of the program.
  No condition.
-/
import Derived.Test.YtmakpjcjccgalaaFStep
namespace Go.Proofs.Ytmakpjcjccgalaa
open Go.RowKit Go.Sort base
theorem resultsBk : Try.f33.results = #[.cell 2 25] := by kernel_rfl
set_option maxHeartbeats 4000000 in
theorem back_any (s h : Nat) (A : Option Addr) (n c : Nat) (sh : Bool) (bs : List Bool) (w : World) (hs : sOk s h) (hh : h = if sh then 0 else 1) (hn : n = s * s) (hb : BR w A n bs) :
    Calls Try.prog 33 #[.agg #[.int .i64 s, .slice A n c, .bool sh]] w (RField w s (!sh) (stepB s h bs)) := by
  have HS := hide hs
  have HN := Lib.hid hn
  have HB := hide hb
  clear hb hs hn
  cases sh
  · obtain rfl : h = 1 := hh
    go_enter Try.func33, Try.ntmps33
    go_wp2_with fail
    refine calls_named fun W hW => ?_
    have hsz : W.heap.size = w.heap.size + 2 := by rw [← hW]; simp
    have hbW : Below w.heap.size w W := by rw [← hW]; exact (((Below.refl _ w).alloc (Nat.le_refl _) _).alloc (by simp) _)
    have HB1 := hide (HB.out.below hbW)
    have c2 : W.cell? ⟨w.heap.size, 2, none⟩ = some (.bool true) := by
      rw [← hW]; exact cell_old (cell_at rfl rfl)
    have rb : W.heap[w.heap.size + 1]? = some (.cells #[.int .i64 0, .slice none 0 0, .bool false] 25 (0, 0)) := by
      rw [← hW]
      have := heap_alloc_new (w.alloc (.cells #[.int .i64 s, .slice A n c, .bool true] 25)) (.cells #[.int .i64 0, .slice none 0 0, .bool false] 25)
      rw [World.size_alloc] at this
      exact this
    have HRb := Lib.hid rb
    have HSz := Lib.hid hsz
    clear hsz rb
    refine (step_any s 1 A n c true bs W HS.out rfl HN.out HB1.out).mono ?_
    rintro e w2 ⟨g, m, k, rfl, ho, hb2⟩
    have c3 : w2.cell? ⟨w.heap.size, 2, none⟩ = some (.bool true) := (hb2.cell (p := ⟨w.heap.size, 2, none⟩) (by rw [HSz.out]; simp)).trans c2
    have HRb2 := Lib.hid (show w2.heap[w.heap.size + 1]? = _ from (hb2.block _ (by rw [HSz.out]; omega)).trans HRb.out)
    have HO := hide ho
    have HLow := hide (hbW.trans (hb2.mono hbW.size))
    have hsz2 : w.heap.size + 2 ≤ w2.heap.size := by have := hb2.size; rw [HSz.out] at this; exact this
    clear ho hb2 c2 hW hbW
    have r0 : w2.cell? ⟨w.heap.size + 1, 0, none⟩ = some (.int .i64 0) := by rw [cell_of_row w2 _ 0 _ _ (0, 0) HRb2.out]; rfl
    have r1 : w2.cell? ⟨w.heap.size + 1, 1, none⟩ = some (.slice none 0 0) := by rw [cell_of_row w2 _ 1 _ _ (0, 0) HRb2.out]; rfl
    have r2 : w2.cell? ⟨w.heap.size + 1, 2, none⟩ = some (.bool false) := by rw [cell_of_row w2 _ 2 _ _ (0, 0) HRb2.out]; rfl
    have q0 := frozen_of_row w2 _ 0 _ _ HRb2.out
    have q1 := frozen_of_row w2 _ 1 _ _ HRb2.out
    have q2 := frozen_of_row w2 _ 2 _ _ HRb2.out
    have hs3 : w.heap.size < w2.heap.size := by omega
    have hs4 : w.heap.size + 1 < w2.heap.size := by omega
    go_wp2_with fail
    have hg := box3_grown w2 (w.heap.size + 1) (.int .i64 s) (.slice (some ⟨g, 0, none⟩) m k) (.bool true)
    have hb := (box3_set HRb2.out (.int .i64 s) (.slice (some ⟨g, 0, none⟩) m k) (.bool true))
    have hbz := hg.size
    generalize (((w2.setCell ⟨w.heap.size + 1, 0, none⟩ (.int .i64 s)).setCell ⟨w.heap.size + 1, 1, none⟩ (.slice (some ⟨g, 0, none⟩) m k)).setCell ⟨w.heap.size + 1, 2, none⟩ (.bool true)) = w3 at *
    have h4 := (Below.refl w3.heap.size w3).alloc (Nat.le_refl _) (.cells #[.int .i64 s, .slice (some ⟨g, 0, none⟩) m k, .bool true] 25)
    refine bodyPost_ret (results_cell_row resultsBk _ _ (w.heap.size + 1) 25 #[.int .i64 s, .slice (some ⟨g, 0, none⟩) m k, .bool true] (0, 0) _ rfl ((h4.block _ (by omega)).trans hb) Try.underlying25 rfl infoF) rfl ⟨g, m, k, rfl, ?_, ?_⟩
    · have h5 := HSz.out
      refine (((HO.out.kept hg (.inr fun e => ?_)).below h4).base_le (by omega))
      have := (HO.out.lt g rfl).1
      simp [Value.ownBlock] at e
      omega
    · exact (HLow.out.trans ⟨hg.os, hg.tape, hg.output, hg.size, fun i hk => hg.block i (by omega) (by simp; omega)⟩).trans (h4.mono (by omega))
  · obtain rfl : h = 0 := hh
    go_enter Try.func33, Try.ntmps33
    go_wp2_with fail
    refine calls_named fun W hW => ?_
    have hsz : W.heap.size = w.heap.size + 2 := by rw [← hW]; simp
    have hbW : Below w.heap.size w W := by rw [← hW]; exact (((Below.refl _ w).alloc (Nat.le_refl _) _).alloc (by simp) _)
    have HB1 := hide (HB.out.below hbW)
    have c2 : W.cell? ⟨w.heap.size, 2, none⟩ = some (.bool false) := by
      rw [← hW]; exact cell_old (cell_at rfl rfl)
    have rb : W.heap[w.heap.size + 1]? = some (.cells #[.int .i64 0, .slice none 0 0, .bool false] 25 (0, 0)) := by
      rw [← hW]
      have := heap_alloc_new (w.alloc (.cells #[.int .i64 s, .slice A n c, .bool false] 25)) (.cells #[.int .i64 0, .slice none 0 0, .bool false] 25)
      rw [World.size_alloc] at this
      exact this
    have HRb := Lib.hid rb
    have HSz := Lib.hid hsz
    clear hsz rb
    refine (step_any s 0 A n c false bs W HS.out rfl HN.out HB1.out).mono ?_
    rintro e w2 ⟨g, m, k, rfl, ho, hb2⟩
    have c3 : w2.cell? ⟨w.heap.size, 2, none⟩ = some (.bool false) := (hb2.cell (p := ⟨w.heap.size, 2, none⟩) (by rw [HSz.out]; simp)).trans c2
    have HRb2 := Lib.hid (show w2.heap[w.heap.size + 1]? = _ from (hb2.block _ (by rw [HSz.out]; omega)).trans HRb.out)
    have HO := hide ho
    have HLow := hide (hbW.trans (hb2.mono hbW.size))
    have hsz2 : w.heap.size + 2 ≤ w2.heap.size := by have := hb2.size; rw [HSz.out] at this; exact this
    clear ho hb2 c2 hW hbW
    have r0 : w2.cell? ⟨w.heap.size + 1, 0, none⟩ = some (.int .i64 0) := by rw [cell_of_row w2 _ 0 _ _ (0, 0) HRb2.out]; rfl
    have r1 : w2.cell? ⟨w.heap.size + 1, 1, none⟩ = some (.slice none 0 0) := by rw [cell_of_row w2 _ 1 _ _ (0, 0) HRb2.out]; rfl
    have r2 : w2.cell? ⟨w.heap.size + 1, 2, none⟩ = some (.bool false) := by rw [cell_of_row w2 _ 2 _ _ (0, 0) HRb2.out]; rfl
    have q0 := frozen_of_row w2 _ 0 _ _ HRb2.out
    have q1 := frozen_of_row w2 _ 1 _ _ HRb2.out
    have q2 := frozen_of_row w2 _ 2 _ _ HRb2.out
    have hs3 : w.heap.size < w2.heap.size := by omega
    have hs4 : w.heap.size + 1 < w2.heap.size := by omega
    go_wp2_with fail
    have hg := box3_grown w2 (w.heap.size + 1) (.int .i64 s) (.slice (some ⟨g, 0, none⟩) m k) (.bool false)
    have hb := (box3_set HRb2.out (.int .i64 s) (.slice (some ⟨g, 0, none⟩) m k) (.bool false))
    have hbz := hg.size
    generalize (((w2.setCell ⟨w.heap.size + 1, 0, none⟩ (.int .i64 s)).setCell ⟨w.heap.size + 1, 1, none⟩ (.slice (some ⟨g, 0, none⟩) m k)).setCell ⟨w.heap.size + 1, 2, none⟩ (.bool false)) = w3 at *
    have h4 := (Below.refl w3.heap.size w3).alloc (Nat.le_refl _) (.cells #[.int .i64 s, .slice (some ⟨g, 0, none⟩) m k, .bool false] 25)
    refine bodyPost_ret (results_cell_row resultsBk _ _ (w.heap.size + 1) 25 #[.int .i64 s, .slice (some ⟨g, 0, none⟩) m k, .bool false] (0, 0) _ rfl ((h4.block _ (by omega)).trans hb) Try.underlying25 rfl infoF) rfl ⟨g, m, k, rfl, ?_, ?_⟩
    · have h5 := HSz.out
      refine (((HO.out.kept hg (.inr fun e => ?_)).below h4).base_le (by omega))
      have := (HO.out.lt g rfl).1
      simp [Value.ownBlock] at e
      omega
    · exact (HLow.out.trans ⟨hg.os, hg.tape, hg.output, hg.size, fun i hk => hg.block i (by omega) (by simp; omega)⟩).trans (h4.mono (by omega))
/-- a field in a box, the result's box behind it -/
structure TB (w : World) (s : Int) (A : Option Addr) (n c : Nat) (sh : Bool) (bs : List Bool) (wr : World) : Prop where
  f0 : wr.cell? ⟨w.heap.size, 0, none⟩ = some (.int .i64 s)
  f1 : wr.cell? ⟨w.heap.size, 1, none⟩ = some (.slice A n c)
  f2 : wr.cell? ⟨w.heap.size, 2, none⟩ = some (.bool sh)
  rb : wr.heap[w.heap.size + 1]? = some (.cells #[.int .i64 0, .slice none 0 0, .bool false] 25 (0, 0))
  br : BR wr A n bs
  low : Below w.heap.size w wr
  sz : w.heap.size + 2 ≤ wr.heap.size
section
variable {w wr wy : World} {s : Int} {A : Option Addr} {n c : Nat} {sh : Bool} {bs : List Bool}
theorem TB.start (hb : BR w A n bs) : TB w s A n c sh bs ((w.alloc (.cells #[.int .i64 s, .slice A n c, .bool sh] 25)).alloc (.cells #[.int .i64 0, .slice none 0 0, .bool false] 25)) := by
  have hW : Below w.heap.size w ((w.alloc (.cells #[.int .i64 s, .slice A n c, .bool sh] 25)).alloc (.cells #[.int .i64 0, .slice none 0 0, .bool false] 25)) := ((Below.refl _ w).alloc (Nat.le_refl _) _).alloc (by simp) _
  refine ⟨cell_old (cell_at rfl rfl), cell_old (cell_at rfl rfl), cell_old (cell_at rfl rfl), ?_, hb.below hW, hW, by simp⟩
  have := heap_alloc_new (w.alloc (.cells #[.int .i64 s, .slice A n c, .bool sh] 25)) (.cells #[.int .i64 0, .slice none 0 0, .bool false] 25)
  rw [World.size_alloc] at this
  exact this
theorem TB.below (h : TB w s A n c sh bs wr) (hb : Below wr.heap.size wr wy) : TB w s A n c sh bs wy := by
  have hsz := h.sz
  have hk : ∀ b i, b < w.heap.size + 2 → wy.cell? ⟨b, i, none⟩ = wr.cell? ⟨b, i, none⟩ := fun b i hlt => hb.cell (p := ⟨b, i, none⟩) (by show b < _; omega)
  exact ⟨(hk _ _ (by omega)).trans h.f0, (hk _ _ (by omega)).trans h.f1, (hk _ _ (by omega)).trans h.f2, (hb.block _ (by omega)).trans h.rb, h.br.below hb, h.low.trans (hb.mono (by omega)), by have := hb.size; omega⟩
theorem TB.cells (h : TB w s A n c sh bs wr) : (wr.cell? ⟨w.heap.size + 1, 0, none⟩ = some (.int .i64 0) ∧ wr.cell? ⟨w.heap.size + 1, 1, none⟩ = some (.slice none 0 0) ∧ wr.cell? ⟨w.heap.size + 1, 2, none⟩ = some (.bool false)) ∧
    wr.frozen? ⟨w.heap.size + 1, 0, none⟩ = false ∧ wr.frozen? ⟨w.heap.size + 1, 1, none⟩ = false ∧ wr.frozen? ⟨w.heap.size + 1, 2, none⟩ = false :=
  ⟨⟨by rw [cell_of_row wr _ 0 _ _ (0, 0) h.rb]; rfl, by rw [cell_of_row wr _ 1 _ _ (0, 0) h.rb]; rfl, by rw [cell_of_row wr _ 2 _ _ (0, 0) h.rb]; rfl⟩, frozen_of_row wr _ 0 _ _ h.rb, frozen_of_row wr _ 1 _ _ h.rb, frozen_of_row wr _ 2 _ _ h.rb⟩
theorem TB.low3 (h : TB w s A n c sh bs wr) (y0 y1 y2 : Value) : Below w.heap.size w (((wr.setCell ⟨w.heap.size + 1, 0, none⟩ y0).setCell ⟨w.heap.size + 1, 1, none⟩ y1).setCell ⟨w.heap.size + 1, 2, none⟩ y2) := by
  have hg := box3_grown wr (w.heap.size + 1) y0 y1 y2
  have hsz := h.sz
  exact h.low.trans ⟨hg.os, hg.tape, hg.output, hg.size, fun i hk => hg.block i (by omega) (by simp; omega)⟩
end
/-- no field -/
def NoField (w : World) (e : Ending) (w' : World) : Prop := e = .returned (.agg #[.int .i64 0, .slice none 0 0, .bool false]) ∧ Below w.heap.size w w'
theorem resFS : Try.f12.results = #[.cell 2 25] := by kernel_rfl
set_option maxHeartbeats 4000000 in
theorem steps_no (s : Int) (A : Option Addr) (n c : Nat) (sh : Bool) (bs : List Bool) (w : World) (hb : BR w A n bs) (hn : n ≤ 1048576) (hs : (Lit.int .i64 s).wf = true) (hv : fldOk s bs = false) :
    Calls Try.prog 12 #[.agg #[.int .i64 s, .slice A n c, .bool sh]] w (NoField w) := by
  have HV := Lib.hid hv
  have T0 := hide (TB.start (s := s) (c := c) (sh := sh) hb)
  have HS := Lib.hid hs
  clear hb hv hs
  go_enter Try.func12, Try.ntmps12
  go_wp2_with fail
  refine calls_named fun W hW => ?_
  rw [hW] at T0
  clear hW
  refine (fieldValid_any s A n c sh bs W T0.out.br hn HS.out).mono ?_
  rintro e w2 ⟨rfl, hb2⟩
  rw [HV.out]
  have T2 := hide (T0.out.below hb2)
  obtain ⟨⟨r0, r1, r2⟩, q0, q1, q2⟩ := T2.out.cells
  clear hb2 T0
  go_wp2_with fail
  exact bodyPost_ret (results_cell_row resFS _ _ (w.heap.size + 1) 25 #[.int .i64 0, .slice none 0 0, .bool false] (0, 0) _ rfl (box3_set T2.out.rb _ _ _) Try.underlying25 rfl infoF) rfl ⟨rfl, T2.out.low3 _ _ _⟩
set_option maxHeartbeats 4000000 in
theorem steps_ok (s h : Nat) (A : Option Addr) (n c : Nat) (sh : Bool) (bs : List Bool) (w : World) (hs : sOk s h) (hh : h = if sh then 1 else 0) (hn : n = s * s) (hb : BR w A n bs) (hv : fldOk s bs = true) :
    Calls Try.prog 12 #[.agg #[.int .i64 s, .slice A n c, .bool sh]] w (RField w s (!sh) (stepB s h bs)) := by
  have HV := Lib.hid hv
  have hn64 : n ≤ 64 := by obtain ⟨h | h | h | h, _⟩ := hs <;> (subst h; omega)
  have hwf : (Lit.int .i64 (s : Int)).wf = true := by obtain ⟨h | h | h | h, _⟩ := hs <;> (subst h; rfl)
  have T0 := hide (TB.start (s := s) (c := c) (sh := sh) hb)
  have HS := Lib.hid hs
  have HN := Lib.hid hn
  have HH := Lib.hid hh
  have HW := Lib.hid hwf
  clear hb hv hs hn hh hwf
  go_enter Try.func12, Try.ntmps12
  go_wp2_with fail
  refine calls_named fun W hW => ?_
  rw [hW] at T0
  clear hW
  refine (fieldValid_any s A n c sh bs W T0.out.br (by omega) HW.out).mono ?_
  rintro e w2 ⟨rfl, hb2⟩
  rw [HV.out]
  have T2 := hide (T0.out.below hb2)
  obtain ⟨f0, f1, f2, _, _, _, hsz⟩ := T2.out
  clear hb2 T0
  go_wp2_with fail
  refine (step_any s h A n c sh bs w2 HS.out HH.out HN.out T2.out.br).mono ?_
  rintro e w3 ⟨g, m, k, rfl, ho, hb3⟩
  have T3 := hide (T2.out.below hb3)
  have HO := hide ho
  obtain ⟨⟨r0, r1, r2⟩, q0, q1, q2⟩ := T3.out.cells
  clear ho hb3 f0 f1 f2
  go_wp2_with fail
  have hg := box3_grown w3 (w.heap.size + 1) (.int .i64 s) (.slice (some ⟨g, 0, none⟩) m k) (.bool (!sh))
  refine bodyPost_ret (results_cell_row resFS _ _ (w.heap.size + 1) 25 #[.int .i64 s, .slice (some ⟨g, 0, none⟩) m k, .bool (!sh)] (0, 0) _ rfl (box3_set T3.out.rb _ _ _) Try.underlying25 rfl infoF) rfl ⟨g, m, k, rfl, ?_, T3.out.low3 _ _ _⟩
  refine (HO.out.kept hg (.inr fun e => ?_)).base_le (by omega)
  have := (HO.out.lt g rfl).1
  simp [Value.ownBlock] at e
  omega
theorem resFB : Try.f13.results = #[.cell 2 25] := by kernel_rfl
set_option maxHeartbeats 4000000 in
theorem backs_no (s : Int) (A : Option Addr) (n c : Nat) (sh : Bool) (bs : List Bool) (w : World) (hb : BR w A n bs) (hn : n ≤ 1048576) (hs : (Lit.int .i64 s).wf = true) (hv : fldOk s bs = false) :
    Calls Try.prog 13 #[.agg #[.int .i64 s, .slice A n c, .bool sh]] w (NoField w) := by
  have HV := Lib.hid hv
  have T0 := hide (TB.start (s := s) (c := c) (sh := sh) hb)
  have HS := Lib.hid hs
  clear hb hv hs
  go_enter Try.func13, Try.ntmps13
  go_wp2_with fail
  refine calls_named fun W hW => ?_
  rw [hW] at T0
  clear hW
  refine (fieldValid_any s A n c sh bs W T0.out.br hn HS.out).mono ?_
  rintro e w2 ⟨rfl, hb2⟩
  rw [HV.out]
  have T2 := hide (T0.out.below hb2)
  obtain ⟨⟨r0, r1, r2⟩, q0, q1, q2⟩ := T2.out.cells
  clear hb2 T0
  go_wp2_with fail
  exact bodyPost_ret (results_cell_row resFB _ _ (w.heap.size + 1) 25 #[.int .i64 0, .slice none 0 0, .bool false] (0, 0) _ rfl (box3_set T2.out.rb _ _ _) Try.underlying25 rfl infoF) rfl ⟨rfl, T2.out.low3 _ _ _⟩
set_option maxHeartbeats 4000000 in
theorem backs_ok (s h : Nat) (A : Option Addr) (n c : Nat) (sh : Bool) (bs : List Bool) (w : World) (hs : sOk s h) (hh : h = if sh then 0 else 1) (hn : n = s * s) (hb : BR w A n bs) (hv : fldOk s bs = true) :
    Calls Try.prog 13 #[.agg #[.int .i64 s, .slice A n c, .bool sh]] w (RField w s (!sh) (stepB s h bs)) := by
  have HV := Lib.hid hv
  have hn64 : n ≤ 64 := by obtain ⟨h | h | h | h, _⟩ := hs <;> (subst h; omega)
  have hwf : (Lit.int .i64 (s : Int)).wf = true := by obtain ⟨h | h | h | h, _⟩ := hs <;> (subst h; rfl)
  have T0 := hide (TB.start (s := s) (c := c) (sh := sh) hb)
  have HS := Lib.hid hs
  have HN := Lib.hid hn
  have HH := Lib.hid hh
  have HW := Lib.hid hwf
  clear hb hv hs hn hh hwf
  go_enter Try.func13, Try.ntmps13
  go_wp2_with fail
  refine calls_named fun W hW => ?_
  rw [hW] at T0
  clear hW
  refine (fieldValid_any s A n c sh bs W T0.out.br (by omega) HW.out).mono ?_
  rintro e w2 ⟨rfl, hb2⟩
  rw [HV.out]
  have T2 := hide (T0.out.below hb2)
  obtain ⟨f0, f1, f2, _, _, _, hsz⟩ := T2.out
  clear hb2 T0
  go_wp2_with fail
  refine (back_any s h A n c sh bs w2 HS.out HH.out HN.out T2.out.br).mono ?_
  rintro e w3 ⟨g, m, k, rfl, ho, hb3⟩
  have T3 := hide (T2.out.below hb3)
  have HO := hide ho
  obtain ⟨⟨r0, r1, r2⟩, q0, q1, q2⟩ := T3.out.cells
  clear ho hb3 f0 f1 f2
  go_wp2_with fail
  have hg := box3_grown w3 (w.heap.size + 1) (.int .i64 s) (.slice (some ⟨g, 0, none⟩) m k) (.bool (!sh))
  refine bodyPost_ret (results_cell_row resFB _ _ (w.heap.size + 1) 25 #[.int .i64 s, .slice (some ⟨g, 0, none⟩) m k, .bool (!sh)] (0, 0) _ rfl (box3_set T3.out.rb _ _ _) Try.underlying25 rfl infoF) rfl ⟨g, m, k, rfl, ?_, T3.out.low3 _ _ _⟩
  refine (HO.out.kept hg (.inr fun e => ?_)).base_le (by omega)
  have := (HO.out.lt g rfl).1
  simp [Value.ownBlock] at e
  omega
end Go.Proofs.Ytmakpjcjccgalaa
