/-
  What is known of the kinds of gates: natures, nature, some.
  No condition.
-/
import Derived.Deep.WholeRow
import Derived.Deep.QuietTactic
import Derived.WalkSpells
import Derived.WalkLawsBesides
import Derived.Handy
import Derived.Laws.ResultCell
import Derived.Test.YtpklpebngholcaaGateLaw
namespace Go.Proofs.Ytpklpebngholcaa
open Go.RowKit Go.Sort base
attribute [local go_sem] heap_redrawn
/-- the name of a kind, and its cost -/
def kName (k : Int) : Array UInt8 := if k = 0 then #[110, 111, 116] else if k = 1 then #[99, 111, 112, 121] else if k = 2 then #[98, 111, 116, 104] else if k = 3 then #[115, 119, 97, 112] else #[105, 102]
def kCost (k : Int) : Int := if k = 0 then 1 else if k = 1 then 1 else if k = 2 then 5 else if k = 3 then 3 else 7
def natOf (name : Array UInt8) (l c k : Int) : List Value := [.string ⟨name⟩, .int .i64 l, .int .i64 c, .int .i64 k]
def natCells : Array Value := (natOf #[110, 111, 116] 1 1 1 ++ natOf #[99, 111, 112, 121] 3 2 1 ++ natOf #[98, 111, 116, 104] 7 4 5 ++ natOf #[115, 119, 97, 112] 3 3 3 ++ natOf #[105, 102] 7 6 7).toArray
theorem resultsN : Try.f62.results = #[.cell 0 92] := by kernel_rfl
theorem infoN : (Try.prog.info? 92).map (·.size) = some natCells.size := by kernel_rfl
theorem natures_one : natCells.all (·.oneCell') = true := by kernel_rfl
set_option maxHeartbeats 400000 in
theorem natures_any (w : World) :
    Calls Try.prog 62 #[] w fun e w' => e = .returned (.agg natCells) ∧ w' = w.alloc (.cells natCells 92) := by
  go_enter Try.func62, Try.ntmps62
  go_wp2_with (with_reducible refine wpList_store_row rfl _ _ _ rfl _ natCells rfl rfl _ _ (heap_alloc_last _ _) infoN (by kernel_rfl) natures_one ?_)
  refine bodyPost_ret (results_cell_row resultsN _ _ w.heap.size 92 natCells (0, 0) _ rfl ?_ Try.underlying92 rfl infoN) rfl ⟨rfl, ?_⟩
  · rw [World.setRow_alloc_new]; exact heap_alloc_last _ _
  · exact World.setRow_alloc_new _ _ _ _
theorem natures_b (w : World) : Calls Try.prog 62 #[] w fun e w' => e = .returned (.agg natCells) ∧ Below w.heap.size w w' :=
  (natures_any w).mono fun _ _ ⟨a, c⟩ => ⟨a, by rw [c]; go_grown⟩
/-- what nature answers -/
def NatPost (k : Int) (w : World) (e : Ending) (w' : World) : Prop :=
  e = .returned (.tuple #[.agg #[.string ⟨kName k⟩, .int .i64 (kLines k), .int .i64 (kChanges k), .int .i64 (kCost k)], .bool true]) ∧ Below w.heap.size w w'
set_option maxHeartbeats 2000000 in
theorem nature_ok (k a b c : Int) (hk : kindQ k = true) (w : World) :
    Calls Try.prog 59 #[.agg #[.int .i64 k, .int .i64 a, .int .i64 b, .int .i64 c]] w (NatPost k w) := by
  have hk5 : k = 0 ∨ k = 1 ∨ k = 2 ∨ k = 3 ∨ k = 4 := by simp [kindQ] at hk; omega
  clear hk
  rcases hk5 with rfl | rfl | rfl | rfl | rfl
  · have i0 : ∀ w, (Instr.index 92 (.agg natCells) (.int .i64 0)).run Try.prog w = .ok (.agg #[.string ⟨#[110, 111, 116]⟩, .int .i64 1, .int .i64 1, .int .i64 1]) w := fun _ => by kernel_rfl
    go_enter Try.func59, Try.ntmps59
    go_wp2_with (go_at_call 37; refine (within_b true _ _ _ (by decide) _).mono ?_; rintro e w' ⟨rfl, rfl⟩)
    refine wp_named fun wr hwr => ?_
    have hb : Below w.heap.size w wr := by rw [← hwr]; go_grown
    have hs : w.heap.size + 2 = wr.heap.size := by rw [← hwr]; simp
    have c0 : wr.cell? ⟨w.heap.size, 0, none⟩ = some (.int .i64 0) := by rw [← hwr]; exact cell_old (cell_at rfl rfl)
    have hh : wr.heap[w.heap.size + 1]? = some (.cells #[.string ⟨#[]⟩, .int .i64 0, .int .i64 0, .int .i64 0] 87 (0, 0)) := by rw [← hwr]; have := heap_alloc_last (w.alloc (.cells #[.int .i64 0, .int .i64 a, .int .i64 b, .int .i64 c] 60)) (.cells #[.string ⟨#[]⟩, .int .i64 0, .int .i64 0, .int .i64 0] 87); rwa [World.size_alloc] at this
    have k0 := cell_regrown c0
    clear hwr
    refine wp_region_below_tail 4 (by kernel_rfl) (by kernel_rfl) ?_
    simp only [List.take_succ_cons, List.take_zero, List.drop_succ_cons, List.drop_zero]
    repeat (go_big_quiet_step ((go_at_call 62; exact below_of rfl natures_b)))
    refine wpQuiet_nil ?_
    intro p
    obtain ⟨w2, hw2⟩ : ∃ w2, grow (redrawn wr p.d) p.os = w2 := ⟨_, rfl⟩
    have hb2 : Below wr.heap.size wr w2 := by rw [← hw2]; exact below_regrown wr p.d p.os
    rw [hw2]
    have hh2 : w2.heap[w.heap.size + 1]? = some (.cells #[.string ⟨#[]⟩, .int .i64 0, .int .i64 0, .int .i64 0] 87 (0, 0)) := (hb2.block _ (by omega)).trans hh
    have d0 : w2.cell? ⟨w.heap.size + 1, 0, none⟩ = some (.string ⟨#[]⟩) := by simp [World.cell?, hh2]
    have d1 : w2.cell? ⟨w.heap.size + 1, 1, none⟩ = some (.int .i64 0) := by simp [World.cell?, hh2]
    have d2 : w2.cell? ⟨w.heap.size + 1, 2, none⟩ = some (.int .i64 0) := by simp [World.cell?, hh2]
    have d3 : w2.cell? ⟨w.heap.size + 1, 3, none⟩ = some (.int .i64 0) := by simp [World.cell?, hh2]
    have f0 : ∀ j, w2.frozen? ⟨w.heap.size + 1, j, none⟩ = false := fun j => by simp [World.frozen?, hh2]
    have B2 := hide (hb.trans (hb2.mono (by omega)))
    clear hw2 k0 c0 hh
    go_wp2_with fail
    have q0 : (w2.setCell ⟨w.heap.size + 1, 0, none⟩ (.string ⟨#[110, 111, 116]⟩)).cell? ⟨w.heap.size + 1, 0, none⟩ = some (.string ⟨#[110, 111, 116]⟩) := World.cell?_setCell_same _ _ _ d0
    obtain ⟨W4, h4⟩ : ∃ W4, (((w2.setCell ⟨w.heap.size + 1, 0, none⟩ (.string ⟨#[110, 111, 116]⟩)).setCell ⟨w.heap.size + 1, 1, none⟩ (.int .i64 1)).setCell ⟨w.heap.size + 1, 2, none⟩ (.int .i64 1)).setCell ⟨w.heap.size + 1, 3, none⟩ (.int .i64 1) = W4 := ⟨_, rfl⟩
    have p0 : W4.cell? ⟨w.heap.size + 1, 0, none⟩ = some (.string ⟨#[110, 111, 116]⟩) := by
      rw [← h4, World.cell?_setCell_other _ _ _ _ (by simp), World.cell?_setCell_other _ _ _ _ (by simp), World.cell?_setCell_other _ _ _ _ (by simp)]; exact q0
    have p1 : W4.cell? ⟨w.heap.size + 1, 1, none⟩ = some (.int .i64 1) := by
      rw [← h4, World.cell?_setCell_other _ _ _ _ (by simp), World.cell?_setCell_other _ _ _ _ (by simp)]
      exact World.cell?_setCell_same _ _ _ (u := .int .i64 0) (by rw [World.cell?_setCell_other _ _ _ _ (by simp)]; exact d1)
    have p2 : W4.cell? ⟨w.heap.size + 1, 2, none⟩ = some (.int .i64 1) := by
      rw [← h4, World.cell?_setCell_other _ _ _ _ (by simp)]
      exact World.cell?_setCell_same _ _ _ (u := .int .i64 0) (by rw [World.cell?_setCell_other _ _ _ _ (by simp), World.cell?_setCell_other _ _ _ _ (by simp)]; exact d2)
    have p3 : W4.cell? ⟨w.heap.size + 1, 3, none⟩ = some (.int .i64 1) := by
      rw [← h4]
      exact World.cell?_setCell_same _ _ _ (u := .int .i64 0) (by rw [World.cell?_setCell_other _ _ _ _ (by simp), World.cell?_setCell_other _ _ _ _ (by simp), World.cell?_setCell_other _ _ _ _ (by simp)]; exact d3)
    have B4 := hide (show Below w.heap.size w W4 by
      rw [← h4]
      exact (((B2.out.setCell (by simp) _).setCell (by simp) _).setCell (by simp) _).setCell (by simp) _)
    rw [h4]
    clear h4 q0 d0 d1 d2 d3 f0 hh2
    refine bodyPost_ret (v := .tuple #[.agg #[.string ⟨#[110, 111, 116]⟩, .int .i64 1, .int .i64 1, .int .i64 1], .bool true]) (by simp [results, Try.results59, go_sem, p0, p1, p2, p3]) rfl ⟨rfl, B4.out⟩
  · have i0 : ∀ w, (Instr.index 92 (.agg natCells) (.int .i64 1)).run Try.prog w = .ok (.agg #[.string ⟨#[99, 111, 112, 121]⟩, .int .i64 3, .int .i64 2, .int .i64 1]) w := fun _ => by kernel_rfl
    go_enter Try.func59, Try.ntmps59
    go_wp2_with (go_at_call 37; refine (within_b true _ _ _ (by decide) _).mono ?_; rintro e w' ⟨rfl, rfl⟩)
    refine wp_named fun wr hwr => ?_
    have hb : Below w.heap.size w wr := by rw [← hwr]; go_grown
    have hs : w.heap.size + 2 = wr.heap.size := by rw [← hwr]; simp
    have c0 : wr.cell? ⟨w.heap.size, 0, none⟩ = some (.int .i64 1) := by rw [← hwr]; exact cell_old (cell_at rfl rfl)
    have hh : wr.heap[w.heap.size + 1]? = some (.cells #[.string ⟨#[]⟩, .int .i64 0, .int .i64 0, .int .i64 0] 87 (0, 0)) := by rw [← hwr]; have := heap_alloc_last (w.alloc (.cells #[.int .i64 1, .int .i64 a, .int .i64 b, .int .i64 c] 60)) (.cells #[.string ⟨#[]⟩, .int .i64 0, .int .i64 0, .int .i64 0] 87); rwa [World.size_alloc] at this
    have k0 := cell_regrown c0
    clear hwr
    refine wp_region_below_tail 4 (by kernel_rfl) (by kernel_rfl) ?_
    simp only [List.take_succ_cons, List.take_zero, List.drop_succ_cons, List.drop_zero]
    repeat (go_big_quiet_step ((go_at_call 62; exact below_of rfl natures_b)))
    refine wpQuiet_nil ?_
    intro p
    obtain ⟨w2, hw2⟩ : ∃ w2, grow (redrawn wr p.d) p.os = w2 := ⟨_, rfl⟩
    have hb2 : Below wr.heap.size wr w2 := by rw [← hw2]; exact below_regrown wr p.d p.os
    rw [hw2]
    have hh2 : w2.heap[w.heap.size + 1]? = some (.cells #[.string ⟨#[]⟩, .int .i64 0, .int .i64 0, .int .i64 0] 87 (0, 0)) := (hb2.block _ (by omega)).trans hh
    have d0 : w2.cell? ⟨w.heap.size + 1, 0, none⟩ = some (.string ⟨#[]⟩) := by simp [World.cell?, hh2]
    have d1 : w2.cell? ⟨w.heap.size + 1, 1, none⟩ = some (.int .i64 0) := by simp [World.cell?, hh2]
    have d2 : w2.cell? ⟨w.heap.size + 1, 2, none⟩ = some (.int .i64 0) := by simp [World.cell?, hh2]
    have d3 : w2.cell? ⟨w.heap.size + 1, 3, none⟩ = some (.int .i64 0) := by simp [World.cell?, hh2]
    have f0 : ∀ j, w2.frozen? ⟨w.heap.size + 1, j, none⟩ = false := fun j => by simp [World.frozen?, hh2]
    have B2 := hide (hb.trans (hb2.mono (by omega)))
    clear hw2 k0 c0 hh
    go_wp2_with fail
    have q0 : (w2.setCell ⟨w.heap.size + 1, 0, none⟩ (.string ⟨#[99, 111, 112, 121]⟩)).cell? ⟨w.heap.size + 1, 0, none⟩ = some (.string ⟨#[99, 111, 112, 121]⟩) := World.cell?_setCell_same _ _ _ d0
    obtain ⟨W4, h4⟩ : ∃ W4, (((w2.setCell ⟨w.heap.size + 1, 0, none⟩ (.string ⟨#[99, 111, 112, 121]⟩)).setCell ⟨w.heap.size + 1, 1, none⟩ (.int .i64 3)).setCell ⟨w.heap.size + 1, 2, none⟩ (.int .i64 2)).setCell ⟨w.heap.size + 1, 3, none⟩ (.int .i64 1) = W4 := ⟨_, rfl⟩
    have p0 : W4.cell? ⟨w.heap.size + 1, 0, none⟩ = some (.string ⟨#[99, 111, 112, 121]⟩) := by
      rw [← h4, World.cell?_setCell_other _ _ _ _ (by simp), World.cell?_setCell_other _ _ _ _ (by simp), World.cell?_setCell_other _ _ _ _ (by simp)]; exact q0
    have p1 : W4.cell? ⟨w.heap.size + 1, 1, none⟩ = some (.int .i64 3) := by
      rw [← h4, World.cell?_setCell_other _ _ _ _ (by simp), World.cell?_setCell_other _ _ _ _ (by simp)]
      exact World.cell?_setCell_same _ _ _ (u := .int .i64 0) (by rw [World.cell?_setCell_other _ _ _ _ (by simp)]; exact d1)
    have p2 : W4.cell? ⟨w.heap.size + 1, 2, none⟩ = some (.int .i64 2) := by
      rw [← h4, World.cell?_setCell_other _ _ _ _ (by simp)]
      exact World.cell?_setCell_same _ _ _ (u := .int .i64 0) (by rw [World.cell?_setCell_other _ _ _ _ (by simp), World.cell?_setCell_other _ _ _ _ (by simp)]; exact d2)
    have p3 : W4.cell? ⟨w.heap.size + 1, 3, none⟩ = some (.int .i64 1) := by
      rw [← h4]
      exact World.cell?_setCell_same _ _ _ (u := .int .i64 0) (by rw [World.cell?_setCell_other _ _ _ _ (by simp), World.cell?_setCell_other _ _ _ _ (by simp), World.cell?_setCell_other _ _ _ _ (by simp)]; exact d3)
    have B4 := hide (show Below w.heap.size w W4 by
      rw [← h4]
      exact (((B2.out.setCell (by simp) _).setCell (by simp) _).setCell (by simp) _).setCell (by simp) _)
    rw [h4]
    clear h4 q0 d0 d1 d2 d3 f0 hh2
    refine bodyPost_ret (v := .tuple #[.agg #[.string ⟨#[99, 111, 112, 121]⟩, .int .i64 3, .int .i64 2, .int .i64 1], .bool true]) (by simp [results, Try.results59, go_sem, p0, p1, p2, p3]) rfl ⟨rfl, B4.out⟩
  · have i0 : ∀ w, (Instr.index 92 (.agg natCells) (.int .i64 2)).run Try.prog w = .ok (.agg #[.string ⟨#[98, 111, 116, 104]⟩, .int .i64 7, .int .i64 4, .int .i64 5]) w := fun _ => by kernel_rfl
    go_enter Try.func59, Try.ntmps59
    go_wp2_with (go_at_call 37; refine (within_b true _ _ _ (by decide) _).mono ?_; rintro e w' ⟨rfl, rfl⟩)
    refine wp_named fun wr hwr => ?_
    have hb : Below w.heap.size w wr := by rw [← hwr]; go_grown
    have hs : w.heap.size + 2 = wr.heap.size := by rw [← hwr]; simp
    have c0 : wr.cell? ⟨w.heap.size, 0, none⟩ = some (.int .i64 2) := by rw [← hwr]; exact cell_old (cell_at rfl rfl)
    have hh : wr.heap[w.heap.size + 1]? = some (.cells #[.string ⟨#[]⟩, .int .i64 0, .int .i64 0, .int .i64 0] 87 (0, 0)) := by rw [← hwr]; have := heap_alloc_last (w.alloc (.cells #[.int .i64 2, .int .i64 a, .int .i64 b, .int .i64 c] 60)) (.cells #[.string ⟨#[]⟩, .int .i64 0, .int .i64 0, .int .i64 0] 87); rwa [World.size_alloc] at this
    have k0 := cell_regrown c0
    clear hwr
    refine wp_region_below_tail 4 (by kernel_rfl) (by kernel_rfl) ?_
    simp only [List.take_succ_cons, List.take_zero, List.drop_succ_cons, List.drop_zero]
    repeat (go_big_quiet_step ((go_at_call 62; exact below_of rfl natures_b)))
    refine wpQuiet_nil ?_
    intro p
    obtain ⟨w2, hw2⟩ : ∃ w2, grow (redrawn wr p.d) p.os = w2 := ⟨_, rfl⟩
    have hb2 : Below wr.heap.size wr w2 := by rw [← hw2]; exact below_regrown wr p.d p.os
    rw [hw2]
    have hh2 : w2.heap[w.heap.size + 1]? = some (.cells #[.string ⟨#[]⟩, .int .i64 0, .int .i64 0, .int .i64 0] 87 (0, 0)) := (hb2.block _ (by omega)).trans hh
    have d0 : w2.cell? ⟨w.heap.size + 1, 0, none⟩ = some (.string ⟨#[]⟩) := by simp [World.cell?, hh2]
    have d1 : w2.cell? ⟨w.heap.size + 1, 1, none⟩ = some (.int .i64 0) := by simp [World.cell?, hh2]
    have d2 : w2.cell? ⟨w.heap.size + 1, 2, none⟩ = some (.int .i64 0) := by simp [World.cell?, hh2]
    have d3 : w2.cell? ⟨w.heap.size + 1, 3, none⟩ = some (.int .i64 0) := by simp [World.cell?, hh2]
    have f0 : ∀ j, w2.frozen? ⟨w.heap.size + 1, j, none⟩ = false := fun j => by simp [World.frozen?, hh2]
    have B2 := hide (hb.trans (hb2.mono (by omega)))
    clear hw2 k0 c0 hh
    go_wp2_with fail
    have q0 : (w2.setCell ⟨w.heap.size + 1, 0, none⟩ (.string ⟨#[98, 111, 116, 104]⟩)).cell? ⟨w.heap.size + 1, 0, none⟩ = some (.string ⟨#[98, 111, 116, 104]⟩) := World.cell?_setCell_same _ _ _ d0
    obtain ⟨W4, h4⟩ : ∃ W4, (((w2.setCell ⟨w.heap.size + 1, 0, none⟩ (.string ⟨#[98, 111, 116, 104]⟩)).setCell ⟨w.heap.size + 1, 1, none⟩ (.int .i64 7)).setCell ⟨w.heap.size + 1, 2, none⟩ (.int .i64 4)).setCell ⟨w.heap.size + 1, 3, none⟩ (.int .i64 5) = W4 := ⟨_, rfl⟩
    have p0 : W4.cell? ⟨w.heap.size + 1, 0, none⟩ = some (.string ⟨#[98, 111, 116, 104]⟩) := by
      rw [← h4, World.cell?_setCell_other _ _ _ _ (by simp), World.cell?_setCell_other _ _ _ _ (by simp), World.cell?_setCell_other _ _ _ _ (by simp)]; exact q0
    have p1 : W4.cell? ⟨w.heap.size + 1, 1, none⟩ = some (.int .i64 7) := by
      rw [← h4, World.cell?_setCell_other _ _ _ _ (by simp), World.cell?_setCell_other _ _ _ _ (by simp)]
      exact World.cell?_setCell_same _ _ _ (u := .int .i64 0) (by rw [World.cell?_setCell_other _ _ _ _ (by simp)]; exact d1)
    have p2 : W4.cell? ⟨w.heap.size + 1, 2, none⟩ = some (.int .i64 4) := by
      rw [← h4, World.cell?_setCell_other _ _ _ _ (by simp)]
      exact World.cell?_setCell_same _ _ _ (u := .int .i64 0) (by rw [World.cell?_setCell_other _ _ _ _ (by simp), World.cell?_setCell_other _ _ _ _ (by simp)]; exact d2)
    have p3 : W4.cell? ⟨w.heap.size + 1, 3, none⟩ = some (.int .i64 5) := by
      rw [← h4]
      exact World.cell?_setCell_same _ _ _ (u := .int .i64 0) (by rw [World.cell?_setCell_other _ _ _ _ (by simp), World.cell?_setCell_other _ _ _ _ (by simp), World.cell?_setCell_other _ _ _ _ (by simp)]; exact d3)
    have B4 := hide (show Below w.heap.size w W4 by
      rw [← h4]
      exact (((B2.out.setCell (by simp) _).setCell (by simp) _).setCell (by simp) _).setCell (by simp) _)
    rw [h4]
    clear h4 q0 d0 d1 d2 d3 f0 hh2
    refine bodyPost_ret (v := .tuple #[.agg #[.string ⟨#[98, 111, 116, 104]⟩, .int .i64 7, .int .i64 4, .int .i64 5], .bool true]) (by simp [results, Try.results59, go_sem, p0, p1, p2, p3]) rfl ⟨rfl, B4.out⟩
  · have i0 : ∀ w, (Instr.index 92 (.agg natCells) (.int .i64 3)).run Try.prog w = .ok (.agg #[.string ⟨#[115, 119, 97, 112]⟩, .int .i64 3, .int .i64 3, .int .i64 3]) w := fun _ => by kernel_rfl
    go_enter Try.func59, Try.ntmps59
    go_wp2_with (go_at_call 37; refine (within_b true _ _ _ (by decide) _).mono ?_; rintro e w' ⟨rfl, rfl⟩)
    refine wp_named fun wr hwr => ?_
    have hb : Below w.heap.size w wr := by rw [← hwr]; go_grown
    have hs : w.heap.size + 2 = wr.heap.size := by rw [← hwr]; simp
    have c0 : wr.cell? ⟨w.heap.size, 0, none⟩ = some (.int .i64 3) := by rw [← hwr]; exact cell_old (cell_at rfl rfl)
    have hh : wr.heap[w.heap.size + 1]? = some (.cells #[.string ⟨#[]⟩, .int .i64 0, .int .i64 0, .int .i64 0] 87 (0, 0)) := by rw [← hwr]; have := heap_alloc_last (w.alloc (.cells #[.int .i64 3, .int .i64 a, .int .i64 b, .int .i64 c] 60)) (.cells #[.string ⟨#[]⟩, .int .i64 0, .int .i64 0, .int .i64 0] 87); rwa [World.size_alloc] at this
    have k0 := cell_regrown c0
    clear hwr
    refine wp_region_below_tail 4 (by kernel_rfl) (by kernel_rfl) ?_
    simp only [List.take_succ_cons, List.take_zero, List.drop_succ_cons, List.drop_zero]
    repeat (go_big_quiet_step ((go_at_call 62; exact below_of rfl natures_b)))
    refine wpQuiet_nil ?_
    intro p
    obtain ⟨w2, hw2⟩ : ∃ w2, grow (redrawn wr p.d) p.os = w2 := ⟨_, rfl⟩
    have hb2 : Below wr.heap.size wr w2 := by rw [← hw2]; exact below_regrown wr p.d p.os
    rw [hw2]
    have hh2 : w2.heap[w.heap.size + 1]? = some (.cells #[.string ⟨#[]⟩, .int .i64 0, .int .i64 0, .int .i64 0] 87 (0, 0)) := (hb2.block _ (by omega)).trans hh
    have d0 : w2.cell? ⟨w.heap.size + 1, 0, none⟩ = some (.string ⟨#[]⟩) := by simp [World.cell?, hh2]
    have d1 : w2.cell? ⟨w.heap.size + 1, 1, none⟩ = some (.int .i64 0) := by simp [World.cell?, hh2]
    have d2 : w2.cell? ⟨w.heap.size + 1, 2, none⟩ = some (.int .i64 0) := by simp [World.cell?, hh2]
    have d3 : w2.cell? ⟨w.heap.size + 1, 3, none⟩ = some (.int .i64 0) := by simp [World.cell?, hh2]
    have f0 : ∀ j, w2.frozen? ⟨w.heap.size + 1, j, none⟩ = false := fun j => by simp [World.frozen?, hh2]
    have B2 := hide (hb.trans (hb2.mono (by omega)))
    clear hw2 k0 c0 hh
    go_wp2_with fail
    have q0 : (w2.setCell ⟨w.heap.size + 1, 0, none⟩ (.string ⟨#[115, 119, 97, 112]⟩)).cell? ⟨w.heap.size + 1, 0, none⟩ = some (.string ⟨#[115, 119, 97, 112]⟩) := World.cell?_setCell_same _ _ _ d0
    obtain ⟨W4, h4⟩ : ∃ W4, (((w2.setCell ⟨w.heap.size + 1, 0, none⟩ (.string ⟨#[115, 119, 97, 112]⟩)).setCell ⟨w.heap.size + 1, 1, none⟩ (.int .i64 3)).setCell ⟨w.heap.size + 1, 2, none⟩ (.int .i64 3)).setCell ⟨w.heap.size + 1, 3, none⟩ (.int .i64 3) = W4 := ⟨_, rfl⟩
    have p0 : W4.cell? ⟨w.heap.size + 1, 0, none⟩ = some (.string ⟨#[115, 119, 97, 112]⟩) := by
      rw [← h4, World.cell?_setCell_other _ _ _ _ (by simp), World.cell?_setCell_other _ _ _ _ (by simp), World.cell?_setCell_other _ _ _ _ (by simp)]; exact q0
    have p1 : W4.cell? ⟨w.heap.size + 1, 1, none⟩ = some (.int .i64 3) := by
      rw [← h4, World.cell?_setCell_other _ _ _ _ (by simp), World.cell?_setCell_other _ _ _ _ (by simp)]
      exact World.cell?_setCell_same _ _ _ (u := .int .i64 0) (by rw [World.cell?_setCell_other _ _ _ _ (by simp)]; exact d1)
    have p2 : W4.cell? ⟨w.heap.size + 1, 2, none⟩ = some (.int .i64 3) := by
      rw [← h4, World.cell?_setCell_other _ _ _ _ (by simp)]
      exact World.cell?_setCell_same _ _ _ (u := .int .i64 0) (by rw [World.cell?_setCell_other _ _ _ _ (by simp), World.cell?_setCell_other _ _ _ _ (by simp)]; exact d2)
    have p3 : W4.cell? ⟨w.heap.size + 1, 3, none⟩ = some (.int .i64 3) := by
      rw [← h4]
      exact World.cell?_setCell_same _ _ _ (u := .int .i64 0) (by rw [World.cell?_setCell_other _ _ _ _ (by simp), World.cell?_setCell_other _ _ _ _ (by simp), World.cell?_setCell_other _ _ _ _ (by simp)]; exact d3)
    have B4 := hide (show Below w.heap.size w W4 by
      rw [← h4]
      exact (((B2.out.setCell (by simp) _).setCell (by simp) _).setCell (by simp) _).setCell (by simp) _)
    rw [h4]
    clear h4 q0 d0 d1 d2 d3 f0 hh2
    refine bodyPost_ret (v := .tuple #[.agg #[.string ⟨#[115, 119, 97, 112]⟩, .int .i64 3, .int .i64 3, .int .i64 3], .bool true]) (by simp [results, Try.results59, go_sem, p0, p1, p2, p3]) rfl ⟨rfl, B4.out⟩
  · have i0 : ∀ w, (Instr.index 92 (.agg natCells) (.int .i64 4)).run Try.prog w = .ok (.agg #[.string ⟨#[105, 102]⟩, .int .i64 7, .int .i64 6, .int .i64 7]) w := fun _ => by kernel_rfl
    go_enter Try.func59, Try.ntmps59
    go_wp2_with (go_at_call 37; refine (within_b true _ _ _ (by decide) _).mono ?_; rintro e w' ⟨rfl, rfl⟩)
    refine wp_named fun wr hwr => ?_
    have hb : Below w.heap.size w wr := by rw [← hwr]; go_grown
    have hs : w.heap.size + 2 = wr.heap.size := by rw [← hwr]; simp
    have c0 : wr.cell? ⟨w.heap.size, 0, none⟩ = some (.int .i64 4) := by rw [← hwr]; exact cell_old (cell_at rfl rfl)
    have hh : wr.heap[w.heap.size + 1]? = some (.cells #[.string ⟨#[]⟩, .int .i64 0, .int .i64 0, .int .i64 0] 87 (0, 0)) := by rw [← hwr]; have := heap_alloc_last (w.alloc (.cells #[.int .i64 4, .int .i64 a, .int .i64 b, .int .i64 c] 60)) (.cells #[.string ⟨#[]⟩, .int .i64 0, .int .i64 0, .int .i64 0] 87); rwa [World.size_alloc] at this
    have k0 := cell_regrown c0
    clear hwr
    refine wp_region_below_tail 4 (by kernel_rfl) (by kernel_rfl) ?_
    simp only [List.take_succ_cons, List.take_zero, List.drop_succ_cons, List.drop_zero]
    repeat (go_big_quiet_step ((go_at_call 62; exact below_of rfl natures_b)))
    refine wpQuiet_nil ?_
    intro p
    obtain ⟨w2, hw2⟩ : ∃ w2, grow (redrawn wr p.d) p.os = w2 := ⟨_, rfl⟩
    have hb2 : Below wr.heap.size wr w2 := by rw [← hw2]; exact below_regrown wr p.d p.os
    rw [hw2]
    have hh2 : w2.heap[w.heap.size + 1]? = some (.cells #[.string ⟨#[]⟩, .int .i64 0, .int .i64 0, .int .i64 0] 87 (0, 0)) := (hb2.block _ (by omega)).trans hh
    have d0 : w2.cell? ⟨w.heap.size + 1, 0, none⟩ = some (.string ⟨#[]⟩) := by simp [World.cell?, hh2]
    have d1 : w2.cell? ⟨w.heap.size + 1, 1, none⟩ = some (.int .i64 0) := by simp [World.cell?, hh2]
    have d2 : w2.cell? ⟨w.heap.size + 1, 2, none⟩ = some (.int .i64 0) := by simp [World.cell?, hh2]
    have d3 : w2.cell? ⟨w.heap.size + 1, 3, none⟩ = some (.int .i64 0) := by simp [World.cell?, hh2]
    have f0 : ∀ j, w2.frozen? ⟨w.heap.size + 1, j, none⟩ = false := fun j => by simp [World.frozen?, hh2]
    have B2 := hide (hb.trans (hb2.mono (by omega)))
    clear hw2 k0 c0 hh
    go_wp2_with fail
    have q0 : (w2.setCell ⟨w.heap.size + 1, 0, none⟩ (.string ⟨#[105, 102]⟩)).cell? ⟨w.heap.size + 1, 0, none⟩ = some (.string ⟨#[105, 102]⟩) := World.cell?_setCell_same _ _ _ d0
    obtain ⟨W4, h4⟩ : ∃ W4, (((w2.setCell ⟨w.heap.size + 1, 0, none⟩ (.string ⟨#[105, 102]⟩)).setCell ⟨w.heap.size + 1, 1, none⟩ (.int .i64 7)).setCell ⟨w.heap.size + 1, 2, none⟩ (.int .i64 6)).setCell ⟨w.heap.size + 1, 3, none⟩ (.int .i64 7) = W4 := ⟨_, rfl⟩
    have p0 : W4.cell? ⟨w.heap.size + 1, 0, none⟩ = some (.string ⟨#[105, 102]⟩) := by
      rw [← h4, World.cell?_setCell_other _ _ _ _ (by simp), World.cell?_setCell_other _ _ _ _ (by simp), World.cell?_setCell_other _ _ _ _ (by simp)]; exact q0
    have p1 : W4.cell? ⟨w.heap.size + 1, 1, none⟩ = some (.int .i64 7) := by
      rw [← h4, World.cell?_setCell_other _ _ _ _ (by simp), World.cell?_setCell_other _ _ _ _ (by simp)]
      exact World.cell?_setCell_same _ _ _ (u := .int .i64 0) (by rw [World.cell?_setCell_other _ _ _ _ (by simp)]; exact d1)
    have p2 : W4.cell? ⟨w.heap.size + 1, 2, none⟩ = some (.int .i64 6) := by
      rw [← h4, World.cell?_setCell_other _ _ _ _ (by simp)]
      exact World.cell?_setCell_same _ _ _ (u := .int .i64 0) (by rw [World.cell?_setCell_other _ _ _ _ (by simp), World.cell?_setCell_other _ _ _ _ (by simp)]; exact d2)
    have p3 : W4.cell? ⟨w.heap.size + 1, 3, none⟩ = some (.int .i64 7) := by
      rw [← h4]
      exact World.cell?_setCell_same _ _ _ (u := .int .i64 0) (by rw [World.cell?_setCell_other _ _ _ _ (by simp), World.cell?_setCell_other _ _ _ _ (by simp), World.cell?_setCell_other _ _ _ _ (by simp)]; exact d3)
    have B4 := hide (show Below w.heap.size w W4 by
      rw [← h4]
      exact (((B2.out.setCell (by simp) _).setCell (by simp) _).setCell (by simp) _).setCell (by simp) _)
    rw [h4]
    clear h4 q0 d0 d1 d2 d3 f0 hh2
    refine bodyPost_ret (v := .tuple #[.agg #[.string ⟨#[105, 102]⟩, .int .i64 7, .int .i64 6, .int .i64 7], .bool true]) (by simp [results, Try.results59, go_sem, p0, p1, p2, p3]) rfl ⟨rfl, B4.out⟩
set_option maxHeartbeats 1000000 in
theorem nature_no (k a b c : Int) (hk : kindQ k = false) (w : World) :
    Calls Try.prog 59 #[.agg #[.int .i64 k, .int .i64 a, .int .i64 b, .int .i64 c]] w fun e w' => e = .returned (.tuple #[.agg #[.string ⟨#[]⟩, .int .i64 0, .int .i64 0, .int .i64 0], .bool false]) ∧ Below w.heap.size w w' := by
  have hk' : (decide (0 ≤ k) && decide (k ≤ 4)) = false := hk
  clear hk
  go_enter Try.func59, Try.ntmps59
  go_wp2_with (go_at_call 37; refine (within_b false _ _ _ hk' _).mono ?_; rintro e w' ⟨rfl, rfl⟩)
  have d0 := @cell_at (w.alloc (.cells #[.int .i64 k, .int .i64 a, .int .i64 b, .int .i64 c] 60)) #[.string ⟨#[]⟩, .int .i64 0, .int .i64 0, .int .i64 0] 87 (w.heap.size + 1) 0 _ rfl (by simp)
  have d1 := @cell_at (w.alloc (.cells #[.int .i64 k, .int .i64 a, .int .i64 b, .int .i64 c] 60)) #[.string ⟨#[]⟩, .int .i64 0, .int .i64 0, .int .i64 0] 87 (w.heap.size + 1) 1 _ rfl (by simp)
  have d2 := @cell_at (w.alloc (.cells #[.int .i64 k, .int .i64 a, .int .i64 b, .int .i64 c] 60)) #[.string ⟨#[]⟩, .int .i64 0, .int .i64 0, .int .i64 0] 87 (w.heap.size + 1) 2 _ rfl (by simp)
  have d3 := @cell_at (w.alloc (.cells #[.int .i64 k, .int .i64 a, .int .i64 b, .int .i64 c] 60)) #[.string ⟨#[]⟩, .int .i64 0, .int .i64 0, .int .i64 0] 87 (w.heap.size + 1) 3 _ rfl (by simp)
  refine bodyPost_ret (v := .tuple #[.agg #[.string ⟨#[]⟩, .int .i64 0, .int .i64 0, .int .i64 0], .bool false]) (by simp [results, Try.results59, go_sem, d0, d1, d2, d3]) rfl ⟨rfl, by go_grown⟩
theorem and_one_fin : ∀ x : Fin 16, bits .and .i64 ((x.val : Int) - 8) 1 = ((x.val : Int) - 8) % 2 := by decide +kernel
theorem and_one' (x : Int) (h : -8 ≤ x ∧ x ≤ 7) : bits .and .i64 x 1 = x % 2 := by
  obtain ⟨a, ha⟩ := Int.eq_ofNat_of_zero_le (show 0 ≤ x + 8 by omega)
  obtain rfl : x = (a : Int) - 8 := by omega
  exact and_one_fin ⟨a, by omega⟩
def someTo (a b c s : Int) (m : Nat) : List Int := (if 1 ≤ m ∧ s % 2 = 1 then [a] else []) ++ (if 2 ≤ m ∧ s / 2 % 2 = 1 then [b] else []) ++ (if 3 ≤ m ∧ s / 4 % 2 = 1 then [c] else [])
theorem someTo_len (a b c s : Int) (m : Nat) : (someTo a b c s m).length ≤ 3 := by
  unfold someTo
  split <;> split <;> split <;> simp
set_option maxHeartbeats 4000000 in
theorem some_any (k a b c s : Int) (hs : -8 ≤ s ∧ s ≤ 7) (w : World) :
    Calls Try.prog 60 #[.agg #[.int .i64 k, .int .i64 a, .int .i64 b, .int .i64 c], .int .i64 s] w (RInts w (someOf a b c s)) := by
  obtain ⟨h1, h2⟩ := hs
  have g1 := and_one' s (by omega)
  have g2 := and_one' (s / 2) (by omega)
  have g3 := and_one' (s / 4) (by omega)
  have r1 : -4 ≤ s / 2 := by omega
  have r2 : s / 2 ≤ 3 := by omega
  have r3 : -2 ≤ s / 4 := by omega
  have r4 : s / 4 ≤ 1 := by omega
  have i0 : ∀ w, (Instr.index 94 (.agg #[.int .i64 a, .int .i64 b, .int .i64 c]) (.int .i64 0)).run Try.prog w = .ok (.int .i64 a) w := fun _ => by kernel_rfl
  have i1 : ∀ w, (Instr.index 94 (.agg #[.int .i64 a, .int .i64 b, .int .i64 c]) (.int .i64 1)).run Try.prog w = .ok (.int .i64 b) w := fun _ => by kernel_rfl
  have i2 : ∀ w, (Instr.index 94 (.agg #[.int .i64 a, .int .i64 b, .int .i64 c]) (.int .i64 2)).run Try.prog w = .ok (.int .i64 c) w := fun _ => by kernel_rfl
  have HB0 := hide (show Below w.heap.size w (w.alloc (.cells #[.int .i64 k, .int .i64 a, .int .i64 b, .int .i64 c] 60)) by go_grown)
  go_enter Try.func60, Try.ntmps60
  go_wp2_with (at_make; refine wpList_make0_ints w.heap.size 3 rfl _ _ rfl rfl _ rfl rfl (by omega) (by simp) ?_; intro w1 ho1 hb1 hg1; have hh : w1.heap[w.heap.size]? = some (.cells #[.int .i64 k, .int .i64 a, .int .i64 b, .int .i64 c] 60 (0, 0)) := (hg1.block w.heap.size (by simp) (by simp)).trans (heap_alloc_last _ _); have c1 : w1.cell? ⟨w.heap.size, 1, none⟩ = some (.int .i64 a) := (by simp [World.cell?, hh]); have c2 : w1.cell? ⟨w.heap.size, 2, none⟩ = some (.int .i64 b) := (by simp [World.cell?, hh]); have c3 : w1.cell? ⟨w.heap.size, 3, none⟩ = some (.int .i64 c) := (by simp [World.cell?, hh]); have O1 := hide ho1; have B1 := hide (HB0.out.trans hb1); clear ho1 hb1 hg1 hh)
  clear c1 c2 c3
  go_loopw [5, 16] (fun v i wr => ∃ (V : Value) (m : Nat), V = v ∧ m ≤ 3 ∧ i = .int .i64 m ∧ Hid (Own wr w.heap.size v (someTo a b c s m)) ∧ Hid (Below w.heap.size w wr)) (fun _ i _ => 3 - (intOf i).toNat)
  case atStart => exact ⟨_, 0, rfl, by omega, rfl, by have := O1.out; rw [World.size_alloc] at this; rw [show someTo a b c s 0 = [] by simp [someTo]]; exact this, B1.out⟩
  case round =>
    obtain ⟨V, m, rfl, hm, rfl, HO, HB⟩ := hrel
    by_cases hlt : m < 3
    · have hsz := HB.out.size
      have HLn := hide (someTo_len a b c s m)
      rcases (show m = 0 ∨ m = 1 ∨ m = 2 by omega) with rfl | rfl | rfl
      · rw [show ((0 : Nat) : Int) = (0 : Int) from rfl]
        by_cases hq : s % 2 = 1
        · have HQ := Lib.hid (show someTo a b c s (0 + 1) = someTo a b c s 0 ++ [a] by simp [someTo, hq])
          have e1 : (s % 2 == 1) = true := by simpa using hq
          clear hq
          go_wp2_with (at_builtin; refine wpList_append1 HO.out (.tmp 25) (.tmp 27) (by rfl) rfl rfl rfl (by have := HLn.out; omega) hsz ?_; intro v3 w3 ho3 hb3 _ _)
          go_roundw
          case rel => exact ⟨_, 0 + 1, rfl, by omega, by go_num, by rw [HQ.out]; exact ho3, HB.out.trans hb3⟩
          case measure => simp [intOf]
        · have HQ := Lib.hid (show someTo a b c s (0 + 1) = someTo a b c s 0 by simp [someTo, hq])
          have e1 : (s % 2 == 1) = false := by simpa using hq
          clear hq
          go_wp2_with fail
          go_roundw
          case rel => exact ⟨_, 0 + 1, rfl, by omega, by go_num, by rw [HQ.out]; exact HO.out, HB.out⟩
          case measure => simp [intOf]
      · rw [show ((1 : Nat) : Int) = (1 : Int) from rfl]
        by_cases hq : (s/2) % 2 = 1
        · have HQ := Lib.hid (show someTo a b c s (1 + 1) = someTo a b c s 1 ++ [b] by simp [someTo, hq])
          have e1 : ((s/2) % 2 == 1) = true := by simpa using hq
          clear hq
          go_wp2_with (at_builtin; refine wpList_append1 HO.out (.tmp 25) (.tmp 27) (by rfl) rfl rfl rfl (by have := HLn.out; omega) hsz ?_; intro v3 w3 ho3 hb3 _ _)
          go_roundw
          case rel => exact ⟨_, 1 + 1, rfl, by omega, by go_num, by rw [HQ.out]; exact ho3, HB.out.trans hb3⟩
          case measure => simp [intOf]
        · have HQ := Lib.hid (show someTo a b c s (1 + 1) = someTo a b c s 1 by simp [someTo, hq])
          have e1 : ((s/2) % 2 == 1) = false := by simpa using hq
          clear hq
          go_wp2_with fail
          go_roundw
          case rel => exact ⟨_, 1 + 1, rfl, by omega, by go_num, by rw [HQ.out]; exact HO.out, HB.out⟩
          case measure => simp [intOf]
      · rw [show ((2 : Nat) : Int) = (2 : Int) from rfl]
        by_cases hq : (s/4) % 2 = 1
        · have HQ := Lib.hid (show someTo a b c s (2 + 1) = someTo a b c s 2 ++ [c] by simp [someTo, hq])
          have e1 : ((s/4) % 2 == 1) = true := by simpa using hq
          clear hq
          go_wp2_with (at_builtin; refine wpList_append1 HO.out (.tmp 25) (.tmp 27) (by rfl) rfl rfl rfl (by have := HLn.out; omega) hsz ?_; intro v3 w3 ho3 hb3 _ _)
          go_roundw
          case rel => exact ⟨_, 2 + 1, rfl, by omega, by go_num, by rw [HQ.out]; exact ho3, HB.out.trans hb3⟩
          case measure => simp [intOf]
        · have HQ := Lib.hid (show someTo a b c s (2 + 1) = someTo a b c s 2 by simp [someTo, hq])
          have e1 : ((s/4) % 2 == 1) = false := by simpa using hq
          clear hq
          go_wp2_with fail
          go_roundw
          case rel => exact ⟨_, 2 + 1, rfl, by omega, by go_num, by rw [HQ.out]; exact HO.out, HB.out⟩
          case measure => simp [intOf]
    · obtain rfl : m = 3 := by omega
      have HQ := Lib.hid (show someTo a b c s 3 = someOf a b c s by simp [someTo, someOf])
      go_wp2_with fail
      go_ret
      exact ⟨⟨_, rfl, by rw [← HQ.out]; exact HO.out⟩, HB.out⟩
end Go.Proofs.Ytpklpebngholcaa
