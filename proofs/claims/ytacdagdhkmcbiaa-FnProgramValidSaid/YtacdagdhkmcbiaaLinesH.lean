/-
  Which statements are valid: what is known of the kinds of statements, and one walk for each kind.
  No condition.
-/
import Derived.Deep.WholeRow
import Derived.Deep.QuietTactic
import Derived.WalkSpells
import Derived.WalkLawsBesides
import Derived.Handy
import Derived.Laws.ResultCell
import Derived.Deep.RegionWith
import Derived.Deep.DeepCutAuto
import Derived.Test.YtacdagdhkmcbiaaLineLaw
namespace Go.Proofs.Ytacdagdhkmcbiaa
open Go.RowKit Go.Sort base
attribute [local go_sem] heap_redrawn
def shapeCells : Array Value := #[.string ⟨#[97, 100, 100]⟩, .bool true, .bool true, .bool false, .int .i64 0, .string ⟨#[116, 97, 107, 101]⟩, .bool true, .bool true, .bool false, .int .i64 0, .string ⟨#[109, 111, 114, 101]⟩, .bool true, .bool false, .bool true, .int .i64 63, .string ⟨#[115, 119, 97, 112]⟩, .bool true, .bool true, .bool false, .int .i64 0, .string ⟨#[114, 101, 112, 101, 97, 116]⟩, .bool false, .bool false, .bool true, .int .i64 3, .string ⟨#[101, 110, 100]⟩, .bool false, .bool false, .bool false, .int .i64 0, .string ⟨#[105, 102]⟩, .bool true, .bool false, .bool true, .int .i64 63, .string ⟨#[101, 108, 115, 101]⟩, .bool false, .bool false, .bool false, .int .i64 0, .string ⟨#[102, 105]⟩, .bool true, .bool false, .bool true, .int .i64 63]
theorem resultsS : Try.f33.results = #[.cell 0 65] := by kernel_rfl
theorem infoS : (Try.prog.info? 65).map (·.size) = some shapeCells.size := by kernel_rfl
theorem shapes_one : shapeCells.all (·.oneCell') = true := by kernel_rfl
set_option maxHeartbeats 400000 in
theorem shapes_any (w : World) :
    Calls Try.prog 33 #[] w fun e w' => e = .returned (.agg shapeCells) ∧ w' = w.alloc (.cells shapeCells 65) := by
  go_enter Try.func33, Try.ntmps33
  go_wp2_with (with_reducible refine wpList_store_row rfl _ _ _ rfl _ shapeCells rfl rfl _ _ (heap_alloc_last _ _) infoS (by kernel_rfl) shapes_one ?_)
  refine bodyPost_ret (results_cell_row resultsS _ _ w.heap.size 65 shapeCells (0, 0) _ rfl ?_ Try.underlying65 rfl infoS) rfl ⟨rfl, ?_⟩
  · rw [World.setRow_alloc_new]; exact heap_alloc_last _ _
  · exact World.setRow_alloc_new _ _ _ _
theorem shapes_b (w : World) : Calls Try.prog 33 #[] w fun e w' => e = .returned (.agg shapeCells) ∧ Below w.heap.size w w' :=
  (shapes_any w).mono fun _ _ ⟨a, c⟩ => ⟨a, by rw [c]; go_grown⟩
set_option maxHeartbeats 400000 in
theorem within_r (b : Bool) (n l h : Int) (hb : inR l h n = b) (w : World) :
    Calls Try.prog 31 #[.int .i64 n, .int .i64 l, .int .i64 h] w fun e w' => e = .returned (.bool b) ∧ w = w' := within_b b n l h hb w
set_option maxHeartbeats 400000 in
theorem top_t (m : Int) (w : World) : Calls Try.prog 34 #[.bool true, .int .i64 m] w fun e w' => e = .returned (.int .i64 m) ∧ w = w' := by
  go_enter Try.func34, Try.ntmps34
  go_wp2_with fail
  go_ret
  exact ⟨rfl, rfl⟩
set_option maxHeartbeats 400000 in
theorem top_f (m : Int) (w : World) : Calls Try.prog 34 #[.bool false, .int .i64 m] w fun e w' => e = .returned (.int .i64 0) ∧ w = w' := by
  go_enter Try.func34, Try.ntmps34
  go_wp2_with fail
  go_ret
  exact ⟨rfl, rfl⟩
theorem shape_at (k : Int) (h : inR 0 8 k = true) : ∀ w, (Instr.index 65 (.agg shapeCells) (.int .i64 k)).run Try.prog w = .ok (.agg #[.string ⟨sName k⟩, .bool (hasV k), .bool (hasW k), .bool (hasN k), .int .i64 (mostOf k)]) w := by
  rcases kind9 h with rfl | rfl | rfl | rfl | rfl | rfl | rfl | rfl | rfl <;> intro w <;> kernel_rfl
/-- what is known of a kind, in a box -/
def ShapeBox (w : World) (g : Nat) (k : Int) : Prop :=
  w.cell? ⟨g, 0, none⟩ = some (.string ⟨sName k⟩) ∧ w.cell? ⟨g, 1, none⟩ = some (.bool (hasV k)) ∧ w.cell? ⟨g, 2, none⟩ = some (.bool (hasW k)) ∧ w.cell? ⟨g, 3, none⟩ = some (.bool (hasN k)) ∧ w.cell? ⟨g, 4, none⟩ = some (.int .i64 (mostOf k))
theorem shapeBox_new (w : World) (k : Int) (t : TypeId) : ShapeBox (w.alloc (.cells #[.string ⟨sName k⟩, .bool (hasV k), .bool (hasW k), .bool (hasN k), .int .i64 (mostOf k)] t)) w.heap.size k :=
  ⟨cell_at rfl rfl, cell_at rfl rfl, cell_at rfl rfl, cell_at rfl rfl, cell_at rfl rfl⟩

theorem ShapeBox.below {w w' : World} {g : Nat} {k : Int} (h : ShapeBox w g k) (hb : Below w.heap.size w w') : ShapeBox w' g k := by
  have hlt : g < w.heap.size := World.block_lt_of_cell? w _ h.1
  have f : ∀ i, w'.cell? ⟨g, i, none⟩ = w.cell? ⟨g, i, none⟩ := fun i => hb.cell (p := ⟨g, i, none⟩) hlt
  exact ⟨(f _).trans h.1, (f _).trans h.2.1, (f _).trans h.2.2.1, (f _).trans h.2.2.2.1, (f _).trans h.2.2.2.2⟩
def lineObj (k v w n : Int) : Obj := .cells #[.int .i64 k, .int .i64 v, .int .i64 w, .int .i64 n] 32
def shapeObj (k : Int) : Obj := .cells #[.string ⟨sName k⟩, .bool (hasV k), .bool (hasW k), .bool (hasN k), .int .i64 (mostOf k)] 64
theorem laidA (W : World) (k v w n : Int) : ∃ g : Nat, Value.pointer (some ⟨W.heap.size + 1 + 1, 0, none⟩) = .pointer (some ⟨g, 0, none⟩) ∧ Hid (Box4 (((W.alloc (lineObj k v w n)).alloc (.cells shapeCells 65)).alloc (shapeObj k)).drew W.heap.size k v w n) ∧ Hid (ShapeBox (((W.alloc (lineObj k v w n)).alloc (.cells shapeCells 65)).alloc (shapeObj k)).drew g k) ∧ Hid (Below W.heap.size W (((W.alloc (lineObj k v w n)).alloc (.cells shapeCells 65)).alloc (shapeObj k)).drew) := by
  have h1 : Below (W.alloc (lineObj k v w n)).heap.size (W.alloc (lineObj k v w n)) (((W.alloc (lineObj k v w n)).alloc (.cells shapeCells 65)).alloc (shapeObj k)) := ((Below.refl _ _).alloc (Nat.le_refl _) _).alloc (by simp) _
  have h2 : Below W.heap.size W (((W.alloc (lineObj k v w n)).alloc (.cells shapeCells 65)).alloc (shapeObj k)) := (((Below.refl _ W).alloc (Nat.le_refl _) _).alloc (by simp) _).alloc (by simp; omega) _
  have h3 := shapeBox_new ((W.alloc (lineObj k v w n)).alloc (.cells shapeCells 65)) k 64
  rw [World.size_alloc, World.size_alloc] at h3
  have h0 : Box4 (W.alloc (lineObj k v w n)) W.heap.size k v w n := Box4.made W k v w n 32
  exact ⟨_, rfl, h0.below (below_drewN h1 1), h3, below_drewN h2 1⟩
theorem laidB (W : World) (k v w n : Int) : ∃ g : Nat, Value.pointer (some ⟨W.heap.size + 1, 0, none⟩) = .pointer (some ⟨g, 0, none⟩) ∧ Hid (Box4 (((W.alloc (lineObj k v w n)).alloc (shapeObj k)).alloc (.cells shapeCells 65)).drew W.heap.size k v w n) ∧ Hid (ShapeBox (((W.alloc (lineObj k v w n)).alloc (shapeObj k)).alloc (.cells shapeCells 65)).drew g k) ∧ Hid (Below W.heap.size W (((W.alloc (lineObj k v w n)).alloc (shapeObj k)).alloc (.cells shapeCells 65)).drew) := by
  have h1 : Below (W.alloc (lineObj k v w n)).heap.size (W.alloc (lineObj k v w n)) (((W.alloc (lineObj k v w n)).alloc (shapeObj k)).alloc (.cells shapeCells 65)) := ((Below.refl _ _).alloc (Nat.le_refl _) _).alloc (by simp) _
  have h2 : Below W.heap.size W (((W.alloc (lineObj k v w n)).alloc (shapeObj k)).alloc (.cells shapeCells 65)) := (((Below.refl _ W).alloc (Nat.le_refl _) _).alloc (by simp) _).alloc (by simp; omega) _
  have h3 := shapeBox_new (W.alloc (lineObj k v w n)) k 64
  have h4 := h3.below ((Below.refl _ ((W.alloc (lineObj k v w n)).alloc (shapeObj k))).alloc (Nat.le_refl _) (.cells shapeCells 65))
  rw [World.size_alloc] at h4
  have h0 : Box4 (W.alloc (lineObj k v w n)) W.heap.size k v w n := Box4.made W k v w n 32
  exact ⟨_, rfl, h0.below (below_drewN h1 1), h4, below_drewN h2 1⟩
end Go.Proofs.Ytacdagdhkmcbiaa
