/-
  The draw of a formula.
  No condition.
-/
import Derived.Deep.RegionWith
import Derived.Deep.DeepCutAuto
import Derived.Test.YtpklpebngholcaaRGb
import Derived.Test.YtpklpebngholcaaSLeft
namespace Go.Proofs.Ytpklpebngholcaa
open Go.RowKit Go.Sort base
def scell (s : S3) : List Value := [.int .i64 s.1, .int .i64 s.2.1, .int .i64 s.2.2]
def scells (fs : List S3) : List Value := fs.flatMap scell
theorem scells_len (fs : List S3) : (scells fs).length = fs.length * 3 := by
  induction fs with
  | nil => rfl
  | cons g gs ih => simp only [scells, List.flatMap_cons, List.length_append, List.length_cons] at ih ⊢; rw [ih]; simp [scell]; omega
theorem scells_snoc (fs : List S3) (g : S3) : scells (fs ++ [g]) = scells fs ++ scell g := by simp [scells]
theorem scells_int (fs : List S3) : ∀ u ∈ scells fs, ∃ z, u = .int .i64 z := by
  intro u hu
  simp only [scells, scell, List.mem_flatMap, List.mem_cons, List.not_mem_nil, or_false] at hu
  obtain ⟨g, _, rfl | rfl | rfl⟩ := hu <;> exact ⟨_, rfl⟩
theorem soneCells (fs : List S3) : ∀ u ∈ scells fs, u.oneCell' = true := fun u hu => by obtain ⟨z, rfl⟩ := scells_int fs u hu; rfl
/-- a slice of steps of the call's own -/
def OwnT (w : World) (base : Nat) (v : Value) (fs : List S3) : Prop := w.ownsRow base 44 3 v fs.length (scells fs)
section
variable {w w' : World} {base : Nat} {v : Value} {fs : List S3} {row : Option Nat}
theorem OwnT.kept (h : OwnT w base v fs) (hg : w.grownBy w' row) (hne : v.ownBlock = none ∨ v.ownBlock ≠ row) : OwnT w' base v fs := World.ownsRow.kept h hg hne
theorem OwnT.alloc (h : OwnT w base v fs) (o : Obj) : OwnT (w.alloc o) base v fs := World.ownsRow.alloc h o
theorem OwnT.lt (h : OwnT w base v fs) : ∀ k, v.ownBlock = some k → base ≤ k ∧ k < w.heap.size := World.ownsRow.lt h
theorem OwnT.nil0 (w : World) (base : Nat) (hb : base ≤ w.heap.size) : OwnT (w.alloc (.cells #[] 44)) base (.slice (some ⟨w.heap.size, 0, none⟩) 0 0) [] := by
  have := World.ownsRow_lit (e := 44) (size := 3) w #[] 0 hb (by unfold maxLen; omega) (by simp)
  simpa [OwnT, scells] using this
theorem OwnT.slice (h : OwnT w base v fs) : ∃ A c, v = .slice A fs.length c := by
  rcases h.2 with ⟨rfl, h0⟩ | ⟨g, cap, cur, rfl, _⟩
  · exact ⟨none, 0, by rw [h0]⟩
  · exact ⟨_, cap, rfl⟩
theorem OwnT.ne (h : OwnT w base v fs) {R : Nat} (hR : R < base) : v.ownBlock = none ∨ v.ownBlock ≠ some R := by
  cases hv : v.ownBlock with
  | none => exact .inl rfl
  | some k => right; intro e; have := (h.lt k hv).1; simp at e; omega
theorem OwnT.ne' (h : OwnT w base v fs) {g : Nat} (hg : w.heap.size ≤ g) : v.ownBlock = none ∨ v.ownBlock ≠ some g := by
  cases hv : v.ownBlock with
  | none => exact .inl rfl
  | some k => right; intro e; have := (h.lt k hv).2; simp at e; omega
end
/-- n steps lie in a block: numbers -/
def Ints3 (w : World) (g n : Nat) : Prop := ∃ cur, w.heap[g]? = some (.cells cur 44 (0, 0)) ∧ 3 * n ≤ cur.size ∧ ∀ i, i < 3 * n → ∃ z : Int, cur[i]? = some (.int .i64 z)
theorem OwnT.ints {w : World} {base : Nat} {v : Value} {fs : List S3} (h : OwnT w base v fs) : (v = .slice none 0 0 ∧ fs = []) ∨ ∃ g c, v = .slice (some ⟨g, 0, none⟩) fs.length c ∧ base ≤ g ∧ Ints3 w g fs.length := by
  rcases h.2 with ⟨rfl, h0⟩ | ⟨g, cap, cur, rfl, hb, hg, hn, hm, hs, ht⟩
  · exact .inl ⟨rfl, List.eq_nil_of_length_eq_zero h0⟩
  · refine .inr ⟨g, cap, rfl, hb, cur, hg, by rw [hs]; omega, fun i hi => ?_⟩
    have h1 : (cur.toList.take (fs.length * 3))[i]? = (scells fs)[i]? := by rw [ht]
    rw [List.getElem?_take_of_lt (by omega)] at h1
    have h2 : i < (scells fs).length := by rw [scells_len]; omega
    obtain ⟨z, hz⟩ := scells_int fs (scells fs)[i] (List.getElem_mem h2)
    refine ⟨z, ?_⟩
    rw [← Array.getElem?_toList, h1, List.getElem?_eq_getElem h2, hz]
theorem Ints3.set {w : World} {g n : Nat} (h : Ints3 w g n) (i : Nat) (z : Int) : Ints3 (w.setCell ⟨g, i, none⟩ (.int .i64 z)) g n := by
  obtain ⟨cur, hc, hs, hi⟩ := h
  refine ⟨_, laid_set hc _ _, by simpa using hs, fun j hj => ?_⟩
  by_cases e : i = j
  · subst e
    exact ⟨z, by rw [Array.getElem?_setIfInBounds_self_of_lt (by omega)]⟩
  · obtain ⟨y, hy⟩ := hi j hj
    exact ⟨y, by rw [Array.getElem?_setIfInBounds_ne e]; exact hy⟩
theorem Ints3.cell {w : World} {g n i : Nat} (h : Ints3 w g n) (hi : i < 3 * n) : ∃ z : Int, w.cell? ⟨g, i, none⟩ = some (.int .i64 z) := by
  obtain ⟨cur, hc, hs, h1⟩ := h
  obtain ⟨z, hz⟩ := h1 i hi
  exact ⟨z, by rw [cell_of_row w g i cur _ (0, 0) hc]; exact hz⟩
theorem Ints3.grown {w w' : World} {g n : Nat} {row : Option Nat} (h : Ints3 w g n) (hg : w.grownBy w' row) (hne : some g ≠ row) : Ints3 w' g n := by
  obtain ⟨cur, hc, hs, hi⟩ := h
  exact ⟨cur, (hg.block g (Array.getElem?_eq_some_iff.1 hc).1 hne).trans hc, hs, hi⟩
theorem Ints3.frozen {w : World} {g n : Nat} (h : Ints3 w g n) (i : Nat) : w.frozen? ⟨g, i, none⟩ = false := by
  obtain ⟨cur, hc, _⟩ := h
  exact frozen_of_row w g i cur _ hc
theorem Ints3.sr {w : World} {g n : Nat} (h : Ints3 w g n) (hn : n ≤ 1000) : ∃ fs, SR w (some ⟨g, 0, none⟩) n fs := by
  obtain ⟨cur, hc, hs, hi⟩ := h
  have hlt : g < w.heap.size := (Array.getElem?_eq_some_iff.1 hc).1
  have key : ∀ i, i < 3 * n → w.cell? ⟨g, i, none⟩ = some (.int .i64 (match w.cell? ⟨g, i, none⟩ with | some (.int _ z) => z | _ => 0)) := fun i hl => by
    obtain ⟨z, hz⟩ := hi i hl
    rw [cell_of_row w g i cur _ (0, 0) hc, hz]
  refine ⟨(List.range n).map fun i => ((match w.cell? ⟨g, i * 3, none⟩ with | some (.int _ z) => z | _ => 0), (match w.cell? ⟨g, i * 3 + 1, none⟩ with | some (.int _ z) => z | _ => 0), (match w.cell? ⟨g, i * 3 + 2, none⟩ with | some (.int _ z) => z | _ => 0)), by simp, by omega, fun _ => ⟨g, 0, rfl, hlt, fun i hl => ?_⟩⟩
  rw [Nat.zero_add]
  have e : sth ((List.range n).map fun i => ((match w.cell? ⟨g, i * 3, none⟩ with | some (.int _ z) => z | _ => 0), (match w.cell? ⟨g, i * 3 + 1, none⟩ with | some (.int _ z) => z | _ => 0), (match w.cell? ⟨g, i * 3 + 2, none⟩ with | some (.int _ z) => z | _ => 0))) i = ((match w.cell? ⟨g, i * 3, none⟩ with | some (.int _ z) => z | _ => 0), (match w.cell? ⟨g, i * 3 + 1, none⟩ with | some (.int _ z) => z | _ => 0), (match w.cell? ⟨g, i * 3 + 2, none⟩ with | some (.int _ z) => z | _ => 0)) := by
    simp [sth, hl]
  rw [e]
  exact ⟨key _ (by omega), key _ (by omega), key _ (by omega)⟩
/-- 'out = append(out, s)': the step is laid in a block of its own first -/
theorem wpList_appendS1 {ops : Array Oper} {rest : List Oper} {o : Oper} {a : Act} {Q : Exit → Act → World → Prop} {w : World} {base : Nat} {v : Value} {fs : List S3} {x0 x1 x2 : Int} (hown : OwnT w base v fs) (s y : Operand) (hg : o.guard = none)
    (ho : o.op = .call { callee := .builtin .append, args := #[s, y], argTypes := #[25, 25] }) (hs : a.eval s = v) (hx : a.eval y = .slice (some ⟨w.heap.size, 0, none⟩) 1 1)
    (hl : fs.length + 1 ≤ 1000) (hb : base ≤ w.heap.size)
    (h : ∀ v' w', OwnT w' base v' (fs ++ [(x0, x1, x2)]) → w.grownBy w' v.ownBlock → wpList Try.prog ops Q rest (a.put o.dst v') w') : wpList Try.prog ops Q (o :: rest) a (w.alloc (.cells #[.int .i64 x0, .int .i64 x1, .int .i64 x2] 44)) := by
  obtain ⟨i0, hi, hz0, hz1, hz2⟩ := info_parts step_info
  refine wpList_append_own _ hg s y 25 ho base 44 i0 _ 3 24 Try.underlying25 hi hz0 hz1 hz2 rfl (by decide) v fs.length (scells fs) hs (hown.alloc _) ⟨w.heap.size, 0, none⟩ 1 1 (scell (x0, x1, x2)) hx rfl ?_ ?_ (by unfold maxLen; omega) (by omega) (by simp; omega) ?_
  · intro j u hu
    rcases (show j = 0 ∨ j = 1 ∨ j = 2 ∨ 3 ≤ j by omega) with rfl | rfl | rfl | hj
    · simp [scell] at hu; subst hu; exact cell_at rfl rfl
    · simp [scell] at hu; subst hu; exact cell_at rfl rfl
    · simp [scell] at hu; subst hu; exact cell_at rfl rfl
    · rw [List.getElem?_eq_none (by simpa [scell] using hj)] at hu; cases hu
  · have := soneCells [(x0, x1, x2)]
    simpa [scells] using this
  · intro v' w' h1 h2 _
    refine h v' w' ?_ (grown_seq (World.grownBy_alloc w _ _) h2)
    unfold OwnT
    rw [List.length_append, scells_snoc]
    exact h1
/-- a step in a box of the draw's own -/
def Sx (wx : World) (g : Nat) : Prop := (∃ k a b : Int, 0 ≤ a ∧ a ≤ 10 ∧ wx.cell? ⟨g, 0, none⟩ = some (.int .i64 k) ∧ wx.cell? ⟨g, 1, none⟩ = some (.int .i64 a) ∧ wx.cell? ⟨g, 2, none⟩ = some (.int .i64 b)) ∧ ∀ i, wx.frozen? ⟨g, i, none⟩ = false
theorem Sx.made (w : World) (k a b : Int) (ha : 0 ≤ a ∧ a ≤ 10) (t : TypeId) : Sx (w.alloc (.cells #[.int .i64 k, .int .i64 a, .int .i64 b] t)) w.heap.size :=
  ⟨⟨k, a, b, ha.1, ha.2, cell_at rfl rfl, cell_at rfl rfl, cell_at rfl rfl⟩, fun i => frozen_of_row _ _ i _ t (heap_alloc_last _ _)⟩
theorem Sx.lt {wx : World} {g : Nat} (h : Sx wx g) : g < wx.heap.size := by obtain ⟨⟨k, a, b, _, _, h0, _⟩, _⟩ := h; exact World.block_lt_of_cell? _ _ h0
theorem Sx.grown {wx wy : World} {g : Nat} {row : Option Nat} (h : Sx wx g) (hg : wx.grownBy wy row) (hne : some g ≠ row) : Sx wy g := by
  have hl := h.lt
  obtain ⟨⟨k, a, b, h1, h2, h3, h4, h5⟩, hf⟩ := h
  exact ⟨⟨k, a, b, h1, h2, hg.cell h3 hne, hg.cell h4 hne, hg.cell h5 hne⟩, fun i => (hg.frozen_far ⟨g, i, none⟩ hl hne).trans (hf i)⟩
theorem Sx.set {wx : World} {g : Nat} (h : Sx wx g) (i : Nat) (hi : i = 0 ∨ i = 2) (z : Int) : Sx (wx.setCell ⟨g, i, none⟩ (.int .i64 z)) g := by
  obtain ⟨⟨k, a, b, h1, h2, h3, h4, h5⟩, hf⟩ := h
  rcases hi with rfl | rfl
  · exact ⟨⟨z, a, b, h1, h2, World.cell?_setCell_same _ _ _ h3, by rw [World.cell?_setCell_other _ _ _ _ (by simp)]; exact h4, by rw [World.cell?_setCell_other _ _ _ _ (by simp)]; exact h5⟩, fun j => (World.frozen?_setCell _ _ _ _).trans (hf j)⟩
  · exact ⟨⟨k, a, z, h1, h2, by rw [World.cell?_setCell_other _ _ _ _ (by simp)]; exact h3, by rw [World.cell?_setCell_other _ _ _ _ (by simp)]; exact h4, World.cell?_setCell_same _ _ _ h5⟩, fun j => (World.frozen?_setCell _ _ _ _).trans (hf j)⟩
theorem set1_grown (w : World) (g i : Nat) (v : Value) : w.grownBy (w.setCell ⟨g, i, none⟩ v) (some g) :=
  ⟨rfl, rfl, rfl, by simp [World.setCell], fun k _ hne => heap_setCell_other _ ⟨g, i, none⟩ k _ (fun e => hne (by simp [e]))⟩
/-- the draw under way -/
structure FSt (w : World) (R P : Nat) (v : Value) (n : Nat) (wx : World) : Prop where
  r : RG w R P wx
  own : ∃ fs, fs.length = n ∧ OwnT wx w.heap.size v fs
theorem FSt.pick {w wx wy : World} {R P Q n : Nat} {v : Value} (h : FSt w R P v n wx) (hr : RdB wy R Q) (hg : wx.grownBy wy (some R)) : FSt w R Q v n wy := by
  obtain ⟨fs, hl, ho⟩ := h.own
  exact ⟨h.r.pick hr hg, fs, hl, ho.kept hg (ho.ne h.r.lo)⟩
theorem FSt.alloc {w wx : World} {R P n : Nat} {v : Value} (h : FSt w R P v n wx) (o : Obj) : FSt w R P v n (wx.alloc o) := by
  obtain ⟨fs, hl, ho⟩ := h.own
  exact ⟨h.r.alloc o, fs, hl, ho.alloc o⟩
theorem FSt.drew {w wx : World} {R P n : Nat} {v : Value} (h : FSt w R P v n wx) : FSt w R P v n wx.drew := by
  obtain ⟨fs, hl, ho⟩ := h.own
  exact ⟨h.r.drew, fs, hl, ho⟩
theorem FSt.mono {w wx : World} {R P Q n : Nat} {v : Value} (h : FSt w R P v n wx) (hq : P ≤ Q) : FSt w R Q v n wx := ⟨h.r.mono hq, h.own⟩
/-- .. and the box of a step -/
structure FBt (w : World) (R P g : Nat) (v : Value) (n : Nat) (wx : World) : Prop where
  s : FSt w R P v n wx
  b : Sx wx g
  lo : w.heap.size ≤ g
  ne : v.ownBlock = none ∨ v.ownBlock ≠ some g
theorem FBt.new {w wx : World} {R P n : Nat} {v : Value} (h : FSt w R P v n wx) (k a b : Int) (ha : 0 ≤ a ∧ a ≤ 10) : FBt w R P wx.heap.size v n (wx.alloc (.cells #[.int .i64 k, .int .i64 a, .int .i64 b] 44)) :=
  ⟨h.alloc _, Sx.made wx k a b ha _, h.r.size, by obtain ⟨fs, _, ho⟩ := h.own; exact ho.ne' (Nat.le_refl _)⟩
theorem FBt.pick {w wx wy : World} {R P Q g n : Nat} {v : Value} (h : FBt w R P g v n wx) (hr : RdB wy R Q) (hg : wx.grownBy wy (some R)) : FBt w R Q g v n wy := by
  have := h.lo; have := h.s.r.lo
  exact ⟨h.s.pick hr hg, h.b.grown hg (by simp; omega), h.lo, h.ne⟩
theorem FBt.set {w wx : World} {R P g n : Nat} {v : Value} (h : FBt w R P g v n wx) (i : Nat) (hi : i = 0 ∨ i = 2) (z : Int) : FBt w R P g v n (wx.setCell ⟨g, i, none⟩ (.int .i64 z)) := by
  obtain ⟨fs, hl, ho⟩ := h.s.own
  have hg := set1_grown wx g i (.int .i64 z)
  have h1 := h.lo
  exact ⟨⟨h.s.r.step hg (by simpa using h1), fs, hl, ho.kept hg h.ne⟩, h.b.set i hi z, h.lo, h.ne⟩
theorem FBt.drew {w wx : World} {R P g n : Nat} {v : Value} (h : FBt w R P g v n wx) : FBt w R P g v n wx.drew := ⟨h.s.drew, h.b, h.lo, h.ne⟩
theorem FBt.mono {w wx : World} {R P Q g n : Nat} {v : Value} (h : FBt w R P g v n wx) (hq : P ≤ Q) : FBt w R Q g v n wx := ⟨h.s.mono hq, h.b, h.lo, h.ne⟩
/- some formula, mostly valid -/
def DrawnF (w : World) (R P : Nat) (e : Ending) (w' : World) : Prop := ∃ A n c fs, e = .returned (.slice A n c) ∧ n ≤ 3 ∧ SR w' A n fs ∧ RG w R P w'
structure JF (w : World) (R P g n : Nat) (u : Value) (m : Int) (L : Nat → Bool) (x36 x37 x38 x39 x40 x41 x42 x43 x44 x45 x46 : Value) (wx : World) : Prop where
  h0 : L 0 = true → x36 = .pointer (some ⟨g, 1, none⟩)
  h1 : L 1 = true → ∃ x : Int, x37 = .int .i64 x ∧ 0 ≤ x ∧ x ≤ 10
  h2 : L 2 = true → ∃ x : Int, x38 = .int .i64 x ∧ 0 ≤ x ∧ x ≤ 11
  h3 : L 3 = true → x39 = .pointer (some ⟨R, 0, none⟩)
  h4 : L 4 = true → x40 = .int .i64 m
  h5 : L 5 = true → x41 = .int .i64 (m - 1)
  h6 : L 6 = true → ∃ x : Int, x42 = .int .i64 x ∧ 0 ≤ x ∧ x ≤ 20
  h7 : L 7 = true → ∃ x : Int, x43 = .int .i64 x ∧ 0 ≤ x ∧ x ≤ 31
  h8 : L 8 = true → x44 = .int .i64 m
  h9 : L 9 = true → ∃ x : Int, x45 = .int .i64 x
  h10 : L 10 = true → x46 = .pointer (some ⟨g, 2, none⟩)
  s0 : L 6 = false → FBt w R P g u n wx
  s1 : FBt w R (P + 1) g u n wx
theorem JF.start {w : World} {R P g n : Nat} {u : Value} {m : Int} {wx : World} {x36 x37 x38 x39 x40 x41 x42 x43 x44 x45 x46 : Value} (hs : FBt w R P g u n wx) : JF w R P g n u m (fun _ => false) x36 x37 x38 x39 x40 x41 x42 x43 x44 x45 x46 wx :=
  ⟨(fun h => by cases h), (fun h => by cases h), (fun h => by cases h), (fun h => by cases h), (fun h => by cases h), (fun h => by cases h), (fun h => by cases h), (fun h => by cases h), (fun h => by cases h), (fun h => by cases h), (fun h => by cases h), fun _ => hs, hs.mono (by omega)⟩
theorem JF.p0 {w : World} {R P g n : Nat} {u : Value} {m : Int} {wx : World} {L : Nat → Bool} {x36 x37 x38 x39 x40 x41 x42 x43 x44 x45 x46 : Value} (h : JF w R P g n u m L x36 x37 x38 x39 x40 x41 x42 x43 x44 x45 x46 wx) {v : Value} (hv : v = .pointer (some ⟨g, 1, none⟩)) : JF w R P g n u m (upd L 0) v x37 x38 x39 x40 x41 x42 x43 x44 x45 x46 wx :=
  ⟨fun _ => hv, fun e => h.h1 (upd_ne e rfl), fun e => h.h2 (upd_ne e rfl), fun e => h.h3 (upd_ne e rfl), fun e => h.h4 (upd_ne e rfl), fun e => h.h5 (upd_ne e rfl), fun e => h.h6 (upd_ne e rfl), fun e => h.h7 (upd_ne e rfl), fun e => h.h8 (upd_ne e rfl), fun e => h.h9 (upd_ne e rfl), fun e => h.h10 (upd_ne e rfl), fun e => h.s0 (upd_f e), h.s1⟩
theorem JF.p1 {w : World} {R P g n : Nat} {u : Value} {m : Int} {wx : World} {L : Nat → Bool} {x36 x37 x38 x39 x40 x41 x42 x43 x44 x45 x46 : Value} (h : JF w R P g n u m L x36 x37 x38 x39 x40 x41 x42 x43 x44 x45 x46 wx) {v : Value} (hv : ∃ x : Int, v = .int .i64 x ∧ 0 ≤ x ∧ x ≤ 10) : JF w R P g n u m (upd L 1) x36 v x38 x39 x40 x41 x42 x43 x44 x45 x46 wx :=
  ⟨fun e => h.h0 (upd_ne e rfl), fun _ => hv, fun e => h.h2 (upd_ne e rfl), fun e => h.h3 (upd_ne e rfl), fun e => h.h4 (upd_ne e rfl), fun e => h.h5 (upd_ne e rfl), fun e => h.h6 (upd_ne e rfl), fun e => h.h7 (upd_ne e rfl), fun e => h.h8 (upd_ne e rfl), fun e => h.h9 (upd_ne e rfl), fun e => h.h10 (upd_ne e rfl), fun e => h.s0 (upd_f e), h.s1⟩
theorem JF.p2 {w : World} {R P g n : Nat} {u : Value} {m : Int} {wx : World} {L : Nat → Bool} {x36 x37 x38 x39 x40 x41 x42 x43 x44 x45 x46 : Value} (h : JF w R P g n u m L x36 x37 x38 x39 x40 x41 x42 x43 x44 x45 x46 wx) {v : Value} (hv : ∃ x : Int, v = .int .i64 x ∧ 0 ≤ x ∧ x ≤ 11) : JF w R P g n u m (upd L 2) x36 x37 v x39 x40 x41 x42 x43 x44 x45 x46 wx :=
  ⟨fun e => h.h0 (upd_ne e rfl), fun e => h.h1 (upd_ne e rfl), fun _ => hv, fun e => h.h3 (upd_ne e rfl), fun e => h.h4 (upd_ne e rfl), fun e => h.h5 (upd_ne e rfl), fun e => h.h6 (upd_ne e rfl), fun e => h.h7 (upd_ne e rfl), fun e => h.h8 (upd_ne e rfl), fun e => h.h9 (upd_ne e rfl), fun e => h.h10 (upd_ne e rfl), fun e => h.s0 (upd_f e), h.s1⟩
theorem JF.p3 {w : World} {R P g n : Nat} {u : Value} {m : Int} {wx : World} {L : Nat → Bool} {x36 x37 x38 x39 x40 x41 x42 x43 x44 x45 x46 : Value} (h : JF w R P g n u m L x36 x37 x38 x39 x40 x41 x42 x43 x44 x45 x46 wx) {v : Value} (hv : v = .pointer (some ⟨R, 0, none⟩)) : JF w R P g n u m (upd L 3) x36 x37 x38 v x40 x41 x42 x43 x44 x45 x46 wx :=
  ⟨fun e => h.h0 (upd_ne e rfl), fun e => h.h1 (upd_ne e rfl), fun e => h.h2 (upd_ne e rfl), fun _ => hv, fun e => h.h4 (upd_ne e rfl), fun e => h.h5 (upd_ne e rfl), fun e => h.h6 (upd_ne e rfl), fun e => h.h7 (upd_ne e rfl), fun e => h.h8 (upd_ne e rfl), fun e => h.h9 (upd_ne e rfl), fun e => h.h10 (upd_ne e rfl), fun e => h.s0 (upd_f e), h.s1⟩
theorem JF.p4 {w : World} {R P g n : Nat} {u : Value} {m : Int} {wx : World} {L : Nat → Bool} {x36 x37 x38 x39 x40 x41 x42 x43 x44 x45 x46 : Value} (h : JF w R P g n u m L x36 x37 x38 x39 x40 x41 x42 x43 x44 x45 x46 wx) {v : Value} (hv : v = .int .i64 m) : JF w R P g n u m (upd L 4) x36 x37 x38 x39 v x41 x42 x43 x44 x45 x46 wx :=
  ⟨fun e => h.h0 (upd_ne e rfl), fun e => h.h1 (upd_ne e rfl), fun e => h.h2 (upd_ne e rfl), fun e => h.h3 (upd_ne e rfl), fun _ => hv, fun e => h.h5 (upd_ne e rfl), fun e => h.h6 (upd_ne e rfl), fun e => h.h7 (upd_ne e rfl), fun e => h.h8 (upd_ne e rfl), fun e => h.h9 (upd_ne e rfl), fun e => h.h10 (upd_ne e rfl), fun e => h.s0 (upd_f e), h.s1⟩
theorem JF.p5 {w : World} {R P g n : Nat} {u : Value} {m : Int} {wx : World} {L : Nat → Bool} {x36 x37 x38 x39 x40 x41 x42 x43 x44 x45 x46 : Value} (h : JF w R P g n u m L x36 x37 x38 x39 x40 x41 x42 x43 x44 x45 x46 wx) {v : Value} (hv : v = .int .i64 (m - 1)) : JF w R P g n u m (upd L 5) x36 x37 x38 x39 x40 v x42 x43 x44 x45 x46 wx :=
  ⟨fun e => h.h0 (upd_ne e rfl), fun e => h.h1 (upd_ne e rfl), fun e => h.h2 (upd_ne e rfl), fun e => h.h3 (upd_ne e rfl), fun e => h.h4 (upd_ne e rfl), fun _ => hv, fun e => h.h6 (upd_ne e rfl), fun e => h.h7 (upd_ne e rfl), fun e => h.h8 (upd_ne e rfl), fun e => h.h9 (upd_ne e rfl), fun e => h.h10 (upd_ne e rfl), fun e => h.s0 (upd_f e), h.s1⟩
theorem JF.p7 {w : World} {R P g n : Nat} {u : Value} {m : Int} {wx : World} {L : Nat → Bool} {x36 x37 x38 x39 x40 x41 x42 x43 x44 x45 x46 : Value} (h : JF w R P g n u m L x36 x37 x38 x39 x40 x41 x42 x43 x44 x45 x46 wx) {v : Value} (hv : ∃ x : Int, v = .int .i64 x ∧ 0 ≤ x ∧ x ≤ 31) : JF w R P g n u m (upd L 7) x36 x37 x38 x39 x40 x41 x42 v x44 x45 x46 wx :=
  ⟨fun e => h.h0 (upd_ne e rfl), fun e => h.h1 (upd_ne e rfl), fun e => h.h2 (upd_ne e rfl), fun e => h.h3 (upd_ne e rfl), fun e => h.h4 (upd_ne e rfl), fun e => h.h5 (upd_ne e rfl), fun e => h.h6 (upd_ne e rfl), fun _ => hv, fun e => h.h8 (upd_ne e rfl), fun e => h.h9 (upd_ne e rfl), fun e => h.h10 (upd_ne e rfl), fun e => h.s0 (upd_f e), h.s1⟩
theorem JF.p8 {w : World} {R P g n : Nat} {u : Value} {m : Int} {wx : World} {L : Nat → Bool} {x36 x37 x38 x39 x40 x41 x42 x43 x44 x45 x46 : Value} (h : JF w R P g n u m L x36 x37 x38 x39 x40 x41 x42 x43 x44 x45 x46 wx) {v : Value} (hv : v = .int .i64 m) : JF w R P g n u m (upd L 8) x36 x37 x38 x39 x40 x41 x42 x43 v x45 x46 wx :=
  ⟨fun e => h.h0 (upd_ne e rfl), fun e => h.h1 (upd_ne e rfl), fun e => h.h2 (upd_ne e rfl), fun e => h.h3 (upd_ne e rfl), fun e => h.h4 (upd_ne e rfl), fun e => h.h5 (upd_ne e rfl), fun e => h.h6 (upd_ne e rfl), fun e => h.h7 (upd_ne e rfl), fun _ => hv, fun e => h.h9 (upd_ne e rfl), fun e => h.h10 (upd_ne e rfl), fun e => h.s0 (upd_f e), h.s1⟩
theorem JF.p9 {w : World} {R P g n : Nat} {u : Value} {m : Int} {wx : World} {L : Nat → Bool} {x36 x37 x38 x39 x40 x41 x42 x43 x44 x45 x46 : Value} (h : JF w R P g n u m L x36 x37 x38 x39 x40 x41 x42 x43 x44 x45 x46 wx) {v : Value} (hv : ∃ x : Int, v = .int .i64 x) : JF w R P g n u m (upd L 9) x36 x37 x38 x39 x40 x41 x42 x43 x44 v x46 wx :=
  ⟨fun e => h.h0 (upd_ne e rfl), fun e => h.h1 (upd_ne e rfl), fun e => h.h2 (upd_ne e rfl), fun e => h.h3 (upd_ne e rfl), fun e => h.h4 (upd_ne e rfl), fun e => h.h5 (upd_ne e rfl), fun e => h.h6 (upd_ne e rfl), fun e => h.h7 (upd_ne e rfl), fun e => h.h8 (upd_ne e rfl), fun _ => hv, fun e => h.h10 (upd_ne e rfl), fun e => h.s0 (upd_f e), h.s1⟩
theorem JF.p10 {w : World} {R P g n : Nat} {u : Value} {m : Int} {wx : World} {L : Nat → Bool} {x36 x37 x38 x39 x40 x41 x42 x43 x44 x45 x46 : Value} (h : JF w R P g n u m L x36 x37 x38 x39 x40 x41 x42 x43 x44 x45 x46 wx) {v : Value} (hv : v = .pointer (some ⟨g, 2, none⟩)) : JF w R P g n u m (upd L 10) x36 x37 x38 x39 x40 x41 x42 x43 x44 x45 v wx :=
  ⟨fun e => h.h0 (upd_ne e rfl), fun e => h.h1 (upd_ne e rfl), fun e => h.h2 (upd_ne e rfl), fun e => h.h3 (upd_ne e rfl), fun e => h.h4 (upd_ne e rfl), fun e => h.h5 (upd_ne e rfl), fun e => h.h6 (upd_ne e rfl), fun e => h.h7 (upd_ne e rfl), fun e => h.h8 (upd_ne e rfl), fun e => h.h9 (upd_ne e rfl), fun _ => hv, fun e => h.s0 (upd_f e), h.s1⟩
theorem JF.pick {w : World} {R P g n : Nat} {u : Value} {m : Int} {wx : World} {L : Nat → Bool} {x36 x37 x38 x39 x40 x41 x42 x43 x44 x45 x46 : Value} (h : JF w R P g n u m L x36 x37 x38 x39 x40 x41 x42 x43 x44 x45 x46 wx) (hL : L 6 = false) {t : Int} (ht : 0 ≤ t ∧ t ≤ 20) {wy : World} (hr : RdB wy R (P + 1)) (hg : wx.grownBy wy (some R)) : JF w R P g n u m (upd L 6) x36 x37 x38 x39 x40 x41 (.int .i64 t) x43 x44 x45 x46 wy := by
  exact ⟨fun e => h.h0 (upd_ne e rfl), fun e => h.h1 (upd_ne e rfl), fun e => h.h2 (upd_ne e rfl), fun e => h.h3 (upd_ne e rfl), fun e => h.h4 (upd_ne e rfl), fun e => h.h5 (upd_ne e rfl), fun _ => ⟨t, rfl, ht⟩, fun e => h.h7 (upd_ne e rfl), fun e => h.h8 (upd_ne e rfl), fun e => h.h9 (upd_ne e rfl), fun e => h.h10 (upd_ne e rfl), fun e => by simp [upd] at e, (h.s0 hL).pick hr hg⟩
theorem JF.put {w : World} {R P g n : Nat} {u : Value} {m : Int} {wx : World} {L : Nat → Bool} {x36 x37 x38 x39 x40 x41 x42 x43 x44 x45 x46 : Value} (h : JF w R P g n u m L x36 x37 x38 x39 x40 x41 x42 x43 x44 x45 x46 wx) (z : Int) : JF w R P g n u m (upd L 11) x36 x37 x38 x39 x40 x41 x42 x43 x44 x45 x46 (wx.setCell ⟨g, 2, none⟩ (.int .i64 z)) := by
  exact ⟨fun e => h.h0 (upd_ne e rfl), fun e => h.h1 (upd_ne e rfl), fun e => h.h2 (upd_ne e rfl), fun e => h.h3 (upd_ne e rfl), fun e => h.h4 (upd_ne e rfl), fun e => h.h5 (upd_ne e rfl), fun e => h.h6 (upd_ne e rfl), fun e => h.h7 (upd_ne e rfl), fun e => h.h8 (upd_ne e rfl), fun e => h.h9 (upd_ne e rfl), fun e => h.h10 (upd_ne e rfl), fun e => (h.s0 (upd_f e)).set 2 (.inr rfl) z, h.s1.set 2 (.inr rfl) z⟩
set_option maxRecDepth 100000 in
set_option maxHeartbeats 8000000 in
theorem l20FormOf_b (R p : Nat) (l M : Int) (w : World) (h : RdB w R p) (hp : p ≤ 80000) (hl : 0 ≤ l ∧ l ≤ 4) (hM : 1 ≤ M ∧ M ≤ 1000) :
    Calls Try.prog 45 #[.pointer (some ⟨R, 0, none⟩), .int .i64 l, .int .i64 M] w (DrawnF w R (p + 400)) := by
  have S0 : Hid (FSt w R p (.slice (some ⟨w.heap.size, 0, none⟩) 0 0) 0 (w.alloc (.cells #[] 44))) := ⟨(RG.start h).alloc _, [], rfl, OwnT.nil0 w _ (Nat.le_refl _)⟩
  obtain ⟨hM0, hM1⟩ := hM
  obtain ⟨hl0, hl1⟩ := hl
  obtain ⟨lm, hlm⟩ : ∃ lm, max l 1 = lm := ⟨_, rfl⟩
  have hlm1 : 1 ≤ lm ∧ lm ≤ 4 := by omega
  obtain ⟨hlm1, hlm4⟩ := hlm1
  clear h
  go_enter Try.func45, Try.ntmps45
  go_wp2_with fail
  refine (pick_b R p _ _ S0.out.r.rd (by omega) (by omega)).mono ?_
  rintro e w1 ⟨r, rfl, a1, b1, _, hr, hg⟩
  have c1 := b1 (by omega)
  obtain ⟨K, rfl⟩ := Int.eq_ofNat_of_zero_le a1
  have hK : K ≤ 2 := by omega
  have S1 := hide (S0.out.pick hr hg)
  clear hr hg b1 a1 c1
  go_wp2_with fail
  go_loopw [7, 8] (fun vv kv wr => ∃ (A : Option Addr) (c j q : Nat), vv = .slice A j c ∧ kv = .int .i64 (q : Nat) ∧ j + q = K + 1 ∧ Hid (FSt w R (p + 1 + 4 * j) (.slice A j c) j wr)) (fun _ kv _ => (intOf kv).toNat)
  case atStart => exact ⟨_, 0, 0, K + 1, rfl, by go_num, by omega, S1.out⟩
  case round =>
    obtain ⟨A, c, j, q, rfl, rfl, hjq, HS⟩ := hrel
    by_cases hq0 : 0 < q
    · go_wp2_with fail
      refine (pick_b R _ _ _ HS.out.r.rd (by omega) (by omega)).mono ?_
      rintro e w2 ⟨r1, rfl, a1, b1, _, hr, hg⟩
      have S2 := hide (HS.out.pick hr hg)
      have c1 := b1 (by omega)
      clear hr hg b1
      go_wp2_with fail
      refine (pick_b R _ _ _ S2.out.r.rd (by omega) (by omega)).mono ?_
      rintro e w3 ⟨r2, rfl, a2, b2, _, hr, hg⟩
      have S3 := hide (S2.out.pick hr hg)
      have c2 := b2 (by omega)
      have F3 := hide (FBt.new (S2.out.pick hr hg) r1 r2 0 ⟨a2, by omega⟩)
      clear hr hg b2
      go_upto_region 7 with fail
      refine wp_named fun w4 hw4 => ?_
      rw [hw4] at F3
      clear hw4
      go_upto_if 31 with fail
      go_cut [] from 30 to 32 (fun wx => Hid (FBt w R (p + 1 + 4 * j + 2) w3.heap.size (.slice A j c) j wx))
      case first =>
        obtain ⟨⟨k0, a0, b0, ha0, ha1, y0, y1, y2⟩, hfz⟩ := F3.out.b
        by_cases hm : lm + (j : Int) < 2
        · go_wp2_with fail
          go_meet
          exact hide (F3.out.set 0 (.inl rfl) 3)
        · go_wp2_with fail
          go_meet
          exact F3
      case rest =>
      have F4 := hcut
      clear hcut F3 S1 S2 S3
      obtain ⟨⟨k0, a0, b0, ha0, ha1, y0, y1, y2⟩, hfz⟩ := F4.out.b
      go_upto_if 35 with fail
      go_cut [] from 33 to 46 (fun wx => Hid (FBt w R (p + 1 + 4 * j + 3) w3.heap.size (.slice A j c) j wx))
      case first =>
        by_cases hk3 : k0 = 3
        · subst hk3
          go_wp2_with fail
          go_meet
          exact hide (F4.out.mono (by omega))
        · have e3 : (k0 != 3) = true := by simpa using hk3
          clear hk3
          go_upto_region 10 with fail
          try rw [e3]
          clear e3
          refine wp_frame fun a0 ha0 => ?_
          have HA := Lib.hid ha0
          clear ha0
          refine wp_region_inv (fun L a wx => ∃ x36 x37 x38 x39 x40 x41 x42 x43 x44 x45 x46, a = putL a0 [(36, x36), (37, x37), (38, x38), (39, x39), (40, x40), (41, x41), (42, x42), (43, x43), (44, x44), (45, x45), (46, x46)] ∧ Hid (JF w R (p + 1 + 4 * j + 2) w3.heap.size j (.slice A j c) (lm + (j : Int)) L x36 x37 x38 x39 x40 x41 x42 x43 x44 x45 x46 wx)) (by kernel_rfl) (by kernel_rfl) ?_ ?_ ?_
          · exact ⟨_, _, _, _, _, _, _, _, _, _, _, putL_self a0 [36, 37, 38, 39, 40, 41, 42, 43, 44, 45, 46], hide (JF.start (F4.out.drew))⟩
          · refine ⟨?_, ?_, ?_, ?_, ?_, ?_, ?_, ?_, ?_, ?_, ?_, ?_, trivial⟩
            · intro L a wx hL0 hd
              rintro ⟨x36, x37, x38, x39, x40, x41, x42, x43, x44, x45, x46, rfl, HJ⟩
              have hD := hd
              try simp [deps, Region.binds] at hD
              clear hD hd
              rw [← HA.out]
              simp only [putL, List.setIfInBounds_toArray, List.set_cons_succ, List.set_cons_zero]
              go_wp2_with fail
              refine ⟨_, _, _, _, _, _, _, _, _, _, _, ?_, hide (HJ.out.p0 rfl)⟩
              · try rw [← HA.out]
                try simp only [putL, List.setIfInBounds_toArray, List.set_cons_succ, List.set_cons_zero]
            · intro L a wx hL0 hd
              rintro ⟨x36, x37, x38, x39, x40, x41, x42, x43, x44, x45, x46, rfl, HJ⟩
              have hD := hd
              try simp [deps, Region.binds] at hD
              obtain rfl := HJ.out.h0 (by simp [hD])
              obtain ⟨⟨k0, a0, b0, ha0, ha1, y0, y1, y2⟩, _⟩ := HJ.out.s1.b
              clear hD hd
              rw [← HA.out]
              simp only [putL, List.setIfInBounds_toArray, List.set_cons_succ, List.set_cons_zero]
              go_wp2_with fail
              refine ⟨_, _, _, _, _, _, _, _, _, _, _, ?_, hide (HJ.out.p1 ⟨a0, rfl, ha0, ha1⟩)⟩
              · try rw [← HA.out]
                try simp only [putL, List.setIfInBounds_toArray, List.set_cons_succ, List.set_cons_zero]
            · intro L a wx hL0 hd
              rintro ⟨x36, x37, x38, x39, x40, x41, x42, x43, x44, x45, x46, rfl, HJ⟩
              have hD := hd
              try simp [deps, Region.binds] at hD
              obtain ⟨x, rfl, x1, x2⟩ := HJ.out.h1 (by simp [hD])
              clear hD hd
              rw [← HA.out]
              simp only [putL, List.setIfInBounds_toArray, List.set_cons_succ, List.set_cons_zero]
              go_wp2_with fail
              refine ⟨_, _, _, _, _, _, _, _, _, _, _, ?_, hide (HJ.out.p2 ⟨x + 1, rfl, by omega, by omega⟩)⟩
              · try rw [← HA.out]
                try simp only [putL, List.setIfInBounds_toArray, List.set_cons_succ, List.set_cons_zero]
            · intro L a wx hL0 hd
              rintro ⟨x36, x37, x38, x39, x40, x41, x42, x43, x44, x45, x46, rfl, HJ⟩
              have hD := hd
              try simp [deps, Region.binds] at hD
              clear hD hd
              rw [← HA.out]
              simp only [putL, List.setIfInBounds_toArray, List.set_cons_succ, List.set_cons_zero]
              go_wp2_with fail
              refine ⟨_, _, _, _, _, _, _, _, _, _, _, ?_, hide (HJ.out.p3 rfl)⟩
              · try rw [← HA.out]
                try simp only [putL, List.setIfInBounds_toArray, List.set_cons_succ, List.set_cons_zero]
            · intro L a wx hL0 hd
              rintro ⟨x36, x37, x38, x39, x40, x41, x42, x43, x44, x45, x46, rfl, HJ⟩
              have hD := hd
              try simp [deps, Region.binds] at hD
              clear hD hd
              rw [← HA.out]
              simp only [putL, List.setIfInBounds_toArray, List.set_cons_succ, List.set_cons_zero]
              go_wp2_with fail
              refine ⟨_, _, _, _, _, _, _, _, _, _, _, ?_, hide (HJ.out.p4 rfl)⟩
              · try rw [← HA.out]
                try simp only [putL, List.setIfInBounds_toArray, List.set_cons_succ, List.set_cons_zero]
            · intro L a wx hL0 hd
              rintro ⟨x36, x37, x38, x39, x40, x41, x42, x43, x44, x45, x46, rfl, HJ⟩
              have hD := hd
              try simp [deps, Region.binds] at hD
              obtain rfl := HJ.out.h4 (by simp [hD])
              clear hD hd
              rw [← HA.out]
              simp only [putL, List.setIfInBounds_toArray, List.set_cons_succ, List.set_cons_zero]
              go_wp2_with fail
              refine ⟨_, _, _, _, _, _, _, _, _, _, _, ?_, hide (HJ.out.p5 rfl)⟩
              · try rw [← HA.out]
                try simp only [putL, List.setIfInBounds_toArray, List.set_cons_succ, List.set_cons_zero]
            · intro L a wx hL0 hd
              rintro ⟨x36, x37, x38, x39, x40, x41, x42, x43, x44, x45, x46, rfl, HJ⟩
              have hD := hd
              try simp [deps, Region.binds] at hD
              obtain rfl := HJ.out.h3 (by simp [hD])
              obtain rfl := HJ.out.h5 (by simp [hD])
              clear hD hd
              rw [← HA.out]
              simp only [putL, List.setIfInBounds_toArray, List.set_cons_succ, List.set_cons_zero]
              go_wp2_with fail
              refine (pick_b R _ _ _ (HJ.out.s0 hL0).s.r.rd (by omega) (by omega)).mono ?_
              rintro e w8 ⟨r, rfl, r1, r2, r3, hr, hg⟩
              have HJ2 := hide (HJ.out.pick hL0 (t := r) ⟨r1, by rcases (show 1 ≤ lm + (j : Int) - 1 ∨ lm + (j : Int) - 1 < 1 by omega) with h | h; (· have := r2 h; omega); (· have := r3 h; omega)⟩ hr hg)
              clear hr hg r1 r2 r3
              go_wp2_with fail
              refine ⟨_, _, _, _, _, _, _, _, _, _, _, ?_, hide (HJ2.out)⟩
              · try rw [← HA.out]
                try simp only [putL, List.setIfInBounds_toArray, List.set_cons_succ, List.set_cons_zero]
            · intro L a wx hL0 hd
              rintro ⟨x36, x37, x38, x39, x40, x41, x42, x43, x44, x45, x46, rfl, HJ⟩
              have hD := hd
              try simp [deps, Region.binds] at hD
              obtain ⟨x, rfl, x1, x2⟩ := HJ.out.h2 (by simp [hD])
              obtain ⟨y, rfl, y1, y2⟩ := HJ.out.h6 (by simp [hD])
              clear hD hd
              rw [← HA.out]
              simp only [putL, List.setIfInBounds_toArray, List.set_cons_succ, List.set_cons_zero]
              go_wp2_with fail
              refine ⟨_, _, _, _, _, _, _, _, _, _, _, ?_, hide (HJ.out.p7 ⟨x + y, rfl, by omega, by omega⟩)⟩
              · try rw [← HA.out]
                try simp only [putL, List.setIfInBounds_toArray, List.set_cons_succ, List.set_cons_zero]
            · intro L a wx hL0 hd
              rintro ⟨x36, x37, x38, x39, x40, x41, x42, x43, x44, x45, x46, rfl, HJ⟩
              have hD := hd
              try simp [deps, Region.binds] at hD
              clear hD hd
              rw [← HA.out]
              simp only [putL, List.setIfInBounds_toArray, List.set_cons_succ, List.set_cons_zero]
              go_wp2_with fail
              refine ⟨_, _, _, _, _, _, _, _, _, _, _, ?_, hide (HJ.out.p8 rfl)⟩
              · try rw [← HA.out]
                try simp only [putL, List.setIfInBounds_toArray, List.set_cons_succ, List.set_cons_zero]
            · intro L a wx hL0 hd
              rintro ⟨x36, x37, x38, x39, x40, x41, x42, x43, x44, x45, x46, rfl, HJ⟩
              have hD := hd
              try simp [deps, Region.binds] at hD
              obtain ⟨x, rfl, x1, x2⟩ := HJ.out.h7 (by simp [hD])
              obtain rfl := HJ.out.h8 (by simp [hD])
              clear hD hd
              rw [← HA.out]
              simp only [putL, List.setIfInBounds_toArray, List.set_cons_succ, List.set_cons_zero]
              go_wp2_with fail
              refine ⟨_, _, _, _, _, _, _, _, _, _, _, ?_, hide (HJ.out.p9 (v := .int .i64 (x % (lm + (j : Int)))) ⟨_, rfl⟩)⟩
              · try rw [← HA.out]
                try simp only [putL, List.setIfInBounds_toArray, List.set_cons_succ, List.set_cons_zero]
            · intro L a wx hL0 hd
              rintro ⟨x36, x37, x38, x39, x40, x41, x42, x43, x44, x45, x46, rfl, HJ⟩
              have hD := hd
              try simp [deps, Region.binds] at hD
              clear hD hd
              rw [← HA.out]
              simp only [putL, List.setIfInBounds_toArray, List.set_cons_succ, List.set_cons_zero]
              go_wp2_with fail
              refine ⟨_, _, _, _, _, _, _, _, _, _, _, ?_, hide (HJ.out.p10 rfl)⟩
              · try rw [← HA.out]
                try simp only [putL, List.setIfInBounds_toArray, List.set_cons_succ, List.set_cons_zero]
            · intro L a wx hL0 hd
              rintro ⟨x36, x37, x38, x39, x40, x41, x42, x43, x44, x45, x46, rfl, HJ⟩
              have hD := hd
              try simp [deps, Region.binds] at hD
              obtain ⟨x, rfl⟩ := HJ.out.h9 (by simp [hD])
              obtain rfl := HJ.out.h10 (by simp [hD])
              obtain ⟨⟨k0, a0, b0, ha0, ha1, y0, y1, y2⟩, hfz⟩ := HJ.out.s1.b
              clear hD hd
              rw [← HA.out]
              simp only [putL, List.setIfInBounds_toArray, List.set_cons_succ, List.set_cons_zero]
              go_wp2_with fail
              refine ⟨_, _, _, _, _, _, _, _, _, _, _, ?_, hide (HJ.out.put x)⟩
              · try rw [← HA.out]
                try simp only [putL, List.setIfInBounds_toArray, List.set_cons_succ, List.set_cons_zero]
          · intro L a wx hall
            rintro ⟨x36, x37, x38, x39, x40, x41, x42, x43, x44, x45, x46, rfl, HJ⟩
            rw [← HA.out]
            simp only [putL, List.setIfInBounds_toArray, List.set_cons_succ, List.set_cons_zero]
            have HE := hide HJ.out.s1
            go_wp2_with fail
            go_meet
            exact HE
      case rest =>
        have F5 := hcut
        clear y0 y1 y2 hfz ha0 ha1
        obtain ⟨⟨k0, a0, b0, ha0, ha1, y0, y1, y2⟩, hfz⟩ := F5.out.b
        obtain ⟨fs, hfl, ho⟩ := F5.out.s.own
        have HO := hide ho
        have HFL := Lib.hid hfl
        clear ho hfl hcut F4 HS
        go_wp2_with (at_builtin; refine wpList_appendS1 (x0 := k0) (x1 := a0) (x2 := b0) HO.out (.tmp 47) (.tmp 49) rfl rfl rfl rfl (by rw [HFL.out]; omega) F5.out.s.r.size ?_; intro v6 w6 ho6 hg6; obtain ⟨A6, c6, hv6⟩ := ho6.slice; rw [List.length_append, HFL.out] at hv6; subst hv6; have S6 := hide (show FSt w R (p + 1 + 4 * (j + 1)) (.slice A6 (j + 1) c6) (j + 1) w6 from ⟨(F5.out.s.r.step hg6 (fun x hx => (HO.out.lt x hx).1)).mono (by omega), _, by rw [List.length_append, HFL.out]; rfl, ho6⟩); clear ho6 hg6)
        go_roundw
        case rel => exact ⟨A6, c6, j + 1, q - 1, rfl, by go_num, by omega, S6.out⟩
        case measure => simp [intOf]; omega
    · obtain rfl : q = 0 := by omega
      obtain rfl : j = K + 1 := by omega
      obtain ⟨fs, hfl, ho⟩ := HS.out.own
      rcases ho.ints with ⟨_, h0⟩ | ⟨g, c', hv, hgb, hints⟩
      · rw [h0] at hfl; cases hfl
      · rw [hfl] at hv hints
        simp only [Value.slice.injEq, true_and] at hv
        obtain ⟨rfl, rfl⟩ := hv
        have HI := hide hints
        have HRr := hide HS.out.r
        clear ho hfl hints HS S1
        go_wp2_with fail
        refine (odd_b R _ M _ HRr.out.rd (by omega) ⟨by omega, by omega⟩).mono ?_
        rintro e w2 ⟨bo, rfl, hr, hg⟩
        have R2 := hide (HRr.out.pick hr hg)
        have I2 := hide (show Ints3 w2 g (K + 1) from HI.out.grown hg (by have := HRr.out.lo; simp; omega))
        clear hr hg
        cases bo
        · obtain ⟨fs2, hsr⟩ := I2.out.sr (by omega)
          have HSR := hide hsr
          clear hsr
          go_wp2_with fail
          go_ret
          exact ⟨_, _, _, fs2, rfl, by omega, HSR.out, R2.out.mono (by omega)⟩
        · go_wp2_with fail
          refine (pick_b R _ 4 _ R2.out.rd (by omega) (by omega)).mono ?_
          rintro e w3 ⟨r, rfl, a3, b3, _, hr, hg⟩
          have c3 := b3 (by omega)
          have R3 := hide (R2.out.pick hr hg)
          have I3 := hide (I2.out.grown hg (by have := R2.out.lo; simp; omega))
          clear hr hg b3
          obtain ⟨z0, y0⟩ := I3.out.cell (i := 0) (by omega)
          obtain ⟨z1, y1⟩ := I3.out.cell (i := 1) (by omega)
          obtain ⟨z2, y2⟩ := I3.out.cell (i := 2) (by omega)
          have f0 := fun i => I3.out.frozen i
          have hK1 : 0 < K + 1 := by omega
          have hset3 : ∀ x y z : Int, Hid (DrawnF w R (p + 400) (.returned (.slice (some ⟨g, 0, none⟩) (K + 1) c)) (((w3.setCell ⟨g, 0, none⟩ (.int .i64 x)).setCell ⟨g, 1, none⟩ (.int .i64 y)).setCell ⟨g, 2, none⟩ (.int .i64 z))) := fun x y z => by
            obtain ⟨fs2, hsr⟩ := (((I3.out.set 0 x).set 1 y).set 2 z).sr (by omega)
            exact ⟨_, _, _, fs2, rfl, by omega, hsr, (((R3.out.step (set1_grown _ g 0 _) (by simpa using hgb)).step (set1_grown _ g 1 _) (by simpa using hgb)).step (set1_grown _ g 2 _) (by simpa using hgb)).mono (by omega)⟩
          rcases (show r = 0 ∨ r = 1 ∨ r = 2 ∨ r = 3 by omega) with rfl | rfl | rfl | rfl
          · go_wp2_with fail
            go_ret
            exact ⟨_, 0, _, [], rfl, by omega, ⟨rfl, by omega, fun h => absurd h (by omega)⟩, (R3.out.alloc _).mono (by omega)⟩
          · obtain ⟨fs2, hsr⟩ := (I3.out.set 1 lm).sr (by omega)
            have HSR := hide hsr
            clear hsr
            go_wp2_with fail
            go_ret
            exact ⟨_, _, _, fs2, rfl, by omega, HSR.out, (R3.out.step (set1_grown _ g 1 _) (by simpa using hgb)).mono (by omega)⟩
          · go_wp2_with fail
            go_ret
            exact (hset3 0 0 0).out
          · go_wp2_with fail
            go_ret
            exact (hset3 3 0 1).out
set_option maxHeartbeats 1000000 in
theorem l20Inputs_b (R p : Nat) (M : Int) (w : World) (h : RdB w R p) (hp : p ≤ 80000) (hM : 1 ≤ M ∧ M ≤ 1000) :
    Calls Try.prog 44 #[.pointer (some ⟨R, 0, none⟩), .int .i64 M] w fun e w' => ∃ x : Int, e = .returned (.int .i64 x) ∧ 0 ≤ x ∧ x ≤ 4 ∧ RG w R (p + 2) w' := by
  have R0 := hide (RG.start h)
  obtain ⟨hM0, hM1⟩ := hM
  clear h
  go_enter Try.func44, Try.ntmps44
  go_wp2_with fail
  refine (odd_b R _ M _ R0.out.rd (by omega) ⟨by omega, by omega⟩).mono ?_
  rintro e w1 ⟨bo, rfl, hr, hg⟩
  have R1 := hide (R0.out.pick hr hg)
  clear hr hg
  cases bo
  · go_wp2_with fail
    refine (pick_b R _ 3 _ R1.out.rd (by omega) (by omega)).mono ?_
    rintro e w2 ⟨r, rfl, a2, b2, _, hr, hg⟩
    have c2 := b2 (by omega)
    have R2 := hide (R1.out.pick hr hg)
    clear hr hg b2
    go_wp2_with fail
    go_ret
    exact ⟨_, rfl, by omega, by omega, R2.out⟩
  · have R1' := hide (R1.out.alloc (.cells #[.int .i64 0, .int .i64 4] 3))
    go_wp2_with fail
    refine (pick_b R _ 2 _ R1'.out.rd (by omega) (by omega)).mono ?_
    rintro e w2 ⟨r, rfl, a2, b2, _, hr, hg⟩
    have c2 := b2 (by omega)
    have R2 := hide (R1'.out.pick hr hg)
    have hltw := R1.out.size
    have hlo := R1.out.lo
    have ya : w2.cell? ⟨w1.heap.size, 0, none⟩ = some (.int .i64 0) := hg.cell (cell_at rfl rfl) (by simp; omega)
    have yb : w2.cell? ⟨w1.heap.size, 1, none⟩ = some (.int .i64 4) := hg.cell (cell_at rfl rfl) (by simp; omega)
    clear hr hg b2
    rcases (show r = 0 ∨ r = 1 by omega) with rfl | rfl
    all_goals
      go_wp2_with fail
      go_ret
      exact ⟨_, rfl, by omega, by omega, R2.out⟩
/- some inputs and some formula, from a code -/
def FreshF (w : World) (e : Ending) (w' : World) : Prop := (∃ (i : Int) (A : Option Addr) (n c : Nat) (fs : List S3), e = .returned (.tuple #[.int .i64 i, .slice A n c]) ∧ 0 ≤ i ∧ i ≤ 4 ∧ n ≤ 3 ∧ SR w' A n fs) ∧ Below w.heap.size w w'
set_option maxHeartbeats 1000000 in
theorem l20Form_b (R p : Nat) (w : World) (h : RdB w R p) (hp : p ≤ 70000) :
    Calls Try.prog 33 #[.pointer (some ⟨R, 0, none⟩), .int .i64 9] w fun e w' => (∃ (i : Int) (A : Option Addr) (n c : Nat) (fs : List S3), e = .returned (.tuple #[.int .i64 i, .slice A n c]) ∧ 0 ≤ i ∧ i ≤ 4 ∧ n ≤ 3 ∧ SR w' A n fs) ∧ w.grownBy w' (some R) := by
  have H := hide h
  clear h
  go_enter Try.func33, Try.ntmps33
  go_wp2_with fail
  refine (l20Inputs_b R p 18 _ H.out (by omega) (by omega)).mono ?_
  rintro e w1 ⟨x, rfl, x0, x4, hrg⟩
  have R1 := hide hrg
  clear hrg
  go_wp2_with fail
  refine (l20FormOf_b R (p + 2) x 18 _ R1.out.rd (by omega) ⟨x0, x4⟩ (by omega)).mono ?_
  rintro e w2 ⟨A, n, c, fs, rfl, hn, hsr, hrg⟩
  have HSR := hide hsr
  have HG := hide (grown_seq R1.out.gr hrg.gr)
  clear hsr hrg
  go_wp2_with fail
  exact bodyPost_ret (v := .tuple #[.int .i64 x, .slice A n c]) (by simp [results, Try.results33, go_sem]) rfl ⟨⟨x, A, n, c, fs, rfl, x0, x4, hn, HSR.out⟩, HG.out⟩
set_option maxHeartbeats 1000000 in
theorem drawLeftOver_b (A : Option Addr) (n c : Nat) (zs : List Int) (w : World) (h : IRk .u8 w A n zs) (hz : ∀ z ∈ zs, (Lit.int .u8 z).wf = true) (hc : n ≤ c) :
    Calls Try.prog 20 #[.slice A n c] w (FreshF w) := by
  have H := hide h
  have HZ := hide hz
  clear h hz
  go_enter Try.func20, Try.ntmps20
  go_wp2_with fail
  refine (open_b A n c zs _ H.out HZ.out hc).mono ?_
  rintro e w1 ⟨R, rfl, hR, hr, hb⟩
  have H1 := hide hr
  have B1 := hide hb
  clear hr hb
  go_wp2_with fail
  refine (l20Form_b R 0 _ H1.out (by omega)).mono ?_
  rintro e w2 ⟨⟨i, A2, n2, c2, fs, rfl, i0, i4, hn, hsr⟩, hg⟩
  have HSR := hide hsr
  have B2 := hide (B1.out.grown hg B1.out.size (by simp; omega))
  clear hsr hg
  go_wp2_with fail
  exact bodyPost_ret (v := .tuple #[.int .i64 i, .slice A2 n2 c2]) (by simp [results, Try.results20, go_sem]) rfl ⟨⟨i, A2, n2, c2, fs, rfl, i0, i4, hn, HSR.out⟩, B2.out⟩
end Go.Proofs.Ytpklpebngholcaa
