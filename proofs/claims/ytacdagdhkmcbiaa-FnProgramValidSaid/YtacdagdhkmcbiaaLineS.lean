/-
  Slices of statements: four numbers each.
  No condition.
-/
import Derived.Lib.AppendZeros
import Derived.Test.YtacdagdhkmcbiaaLines
import Derived.Test.YtacdagdhkmcbiaaSLines
namespace Go.Proofs.Ytacdagdhkmcbiaa
open Go.RowKit Go.Sort base
abbrev G4 := Int × Int × Int × Int
def gth (gs : List G4) (i : Nat) : G4 := gs.getD i (0, 0, 0, 0)
theorem gth_lt {gs : List G4} {k : Nat} (h : k < gs.length) : gth gs k = gs[k] := by simp [gth, h]
theorem take_succ_gth {gs : List G4} {k : Nat} (h : k < gs.length) : gs.take (k + 1) = gs.take k ++ [gth gs k] := by
  rw [List.take_succ_eq_append_getElem h, gth_lt h]
theorem gth_mem {gs : List G4} {k : Nat} (h : k < gs.length) : gth gs k ∈ gs := by rw [gth_lt h]; exact List.getElem_mem h
/-- a gate that lies at a place of a block -/
def GAt (w : World) (b q : Nat) (g : G4) : Prop :=
  w.cell? ⟨b, q, none⟩ = some (.int .i64 g.1) ∧ w.cell? ⟨b, q + 1, none⟩ = some (.int .i64 g.2.1) ∧ w.cell? ⟨b, q + 2, none⟩ = some (.int .i64 g.2.2.1) ∧ w.cell? ⟨b, q + 3, none⟩ = some (.int .i64 g.2.2.2)
/-- A slice '.slice A n c' reads as the gates gs: nil, empty or not. -/
structure GR (w : World) (A : Option Addr) (n : Nat) (gs : List G4) : Prop where
  len : gs.length = n
  max : n ≤ 9223372036854775807
  at_ : 0 < n → ∃ b o, A = some ⟨b, o, none⟩ ∧ b < w.heap.size ∧ ∀ i, i < n → GAt w b (o + i * 4) (gth gs i)
theorem GR.keep {w w' : World} {A : Option Addr} {n : Nat} {gs : List G4} (h : GR w A n gs) (hs : w.heap.size ≤ w'.heap.size) (hk : ∀ p : Addr, p.block < w.heap.size → w'.cell? p = w.cell? p) : GR w' A n gs :=
  ⟨h.len, h.max, fun hn => by
    obtain ⟨b, o, e, hb, hc⟩ := h.at_ hn
    exact ⟨b, o, e, by omega, fun i hi => ⟨(hk _ hb).trans (hc i hi).1, (hk _ hb).trans (hc i hi).2.1, (hk _ hb).trans (hc i hi).2.2.1, (hk _ hb).trans (hc i hi).2.2.2⟩⟩⟩
theorem GR.below {w w' : World} {A : Option Addr} {n : Nat} {gs : List G4} (h : GR w A n gs) (hb : Below w.heap.size w w') : GR w' A n gs := h.keep hb.size fun _ hp => hb.cell hp
def gcell (g : G4) : List Value := [.int .i64 g.1, .int .i64 g.2.1, .int .i64 g.2.2.1, .int .i64 g.2.2.2]
def gcells (gs : List G4) : List Value := gs.flatMap gcell
theorem gcells_len (gs : List G4) : (gcells gs).length = gs.length * 4 := by
  induction gs with
  | nil => rfl
  | cons g gs ih => simp only [gcells, List.flatMap_cons, List.length_append, List.length_cons] at ih ⊢; rw [ih]; simp [gcell]; omega
theorem gcells_snoc (gs : List G4) (g : G4) : gcells (gs ++ [g]) = gcells gs ++ gcell g := by simp [gcells]
theorem gcells_at : ∀ (gs : List G4) (i r : Nat), i < gs.length → r < 4 → (gcells gs)[i * 4 + r]? = (gcell (gth gs i))[r]?
  | [], i, r, h, _ => by simp at h
  | g :: gs, 0, r, _, hr => by
    simp only [gcells, List.flatMap_cons, Nat.zero_mul, Nat.zero_add]
    rw [List.getElem?_append_left (by simpa [gcell] using hr)]
    rfl
  | g :: gs, i + 1, r, h, hr => by
    have ih := gcells_at gs i r (by simpa using h) hr
    simp only [gcells, List.flatMap_cons] at ih ⊢
    rw [List.getElem?_append_right (by simp [gcell]; omega), show (i + 1) * 4 + r - (gcell g).length = i * 4 + r by simp [gcell]; omega, ih]
    rfl
theorem oneCells (gs : List G4) : ∀ u ∈ gcells gs, u.oneCell' = true := by
  intro u hu
  simp only [gcells, gcell, List.mem_flatMap, List.mem_cons, List.not_mem_nil, or_false] at hu
  obtain ⟨g, _, rfl | rfl | rfl | rfl⟩ := hu <;> rfl
/-- a slice of gates of the call's own -/
def OwnG (w : World) (base : Nat) (v : Value) (gs : List G4) : Prop := w.ownsRow base 32 4 v gs.length (gcells gs)
section
variable {w w' : World} {base : Nat} {v : Value} {gs : List G4} {row : Option Nat}
theorem OwnG.form (h : OwnG w base v gs) : (v = .slice none 0 0 ∧ gs = []) ∨ ∃ g c, v = .slice (some ⟨g, 0, none⟩) gs.length c ∧ base ≤ g ∧ g < w.heap.size ∧ gs.length ≤ c ∧ c ≤ maxLen := by
  rcases h.2 with ⟨rfl, h0⟩ | ⟨g, cap, cur, rfl, hb, hg, hn, hm, _⟩
  · exact .inl ⟨rfl, List.eq_nil_of_length_eq_zero h0⟩
  · exact .inr ⟨g, cap, rfl, hb, (Array.getElem?_eq_some_iff.1 hg).1, hn, hm⟩
theorem OwnG.at_ {g c : Nat} (h : OwnG w base (.slice (some ⟨g, 0, none⟩) gs.length c) gs) (i : Nat) (hi : i < gs.length) : GAt w g (i * 4) (gth gs i) := by
  have hl := gcells_len gs
  refine ⟨?_, ?_, ?_, ?_⟩
  · have := World.ownsRow.cellAt h (i * 4) (by omega); rw [this]; have := gcells_at gs i 0 hi (by omega); simpa [gcell] using this
  · have := World.ownsRow.cellAt h (i * 4 + 1) (by omega); rw [this]; have := gcells_at gs i 1 hi (by omega); simpa [gcell] using this
  · have := World.ownsRow.cellAt h (i * 4 + 2) (by omega); rw [this]; have := gcells_at gs i 2 hi (by omega); simpa [gcell] using this
  · have := World.ownsRow.cellAt h (i * 4 + 3) (by omega); rw [this]; have := gcells_at gs i 3 hi (by omega); simpa [gcell] using this
theorem OwnG.kept (h : OwnG w base v gs) (hg : w.grownBy w' row) (hne : v.ownBlock = none ∨ v.ownBlock ≠ row) : OwnG w' base v gs := World.ownsRow.kept h hg hne
theorem OwnG.alloc (h : OwnG w base v gs) (o : Obj) : OwnG (w.alloc o) base v gs := World.ownsRow.alloc h o
theorem OwnG.lt (h : OwnG w base v gs) : ∀ k, v.ownBlock = some k → base ≤ k ∧ k < w.heap.size := World.ownsRow.lt h
theorem OwnG.below (h : OwnG w base v gs) (hb : Below w.heap.size w w') : OwnG w' base v gs := h.kept (row := none) ⟨hb.os, hb.tape, hb.output, hb.size, fun k hk _ => hb.block k hk⟩ (by cases v.ownBlock <;> simp)
theorem OwnG.gr (h : OwnG w base v gs) : ∃ A c, v = .slice A gs.length c ∧ GR w A gs.length gs := by
  rcases h.form with ⟨rfl, rfl⟩ | ⟨g, c, rfl, _, hlt, hn, hm⟩
  · exact ⟨none, 0, rfl, ⟨rfl, by simp, fun h => absurd h (by simp)⟩⟩
  · exact ⟨_, c, rfl, ⟨rfl, by unfold maxLen at hm; omega, fun _ => ⟨g, 0, rfl, hlt, fun i hi => by rw [Nat.zero_add]; exact h.at_ i hi⟩⟩⟩
theorem OwnG.nil0 (w : World) (base : Nat) (hb : base ≤ w.heap.size) : OwnG (w.alloc (.cells #[] 32)) base (.slice (some ⟨w.heap.size, 0, none⟩) 0 0) [] := by
  have := World.ownsRow_lit (e := 32) (size := 4) w #[] 0 hb (by unfold maxLen; omega) (by simp)
  simpa [OwnG, gcells] using this
theorem OwnG.ne (h : OwnG w base v gs) {R : Nat} (hR : R < base) : v.ownBlock = none ∨ v.ownBlock ≠ some R := by
  cases hv : v.ownBlock with
  | none => exact .inl rfl
  | some k => right; intro e; have := (h.lt k hv).1; simp at e; omega
theorem OwnG.ne' (h : OwnG w base v gs) {g : Nat} (hg : w.heap.size ≤ g) : v.ownBlock = none ∨ v.ownBlock ≠ some g := by
  cases hv : v.ownBlock with
  | none => exact .inl rfl
  | some k => right; intro e; have := (h.lt k hv).2; simp at e; omega
end
theorem gate_info' : (Try.prog.info? 32).map (fun i => (i.zero, i.size, i.bytes)) = some (some (.agg #[.int .i64 0, .int .i64 0, .int .i64 0, .int .i64 0]), 4, 32) := by kernel_rfl
/-- 'out = append(out, g)': the gate is laid in a block of its own first -/
theorem wpList_appendG1 {ops : Array Oper} {rest : List Oper} {o : Oper} {a : Act} {Q : Exit → Act → World → Prop} {w : World} {base : Nat} {v : Value} {gs : List G4} {x0 x1 x2 x3 : Int} (hown : OwnG w base v gs) (s y : Operand) (hg : o.guard = none)
    (ho : o.op = .call { callee := .builtin .append, args := #[s, y], argTypes := #[25, 25] }) (hs : a.eval s = v) (hx : a.eval y = .slice (some ⟨w.heap.size, 0, none⟩) 1 1)
    (hl : gs.length + 1 ≤ 8388608) (hb : base ≤ w.heap.size)
    (h : ∀ v' w', OwnG w' base v' (gs ++ [(x0, x1, x2, x3)]) → w.grownBy w' v.ownBlock → wpList Try.prog ops Q rest (a.put o.dst v') w') : wpList Try.prog ops Q (o :: rest) a (w.alloc (.cells #[.int .i64 x0, .int .i64 x1, .int .i64 x2, .int .i64 x3] 32)) := by
  obtain ⟨i0, hi, hz0, hz1, hz2⟩ := info_parts gate_info'
  refine wpList_append_own _ hg s y 25 ho base 32 i0 _ 4 32 Try.underlying25 hi hz0 hz1 hz2 rfl (by decide) v gs.length (gcells gs) hs (hown.alloc _) ⟨w.heap.size, 0, none⟩ 1 1 (gcell (x0, x1, x2, x3)) hx rfl ?_ ?_ (by unfold maxLen; omega) (by omega) (by simp; omega) ?_
  · intro j u hu
    rcases (show j = 0 ∨ j = 1 ∨ j = 2 ∨ j = 3 ∨ 4 ≤ j by omega) with rfl | rfl | rfl | rfl | hj
    · simp [gcell] at hu; subst hu; exact cell_at rfl rfl
    · simp [gcell] at hu; subst hu; exact cell_at rfl rfl
    · simp [gcell] at hu; subst hu; exact cell_at rfl rfl
    · simp [gcell] at hu; subst hu; exact cell_at rfl rfl
    · rw [List.getElem?_eq_none (by simpa [gcell] using hj)] at hu; cases hu
  · have := oneCells [(x0, x1, x2, x3)]
    simpa [gcells] using this
  · intro v' w' h1 h2 _
    refine h v' w' ?_ (grown_seq (World.grownBy_alloc w _ _) h2)
    unfold OwnG
    rw [List.length_append, gcells_snoc]
    exact h1
/-- the cells of some gates that are read -/
theorem GR.cells {w : World} {b o n : Nat} {gs : List G4} (hl : gs.length = n) (h : ∀ i, i < n → GAt w b (o + i * 4) (gth gs i)) : ∀ j u, (gcells gs)[j]? = some u → w.cell? ((⟨b, o, none⟩ : Addr).add j) = some u := by
  intro j u hu
  have hj : j < gs.length * 4 := by rw [← gcells_len]; exact (List.getElem?_eq_some_iff.1 hu).1
  have e : j = j / 4 * 4 + j % 4 := by omega
  have hi : j / 4 < gs.length := by omega
  have hg := h (j / 4) (by omega)
  obtain ⟨h0, h1, h2, h3⟩ := hg
  rw [e] at hu
  rw [gcells_at gs (j / 4) (j % 4) hi (by omega)] at hu
  rw [Addr.add_lit]
  rcases (show j % 4 = 0 ∨ j % 4 = 1 ∨ j % 4 = 2 ∨ j % 4 = 3 by omega) with hr | hr | hr | hr <;> rw [hr] at hu <;> simp [gcell] at hu <;> subst hu
  · rw [show o + j = o + j / 4 * 4 by omega]; exact h0
  · rw [show o + j = o + j / 4 * 4 + 1 by omega]; exact h1
  · rw [show o + j = o + j / 4 * 4 + 2 by omega]; exact h2
  · rw [show o + j = o + j / 4 * 4 + 3 by omega]; exact h3
/-- 'append(out, c...)' onto a slice of the call's own -/
theorem run_append_gates {w : World} {base : Nat} {v : Value} {gs ns : List G4} {A : Option Addr} {m c : Nat} {ty : TypeId} (hown : OwnG w base v gs) (hr : GR w A m ns) (hl : gs.length + ns.length ≤ 1000) (hb : base ≤ w.heap.size) :
    ∃ v' w', (Builtin.append_ #[25, 25] ty #[v, .slice A m c]).run Try.prog w = .ok v' w' ∧ OwnG w' base v' (gs ++ ns) ∧ w.grownBy w' v.ownBlock ∧ (v'.ownBlock = v.ownBlock ∨ v'.ownBlock = some w.heap.size) := by
  obtain ⟨i0, hi, hz0, hz1, hz2⟩ := info_parts gate_info'
  have hlen := hr.len
  have hcat : gcells (gs ++ ns) = gcells gs ++ gcells ns := by simp [gcells]
  have key : ∀ ad, (∀ j u, (gcells ns)[j]? = some u → w.cell? (ad.add j) = some u) →
      ∃ v' w', (Builtin.append_ #[25, 25] ty #[v, .slice (some ad) m c]).run Try.prog w = .ok v' w' ∧ OwnG w' base v' (gs ++ ns) ∧ w.grownBy w' v.ownBlock ∧ (v'.ownBlock = v.ownBlock ∨ v'.ownBlock = some w.heap.size) := by
    intro ad hc
    obtain ⟨v', w', h1, h2, h3, _, h5⟩ := run_append_own_at (P := Try.prog) w base 25 ty 32 i0 _ 4 32 Try.underlying25 hi hz0 hz1 hz2 rfl (by decide) v gs.length (gcells gs) hown ad m c (gcells ns)
      (by rw [gcells_len]; omega) hc (oneCells ns) (by unfold maxLen; omega) (by omega) hb
    refine ⟨v', w', h1, ?_, h3, h5⟩
    unfold OwnG
    rw [List.length_append, hcat, hlen]
    exact h2
  rcases A with _ | ad
  · have hm : m = 0 := by
      rcases Nat.eq_zero_or_pos m with h0 | h0
      · exact h0
      · obtain ⟨b, o, h, _⟩ := hr.at_ h0
        cases h
    subst hm
    obtain rfl : ns = [] := List.eq_nil_of_length_eq_zero hlen
    refine ⟨v, w, ?_, by simpa using hown, World.grownBy.refl w _, .inl rfl⟩
    rcases hown.2 with ⟨rfl, _⟩ | ⟨g, cap, cur, rfl, _, _, hnc, _⟩
    · simp [Builtin.append_, run_underlying Try.underlying25, sizeOf, typeInfo, hi, Builtin.lenOf, Builtin.firstCells]
    · simp [Builtin.append_, run_underlying Try.underlying25, sizeOf, typeInfo, hi, Builtin.lenOf, Builtin.firstCells, hnc, storeCells]
  · rcases Nat.eq_zero_or_pos m with h0 | h0
    · obtain rfl : ns = [] := List.eq_nil_of_length_eq_zero (by omega)
      exact key ad fun j u hu => by simp [gcells] at hu
    · obtain ⟨b, o, h, _, hc⟩ := hr.at_ h0
      cases h
      exact key _ (GR.cells hlen hc)
theorem wpList_append_gates {ops : Array Oper} {rest : List Oper} {o : Oper} {a : Act} {Q : Exit → Act → World → Prop} {w : World} {base : Nat} {v : Value} {gs ns : List G4} {A : Option Addr} {m c : Nat} (hown : OwnG w base v gs) (hr : GR w A m ns) (s y : Operand) (hg : o.guard = none)
    (ho : o.op = .call { callee := .builtin .append, args := #[s, y], argTypes := #[25, 25] }) (hs : a.eval s = v) (hx : a.eval y = .slice A m c)
    (hl : gs.length + ns.length ≤ 1000) (hb : base ≤ w.heap.size)
    (h : ∀ v' w', OwnG w' base v' (gs ++ ns) → w.grownBy w' v.ownBlock → wpList Try.prog ops Q rest (a.put o.dst v') w') : wpList Try.prog ops Q (o :: rest) a w := by
  obtain ⟨v', w', hrun, h2, h3, _⟩ := run_append_gates (ty := o.type) (c := c) hown hr hl hb
  exact Lib.wpList_append_run w hg s y _ _ ho _ _ hs hx v' w' hrun (h v' w' h2 h3)
set_option maxHeartbeats 400000 in
theorem toLine_any (k v w n : Int) (W : World) :
    Calls Try.prog 14 #[.agg #[.int .i64 k, .int .i64 v, .int .i64 w, .int .i64 n]] W fun e w' => e = .returned (.agg #[.int .i64 k, .int .i64 v, .int .i64 w, .int .i64 n]) ∧ Below W.heap.size W w' := by
  go_enter Try.func14, Try.ntmps14
  go_wp2_with fail
  have d0 : (((W.alloc (.cells #[.int .i64 k, .int .i64 v, .int .i64 w, .int .i64 n] 40)).alloc (.cells #[.int .i64 k, .int .i64 v, .int .i64 w, .int .i64 n] 32)).alloc (.cells #[.int .i64 k, .int .i64 v, .int .i64 w, .int .i64 n] 32)).cell? ⟨W.heap.size + 1, 0, none⟩ = some (.int .i64 k) := cell_old (cell_at rfl (by simp))
  have d1 : (((W.alloc (.cells #[.int .i64 k, .int .i64 v, .int .i64 w, .int .i64 n] 40)).alloc (.cells #[.int .i64 k, .int .i64 v, .int .i64 w, .int .i64 n] 32)).alloc (.cells #[.int .i64 k, .int .i64 v, .int .i64 w, .int .i64 n] 32)).cell? ⟨W.heap.size + 1, 1, none⟩ = some (.int .i64 v) := cell_old (cell_at rfl (by simp))
  have d2 : (((W.alloc (.cells #[.int .i64 k, .int .i64 v, .int .i64 w, .int .i64 n] 40)).alloc (.cells #[.int .i64 k, .int .i64 v, .int .i64 w, .int .i64 n] 32)).alloc (.cells #[.int .i64 k, .int .i64 v, .int .i64 w, .int .i64 n] 32)).cell? ⟨W.heap.size + 1, 2, none⟩ = some (.int .i64 w) := cell_old (cell_at rfl (by simp))
  have d3 : (((W.alloc (.cells #[.int .i64 k, .int .i64 v, .int .i64 w, .int .i64 n] 40)).alloc (.cells #[.int .i64 k, .int .i64 v, .int .i64 w, .int .i64 n] 32)).alloc (.cells #[.int .i64 k, .int .i64 v, .int .i64 w, .int .i64 n] 32)).cell? ⟨W.heap.size + 1, 3, none⟩ = some (.int .i64 n) := cell_old (cell_at rfl (by simp))
  refine bodyPost_ret (v := .agg #[.int .i64 k, .int .i64 v, .int .i64 w, .int .i64 n]) (by simp [results, Try.results14, go_sem, d0, d1, d2, d3]) rfl ⟨rfl, by go_grown⟩
theorem gate_info : (Try.prog.info? 32).map (fun i => (i.zero, i.size, i.bytes)) = some (some (.agg #[.int .i64 0, .int .i64 0, .int .i64 0, .int .i64 0]), 4, 32) := by kernel_rfl
theorem laid_set {w : World} {g : Nat} {cur : Array Value} {t : TypeId} (h : w.heap[g]? = some (.cells cur t (0, 0))) (i : Nat) (v : Value) : (w.setCell ⟨g, i, none⟩ v).heap[g]? = some (.cells (cur.setIfInBounds i v) t (0, 0)) := heap_setCell_same w g i _ _ _ h
theorem laid_cell {w : World} {g : Nat} {cur : Array Value} {t : TypeId} (h : w.heap[g]? = some (.cells cur t (0, 0))) {i : Nat} (hi : i < cur.size) : ∃ v, w.cell? ⟨g, i, none⟩ = some v := ⟨cur[i], by rw [cell_of_row w g i cur t (0, 0) h]; simp [hi]⟩
/-- the gates that lie in a block, the first j of them known -/
def Laid (w : World) (g n : Nat) (gs : List G4) (j : Nat) : Prop := (∃ cur, w.heap[g]? = some (.cells cur 32 (0, 0)) ∧ cur.size = 4 * n) ∧ ∀ i, i < j → GAt w g (i * 4) (gth gs i)
theorem GAt.put {w : World} {g q : Nat} {x0 x1 x2 x3 : Value} (c0 : w.cell? ⟨g, q, none⟩ = some x0) (c1 : w.cell? ⟨g, q + 1, none⟩ = some x1) (c2 : w.cell? ⟨g, q + 2, none⟩ = some x2) (c3 : w.cell? ⟨g, q + 3, none⟩ = some x3) (k a b c : Int) :
    GAt ((((w.setCell ⟨g, q, none⟩ (.int .i64 k)).setCell ⟨g, q + 1, none⟩ (.int .i64 a)).setCell ⟨g, q + 2, none⟩ (.int .i64 b)).setCell ⟨g, q + 3, none⟩ (.int .i64 c)) g q (k, a, b, c) := by
  refine ⟨?_, ?_, ?_, ?_⟩
  · rw [World.cell?_setCell_other _ _ _ _ (by simp), World.cell?_setCell_other _ _ _ _ (by simp), World.cell?_setCell_other _ _ _ _ (by simp)]
    exact World.cell?_setCell_same _ _ _ c0
  · rw [World.cell?_setCell_other _ _ _ _ (by simp), World.cell?_setCell_other _ _ _ _ (by simp)]
    exact World.cell?_setCell_same _ _ _ (by rw [World.cell?_setCell_other _ _ _ _ (by simp)]; exact c1)
  · rw [World.cell?_setCell_other _ _ _ _ (by simp)]
    exact World.cell?_setCell_same _ _ _ (by rw [World.cell?_setCell_other _ _ _ _ (by simp), World.cell?_setCell_other _ _ _ _ (by simp)]; exact c2)
  · exact World.cell?_setCell_same _ _ _ (by rw [World.cell?_setCell_other _ _ _ _ (by simp), World.cell?_setCell_other _ _ _ _ (by simp), World.cell?_setCell_other _ _ _ _ (by simp)]; exact c3)
theorem GAt.far {w : World} {g q q' : Nat} {g4 : G4} {v : Value} (h : GAt w g q g4) (hq : q' < q ∨ q + 4 ≤ q') : GAt (w.setCell ⟨g, q', none⟩ v) g q g4 := by
  obtain ⟨h0, h1, h2, h3⟩ := h
  refine ⟨?_, ?_, ?_, ?_⟩ <;> (rw [World.cell?_setCell_other _ _ _ _ (by simp; try omega)]; assumption)
theorem Laid.put {w : World} {g n j : Nat} {gs : List G4} {k a b c : Int} (h : Laid w g n gs j) (hj : j < n) (hg : gth gs j = (k, a, b, c)) :
    Laid ((((w.setCell ⟨g, j * 4, none⟩ (.int .i64 k)).setCell ⟨g, j * 4 + 1, none⟩ (.int .i64 a)).setCell ⟨g, j * 4 + 2, none⟩ (.int .i64 b)).setCell ⟨g, j * 4 + 3, none⟩ (.int .i64 c)) g n gs (j + 1) := by
  obtain ⟨⟨cur, hc, hs⟩, hi⟩ := h
  refine ⟨⟨_, laid_set (laid_set (laid_set (laid_set hc _ _) _ _) _ _) _ _, by simpa using hs⟩, fun i hij => ?_⟩
  by_cases e : i = j
  · subst e
    rw [hg]
    obtain ⟨x0, c0⟩ := laid_cell hc (i := i * 4) (by omega)
    obtain ⟨x1, c1⟩ := laid_cell hc (i := i * 4 + 1) (by omega)
    obtain ⟨x2, c2⟩ := laid_cell hc (i := i * 4 + 2) (by omega)
    obtain ⟨x3, c3⟩ := laid_cell hc (i := i * 4 + 3) (by omega)
    exact GAt.put c0 c1 c2 c3 k a b c
  · have := hi i (by omega)
    exact (((this.far (by omega)).far (by omega)).far (by omega)).far (by omega)
theorem Laid.below {w w' : World} {g n j : Nat} {gs : List G4} (h : Laid w g n gs j) (hb : Below w.heap.size w w') : Laid w' g n gs j := by
  obtain ⟨⟨cur, hc, hs⟩, hi⟩ := h
  have hlt : g < w.heap.size := (Array.getElem?_eq_some_iff.1 hc).1
  refine ⟨⟨cur, (hb.block g hlt).trans hc, hs⟩, fun i hij => ?_⟩
  obtain ⟨h0, h1, h2, h3⟩ := hi i hij
  exact ⟨(hb.cell (p := ⟨g, _, none⟩) hlt).trans h0, (hb.cell (p := ⟨g, _, none⟩) hlt).trans h1, (hb.cell (p := ⟨g, _, none⟩) hlt).trans h2, (hb.cell (p := ⟨g, _, none⟩) hlt).trans h3⟩
theorem Laid.gr {w : World} {g n : Nat} {gs : List G4} (h : Laid w g n gs n) (hl : gs.length = n) (hn : n ≤ 4194304) : GR w (some ⟨g, 0, none⟩) n gs := by
  obtain ⟨⟨cur, hc, hs⟩, hi⟩ := h
  refine ⟨hl, by omega, fun _ => ⟨g, 0, rfl, (Array.getElem?_eq_some_iff.1 hc).1, fun i hi' => ?_⟩⟩
  rw [Nat.zero_add]
  exact hi i hi'
theorem Laid.frozen {w : World} {g n j : Nat} {gs : List G4} (h : Laid w g n gs j) (i : Nat) : w.frozen? ⟨g, i, none⟩ = false := by
  obtain ⟨⟨cur, hc, hs⟩, hi⟩ := h
  exact frozen_of_row w g i cur _ hc
set_option maxHeartbeats 400000 in
theorem szLineS_any (A : Option Addr) (n c : Nat) (left : Int) (w : World) (hl : 0 ≤ left ∧ left ≤ 1048576) (hn : n ≤ 9223372036854775807) :
    Calls Try.prog 5 #[.slice A n c, .int .i64 left] w fun e w' => e = .returned (.int .i64 (if left < n then -1 else left - n)) ∧ w = w' := by
  obtain ⟨h1, h2⟩ := hl
  by_cases h : left < n
  · have h' : left - (n : Int) < 0 := by omega
    go_enter Try.func5, Try.ntmps5
    go_wp2_with fail
    go_ret
    exact ⟨rfl, rfl⟩
  · have h' : ¬ left - (n : Int) < 0 := by omega
    have h'' : n ≤ 1048576 := by omega
    go_enter Try.func5, Try.ntmps5
    go_wp2_with fail
    go_ret
    exact ⟨rfl, rfl⟩
set_option maxHeartbeats 4000000 in
theorem toLineS_any (A : Option Addr) (n c : Nat) (gs : List G4) (w : World) (h : GR w A n gs) (hn : n ≤ 1048576) :
    Calls Try.prog 7 #[.slice A n c] w fun e w' => (∃ g, e = .returned (.slice (some ⟨g, 0, none⟩) n n) ∧ w.heap.size ≤ g ∧ Laid w' g n gs n) ∧ Below w.heap.size w w' := by
  obtain ⟨i0, hi, hz0, hz1, hz2⟩ := info_parts gate_info
  have HR0 := hide h
  have HLen := Lib.hid h.len
  clear h
  go_enter Try.func7, Try.ntmps7
  go_wp2_with (at_make; refine wpList_make_full _ rfl _ _ 25 rfl w.heap.size 32 i0 _ 4 Try.underlying25 hi hz0 hz1 _ _ _ _ n rfl rfl rfl rfl (by rw [hz2]; omega) (by unfold maxLen; omega) (Nat.le_refl _) ?_; intro w1 hown hgrow)
  have hb1 : Below w.heap.size w w1 := (Below.refl _ _).grown hgrow (Nat.le_refl _) (by simp)
  have HLd : Hid (Laid w1 w.heap.size n gs 0) := by
    rcases hown.2 with ⟨h1, _⟩ | ⟨g', cap, cur, h1, hb, hg, hn', hm, hs, ht⟩
    · cases h1
    · simp only [Value.slice.injEq, Option.some.injEq, Addr.mk.injEq, and_true, true_and] at h1
      obtain ⟨rfl, rfl⟩ := h1
      exact ⟨⟨cur, hg, by rw [hs]; omega⟩, fun i hi => absurd hi (by omega)⟩
  have HB1 := hide hb1
  have HS1 := hide hb1.size
  clear hgrow hi hz0 hz1 hz2 hown hb1
  go_wp2_with fail
  go_loopw [4] (fun iv wr => ∃ j : Nat, j ≤ n ∧ iv = .int .i64 j ∧ Hid (Laid wr w.heap.size n gs j) ∧ Hid (Below w.heap.size w wr)) (fun iv _ => n - (intOf iv).toNat)
  case atStart => exact ⟨0, by omega, rfl, HLd.out, HB1.out⟩
  case round =>
    obtain ⟨j, hj, rfl, HL, HB⟩ := hrel
    have HR := hide (HR0.out.below HB.out)
    by_cases hlt : j < n
    · obtain ⟨b, o, rfl, hbl, hcc⟩ := HR.out.at_ (by omega)
      obtain ⟨⟨k, a, b', c'⟩, hg⟩ : ∃ g, gth gs j = g := ⟨_, rfl⟩
      have HG := Lib.hid hg
      obtain ⟨g0, g1, g2, g3⟩ := hcc j hlt
      rw [hg] at g0 g1 g2 g3
      simp only at g0 g1 g2 g3
      clear hcc hg
      go_wp2_with fail
      refine (toLine_any k a b' c' _).mono ?_
      rintro e w2 ⟨rfl, hb2⟩
      have HL2 := hide (HL.out.below hb2)
      have HB2 := hide (bseq HB.out hb2)
      have hs2 := HB2.out.size
      clear hb2 g0 g1 g2 g3
      obtain ⟨⟨cur, hc, hs⟩, _⟩ := HL2.out
      obtain ⟨x0, c0⟩ := laid_cell hc (i := j * 4) (by omega)
      obtain ⟨x1, c1⟩ := laid_cell hc (i := j * 4 + 1) (by omega)
      obtain ⟨x2, c2⟩ := laid_cell hc (i := j * 4 + 2) (by omega)
      obtain ⟨x3, c3⟩ := laid_cell hc (i := j * 4 + 3) (by omega)
      have f0 := fun i => HL2.out.frozen i
      clear hc hs
      go_wp2_with fail
      go_roundw
      case rel =>
        refine ⟨j + 1, by omega, by go_num, HL2.out.put hlt HG.out, ?_⟩
        exact (((HB2.out.setCell (Nat.le_refl _) _).setCell (Nat.le_refl _) _).setCell (Nat.le_refl _) _).setCell (Nat.le_refl _) _
      case measure => simp [intOf]; omega
    · obtain rfl : j = n := by omega
      go_wp2_with fail
      go_ret
      exact ⟨⟨_, rfl, Nat.le_refl _, HL.out⟩, HB.out⟩
set_option maxHeartbeats 400000 in
theorem eqLine_same (k a b c : Int) (w : World) :
    Calls Try.prog 16 #[.agg #[.int .i64 k, .int .i64 a, .int .i64 b, .int .i64 c], .agg #[.int .i64 k, .int .i64 a, .int .i64 b, .int .i64 c]] w fun e w' => e = .returned (.bool true) ∧ Below w.heap.size w w' := by
  have e0 : (k != k) = false := by simp
  have e1 : (a != a) = false := by simp
  have e2 : (b != b) = false := by simp
  have e3 : (c != c) = false := by simp
  go_enter Try.func16, Try.ntmps16
  go_wp2_with fail
  go_ret
  exact ⟨rfl, by go_grown⟩
set_option maxHeartbeats 4000000 in
theorem eqLineS_same (A B : Option Addr) (n c d : Nat) (gs : List G4) (w : World) (hx : GR w A n gs) (hy : GR w B n gs) :
    Calls Try.prog 9 #[.slice A n c, .slice B n d] w fun e w' => e = .returned (.bool true) ∧ Below w.heap.size w w' := by
  have HX0 := hide hx
  have HY0 := hide hy
  have hmax := hx.max
  have hnn : ((n : Int) != (n : Int)) = false := by simp
  clear hx hy
  go_enter Try.func9, Try.ntmps9
  go_wp2_with fail
  go_loopw [5] (fun iv wr => ∃ j : Nat, j ≤ n ∧ iv = .int .i64 j ∧ Hid (Below w.heap.size w wr)) (fun iv _ => n - (intOf iv).toNat)
  case atStart => exact ⟨0, by omega, rfl, Below.refl _ _⟩
  case round =>
    obtain ⟨j, hj, rfl, HB⟩ := hrel
    have HX := hide (HX0.out.below HB.out)
    have HY := hide (HY0.out.below HB.out)
    by_cases hlt : j < n
    · obtain ⟨b, o, rfl, hbl, hcc⟩ := HX.out.at_ (by omega)
      obtain ⟨b', o', rfl, hbl', hcc'⟩ := HY.out.at_ (by omega)
      obtain ⟨⟨k, a, b2, c2⟩, hg⟩ : ∃ g, gth gs j = g := ⟨_, rfl⟩
      obtain ⟨g0, g1, g2, g3⟩ := hcc j hlt
      obtain ⟨q0, q1, q2, q3⟩ := hcc' j hlt
      rw [hg] at g0 g1 g2 g3 q0 q1 q2 q3
      simp only at g0 g1 g2 g3 q0 q1 q2 q3
      clear hcc hcc' hg
      have k0 := cell_regrown g0
      have k1 := cell_regrown g1
      have k2 := cell_regrown g2
      have k3 := cell_regrown g3
      have l0 := cell_regrown q0
      have l1 := cell_regrown q1
      have l2 := cell_regrown q2
      have l3 := cell_regrown q3
      clear g0 g1 g2 g3 q0 q1 q2 q3
      go_wp2_with fail
      refine wp_region_below (by kernel_rfl) (by kernel_rfl) ?_
      repeat (go_big_quiet_step ((go_at_call 16; exact below_of rfl (fun W => eqLine_same _ _ _ _ W))))
      refine wpQuiet_nil ?_
      intro p
      obtain ⟨w3, hw3⟩ : ∃ w3, grow (redrawn wr p.d) p.os = w3 := ⟨_, rfl⟩
      have hb3 : Below wr.heap.size wr w3 := by rw [← hw3]; exact below_regrown wr p.d p.os
      rw [hw3]
      have HB3 := hide (bseq HB.out hb3)
      clear hw3 hb3 k0 k1 k2 k3 l0 l1 l2 l3
      go_wp2_with fail
      go_roundw
      case rel => exact ⟨j + 1, by omega, by go_num, HB3.out⟩
      case measure => simp [intOf]; omega
    · obtain rfl : j = n := by omega
      go_wp2_with fail
      go_ret
      exact ⟨rfl, HB.out⟩
end Go.Proofs.Ytacdagdhkmcbiaa
