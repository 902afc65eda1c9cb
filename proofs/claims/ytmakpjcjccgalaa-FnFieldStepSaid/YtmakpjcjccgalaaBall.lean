/-
  Slices of balls: four numbers each.
  No condition.
-/
import Derived.Laws.StructEq
import Derived.Test.YtmakpjcjccgalaaOwnBs
import Derived.Test.YtmakpjcjccgalaaPlace
namespace Go.Proofs.Ytmakpjcjccgalaa
open Go.RowKit Go.Sort base
abbrev G4 := Int × Int × Int × Int
def gth (gs : List G4) (i : Nat) : G4 := gs.getD i (0, 0, 0, 0)
theorem gth_lt {gs : List G4} {k : Nat} (h : k < gs.length) : gth gs k = gs[k] := by simp [gth, h]
theorem take_succ_gth {gs : List G4} {k : Nat} (h : k < gs.length) : gs.take (k + 1) = gs.take k ++ [gth gs k] := by
  rw [List.take_succ_eq_append_getElem h, gth_lt h]
theorem gth_mem {gs : List G4} {k : Nat} (h : k < gs.length) : gth gs k ∈ gs := by rw [gth_lt h]; exact List.getElem_mem h
/-- a gate that lies at a place of a block -/
def GAt (w : World) (b q : Nat) (g : G4) : Prop :=
  w.cell? ⟨b, q, none⟩ = some (.int .i64 g.1) ∧ w.cell? ⟨b, q + 1, none⟩ = some (.int .i64 g.2.1) ∧ w.cell? ⟨b, q + 2, none⟩ = some (.int .i64 g.2.2.1) ∧ w.cell? ⟨b, q + 3, none⟩ = some (.int .i64 g.2.2.2)
/-- A slice '.slice A n c' reads as the gates gs: nil, empty or not. -/
structure GR (w : World) (A : Option Addr) (n : Nat) (gs : List G4) : Prop where
  len : gs.length = n
  max : n ≤ 9223372036854775807
  at_ : 0 < n → ∃ b o, A = some ⟨b, o, none⟩ ∧ b < w.heap.size ∧ ∀ i, i < n → GAt w b (o + i * 4) (gth gs i)
theorem GR.keep {w w' : World} {A : Option Addr} {n : Nat} {gs : List G4} (h : GR w A n gs) (hs : w.heap.size ≤ w'.heap.size) (hk : ∀ p : Addr, p.block < w.heap.size → w'.cell? p = w.cell? p) : GR w' A n gs :=
  ⟨h.len, h.max, fun hn => by
    obtain ⟨b, o, e, hb, hc⟩ := h.at_ hn
    exact ⟨b, o, e, by omega, fun i hi => ⟨(hk _ hb).trans (hc i hi).1, (hk _ hb).trans (hc i hi).2.1, (hk _ hb).trans (hc i hi).2.2.1, (hk _ hb).trans (hc i hi).2.2.2⟩⟩⟩
theorem GR.below {w w' : World} {A : Option Addr} {n : Nat} {gs : List G4} (h : GR w A n gs) (hb : Below w.heap.size w w') : GR w' A n gs := h.keep hb.size fun _ hp => hb.cell hp
def gcell (g : G4) : List Value := [.int .i64 g.1, .int .i64 g.2.1, .int .i64 g.2.2.1, .int .i64 g.2.2.2]
def gcells (gs : List G4) : List Value := gs.flatMap gcell
theorem gcells_len (gs : List G4) : (gcells gs).length = gs.length * 4 := by
  induction gs with
  | nil => rfl
  | cons g gs ih => simp only [gcells, List.flatMap_cons, List.length_append, List.length_cons] at ih ⊢; rw [ih]; simp [gcell]; omega
theorem gcells_snoc (gs : List G4) (g : G4) : gcells (gs ++ [g]) = gcells gs ++ gcell g := by simp [gcells]
theorem gcells_at : ∀ (gs : List G4) (i r : Nat), i < gs.length → r < 4 → (gcells gs)[i * 4 + r]? = (gcell (gth gs i))[r]?
  | [], i, r, h, _ => by simp at h
  | g :: gs, 0, r, _, hr => by
    simp only [gcells, List.flatMap_cons, Nat.zero_mul, Nat.zero_add]
    rw [List.getElem?_append_left (by simpa [gcell] using hr)]
    rfl
  | g :: gs, i + 1, r, h, hr => by
    have ih := gcells_at gs i r (by simpa using h) hr
    simp only [gcells, List.flatMap_cons] at ih ⊢
    rw [List.getElem?_append_right (by simp [gcell]; omega), show (i + 1) * 4 + r - (gcell g).length = i * 4 + r by simp [gcell]; omega, ih]
    rfl
theorem oneCells (gs : List G4) : ∀ u ∈ gcells gs, u.oneCell' = true := by
  intro u hu
  simp only [gcells, gcell, List.mem_flatMap, List.mem_cons, List.not_mem_nil, or_false] at hu
  obtain ⟨g, _, rfl | rfl | rfl | rfl⟩ := hu <;> rfl
/-- a slice of gates of the call's own -/
def OwnG (w : World) (base : Nat) (v : Value) (gs : List G4) : Prop := w.ownsRow base 63 4 v gs.length (gcells gs)
section
variable {w w' : World} {base : Nat} {v : Value} {gs : List G4} {row : Option Nat}
theorem OwnG.form (h : OwnG w base v gs) : (v = .slice none 0 0 ∧ gs = []) ∨ ∃ g c, v = .slice (some ⟨g, 0, none⟩) gs.length c ∧ base ≤ g ∧ g < w.heap.size ∧ gs.length ≤ c ∧ c ≤ maxLen := by
  rcases h.2 with ⟨rfl, h0⟩ | ⟨g, cap, cur, rfl, hb, hg, hn, hm, _⟩
  · exact .inl ⟨rfl, List.eq_nil_of_length_eq_zero h0⟩
  · exact .inr ⟨g, cap, rfl, hb, (Array.getElem?_eq_some_iff.1 hg).1, hn, hm⟩
theorem OwnG.at_ {g c : Nat} (h : OwnG w base (.slice (some ⟨g, 0, none⟩) gs.length c) gs) (i : Nat) (hi : i < gs.length) : GAt w g (i * 4) (gth gs i) := by
  have hl := gcells_len gs
  refine ⟨?_, ?_, ?_, ?_⟩
  · have := World.ownsRow.cellAt h (i * 4) (by omega); rw [this]; have := gcells_at gs i 0 hi (by omega); simpa [gcell] using this
  · have := World.ownsRow.cellAt h (i * 4 + 1) (by omega); rw [this]; have := gcells_at gs i 1 hi (by omega); simpa [gcell] using this
  · have := World.ownsRow.cellAt h (i * 4 + 2) (by omega); rw [this]; have := gcells_at gs i 2 hi (by omega); simpa [gcell] using this
  · have := World.ownsRow.cellAt h (i * 4 + 3) (by omega); rw [this]; have := gcells_at gs i 3 hi (by omega); simpa [gcell] using this
theorem OwnG.kept (h : OwnG w base v gs) (hg : w.grownBy w' row) (hne : v.ownBlock = none ∨ v.ownBlock ≠ row) : OwnG w' base v gs := World.ownsRow.kept h hg hne
theorem OwnG.alloc (h : OwnG w base v gs) (o : Obj) : OwnG (w.alloc o) base v gs := World.ownsRow.alloc h o
theorem OwnG.lt (h : OwnG w base v gs) : ∀ k, v.ownBlock = some k → base ≤ k ∧ k < w.heap.size := World.ownsRow.lt h
theorem OwnG.below (h : OwnG w base v gs) (hb : Below w.heap.size w w') : OwnG w' base v gs := h.kept (row := none) ⟨hb.os, hb.tape, hb.output, hb.size, fun k hk _ => hb.block k hk⟩ (by cases v.ownBlock <;> simp)
theorem OwnG.gr (h : OwnG w base v gs) : ∃ A c, v = .slice A gs.length c ∧ GR w A gs.length gs := by
  rcases h.form with ⟨rfl, rfl⟩ | ⟨g, c, rfl, _, hlt, hn, hm⟩
  · exact ⟨none, 0, rfl, ⟨rfl, by simp, fun h => absurd h (by simp)⟩⟩
  · exact ⟨_, c, rfl, ⟨rfl, by unfold maxLen at hm; omega, fun _ => ⟨g, 0, rfl, hlt, fun i hi => by rw [Nat.zero_add]; exact h.at_ i hi⟩⟩⟩
theorem OwnG.nil0 (w : World) (base : Nat) (hb : base ≤ w.heap.size) : OwnG (w.alloc (.cells #[] 63)) base (.slice (some ⟨w.heap.size, 0, none⟩) 0 0) [] := by
  have := World.ownsRow_lit (e := 63) (size := 4) w #[] 0 hb (by unfold maxLen; omega) (by simp)
  simpa [OwnG, gcells] using this
theorem OwnG.ne (h : OwnG w base v gs) {R : Nat} (hR : R < base) : v.ownBlock = none ∨ v.ownBlock ≠ some R := by
  cases hv : v.ownBlock with
  | none => exact .inl rfl
  | some k => right; intro e; have := (h.lt k hv).1; simp at e; omega
theorem OwnG.ne' (h : OwnG w base v gs) {g : Nat} (hg : w.heap.size ≤ g) : v.ownBlock = none ∨ v.ownBlock ≠ some g := by
  cases hv : v.ownBlock with
  | none => exact .inl rfl
  | some k => right; intro e; have := (h.lt k hv).2; simp at e; omega
end
theorem ball_info' : (Try.prog.info? 63).map (fun i => (i.zero, i.size, i.bytes)) = some (some (.agg #[.int .i64 0, .int .i64 0, .int .i64 0, .int .i64 0]), 4, 32) := by kernel_rfl
/-- 'out = append(out, g)': the gate is laid in a block of its own first -/
theorem wpList_appendG1 {ops : Array Oper} {rest : List Oper} {o : Oper} {a : Act} {Q : Exit → Act → World → Prop} {w : World} {base : Nat} {v : Value} {gs : List G4} {x0 x1 x2 x3 : Int} (hown : OwnG w base v gs) (s y : Operand) (hg : o.guard = none)
    (ho : o.op = .call { callee := .builtin .append, args := #[s, y], argTypes := #[60, 60] }) (hs : a.eval s = v) (hx : a.eval y = .slice (some ⟨w.heap.size, 0, none⟩) 1 1)
    (hl : gs.length + 1 ≤ 8388608) (hb : base ≤ w.heap.size)
    (h : ∀ v' w', OwnG w' base v' (gs ++ [(x0, x1, x2, x3)]) → w.grownBy w' v.ownBlock → wpList Try.prog ops Q rest (a.put o.dst v') w') : wpList Try.prog ops Q (o :: rest) a (w.alloc (.cells #[.int .i64 x0, .int .i64 x1, .int .i64 x2, .int .i64 x3] 63)) := by
  obtain ⟨i0, hi, hz0, hz1, hz2⟩ := info_parts ball_info'
  refine wpList_append_own _ hg s y 60 ho base 63 i0 _ 4 32 Try.underlying60 hi hz0 hz1 hz2 rfl (by decide) v gs.length (gcells gs) hs (hown.alloc _) ⟨w.heap.size, 0, none⟩ 1 1 (gcell (x0, x1, x2, x3)) hx rfl ?_ ?_ (by unfold maxLen; omega) (by omega) (by simp; omega) ?_
  · intro j u hu
    rcases (show j = 0 ∨ j = 1 ∨ j = 2 ∨ j = 3 ∨ 4 ≤ j by omega) with rfl | rfl | rfl | rfl | hj
    · simp [gcell] at hu; subst hu; exact cell_at rfl rfl
    · simp [gcell] at hu; subst hu; exact cell_at rfl rfl
    · simp [gcell] at hu; subst hu; exact cell_at rfl rfl
    · simp [gcell] at hu; subst hu; exact cell_at rfl rfl
    · rw [List.getElem?_eq_none (by simpa [gcell] using hj)] at hu; cases hu
  · have := oneCells [(x0, x1, x2, x3)]
    simpa [gcells] using this
  · intro v' w' h1 h2 _
    refine h v' w' ?_ (grown_seq (World.grownBy_alloc w _ _) h2)
    unfold OwnG
    rw [List.length_append, gcells_snoc]
    exact h1
theorem calls_named {P : Program} {f : FuncId} {args : Array Value} {W : World} {Q : Ending → World → Prop} (h : ∀ wr, W = wr → Calls P f args wr Q) : Calls P f args W Q := h _ rfl
theorem eql_place (a b c d : Int) (w : World) : (binOp .eql 47 (.agg #[.int .i64 a, .int .i64 b]) (.agg #[.int .i64 c, .int .i64 d])).run Try.prog w = .ok (.bool (a == c && b == d)) w := by
  rw [run_eql_struct, run_equalIn_struct w 9999 47 _ _ (by kernel_rfl) (by kernel_rfl)]
  have hf : (Try.prog.fieldsOf 47).toList = [{ name := "x", type := 3, offset := 0, embedded := false, tag := "", pkgPath := "loop.example/reversiblecircuits/impl", byteOffset := 0 }, { name := "y", type := 3, offset := 1, embedded := false, tag := "", pkgPath := "loop.example/reversiblecircuits/impl", byteOffset := 8 }] := by kernel_rfl
  rw [hf]
  simp [Op.eqFields, go_sem, run_equalIn_int w 9998 3 .i64 .i64 _ _ Try.underlying3]
  by_cases h1 : a = c <;> by_cases h2 : b = d <;> simp [h1, h2]
theorem guard_place (x y : Operand) (a b c d : Int) (w : World) : (eqGuard .eql 47 x y (.agg #[.int .i64 a, .int .i64 b]) (.agg #[.int .i64 c, .int .i64 d])).run Try.prog w = .ok () w :=
  run_eqGuard_agg w .eql 47 x y _ _ (by kernel_rfl)
end Go.Proofs.Ytmakpjcjccgalaa
