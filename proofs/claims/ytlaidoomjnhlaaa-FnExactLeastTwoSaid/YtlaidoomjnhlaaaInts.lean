/-
  Slices of numbers, as this claim's walks speak of them, and the contracts of the small functions over them: toIntS, eqIntS, within, l1In, and the like.
  No condition.
-/
import Derived.Test.YtlaidoomjnhlaaaBase
import Derived.Test.YtlaidoomjnhlaaaPlain
import Derived.Test.YtlaidoomjnhlaaaRows
namespace Go.Proofs.Ytlaidoomjnhlaaa
open Go.RowKit Go.Sort base

/-- A slice '.slice A n c' reads as the numbers zs of kind K: nil, empty or not. -/
structure IRk (K : IntKind) (w : World) (A : Option Addr) (n : Nat) (zs : List Int) : Prop where
  len : zs.length = n
  max : n ≤ 9223372036854775807
  at_ : 0 < n → ∃ b o, A = some ⟨b, o, none⟩ ∧ b < w.heap.size ∧ ∀ i, i < n → w.cell? ⟨b, o + i, none⟩ = some (.int K (nth zs i))
abbrev IR := IRk .i64
theorem IRk.nil (K : IntKind) (w : World) (A : Option Addr) : IRk K w A 0 [] := ⟨rfl, by omega, fun h => absurd h (by omega)⟩
theorem IR.nil (w : World) (A : Option Addr) : IR w A 0 [] := IRk.nil _ w A
theorem IRk.keep {K : IntKind} {w w' : World} {A : Option Addr} {n : Nat} {zs : List Int} (h : IRk K w A n zs) (hs : w.heap.size ≤ w'.heap.size) (hk : ∀ p : Addr, p.block < w.heap.size → w'.cell? p = w.cell? p) : IRk K w' A n zs :=
  ⟨h.len, h.max, fun hn => by
    obtain ⟨b, o, e, hb, hc⟩ := h.at_ hn
    exact ⟨b, o, e, by omega, fun i hi => (hk _ hb).trans (hc i hi)⟩⟩
theorem IRk.below {K : IntKind} {w w' : World} {A : Option Addr} {n : Nat} {zs : List Int} (h : IRk K w A n zs) (hb : Below w.heap.size w w') : IRk K w' A n zs := h.keep hb.size fun _ hp => hb.cell hp
/- what a reading of an argument gives -/
theorem IRk.of_open {K : IntKind} {w : World} {x : Addr} {len cap : Nat} {zs : List Int} (hl : len ≤ cap) (hm : cap ≤ maxLen) (hz : zs.length = cap)
    (hc : ∀ i, i < zs.length → w.cell? (x.add i) = some (.int K (zs.getD i 0))) : IRk K w (some x) len (zs.take len) := by
  refine ⟨by simp; omega, by unfold maxLen at hm; omega, fun hn => ?_⟩
  obtain ⟨b, off, spot⟩ := x
  have h0 := hc 0 (by omega)
  have hspot : spot = none := by simpa [Addr.add] using World.cell?_spot h0
  subst hspot
  refine ⟨b, off, rfl, ?_, fun i hi => ?_⟩
  · have := World.block_lt_of_cell? w _ h0
    simpa [Addr.add] using this
  · have h1 := hc i (by omega)
    rw [Addr.add_lit] at h1
    rw [h1]
    simp [nth, hi]

/-- a slice of the call's own: it owns the numbers zs -/
def Own (w : World) (base : Nat) (v : Value) (zs : List Int) : Prop := w.ownsRow base 3 1 v zs.length (zs.map (Value.int .i64))
theorem Own.form {w : World} {base : Nat} {v : Value} {zs : List Int} (h : Own w base v zs) : (v = .slice none 0 0 ∧ zs = []) ∨ ∃ g c, v = .slice (some ⟨g, 0, none⟩) zs.length c ∧ base ≤ g ∧ g < w.heap.size ∧ zs.length ≤ c ∧ c ≤ maxLen := by
  rcases h.2 with ⟨rfl, h0⟩ | ⟨g, cap, cur, rfl, hb, hg, hn, hm, _⟩
  · exact .inl ⟨rfl, List.eq_nil_of_length_eq_zero h0⟩
  · exact .inr ⟨g, cap, rfl, hb, (Array.getElem?_eq_some_iff.1 hg).1, hn, hm⟩
theorem Own.reads {w : World} {base g c : Nat} {zs : List Int} (h : Own w base (.slice (some ⟨g, 0, none⟩) zs.length c) zs) : IR w (some ⟨g, 0, none⟩) zs.length zs := by
  rcases h.form with ⟨h1, _⟩ | ⟨g', c', h1, _, hlt, hn, hm⟩
  · cases h1
  · simp only [Value.slice.injEq, Option.some.injEq, Addr.mk.injEq, and_true, true_and] at h1
    obtain ⟨rfl, rfl⟩ := h1
    refine ⟨rfl, by unfold maxLen at hm; omega, fun _ => ⟨g, 0, rfl, hlt, fun i hi => ?_⟩⟩
    rw [Nat.zero_add, h.cellAt i (by omega)]
    simp [nth, hi]
theorem IR.of_own {w : World} {base g n : Nat} {zs : List Int} (h : Own w base (.slice (some ⟨g, 0, none⟩) n n) zs) (hl : zs.length = n) : IR w (some ⟨g, 0, none⟩) n zs := by
  subst hl; exact h.reads
/-- whatever its value: it is a slice that reads as zs -/
theorem Own.slice {w : World} {base : Nat} {v : Value} {zs : List Int} (h : Own w base v zs) : ∃ A c, v = .slice A zs.length c ∧ IR w A zs.length zs := by
  rcases h.form with ⟨rfl, rfl⟩ | ⟨g, c, rfl, _⟩
  · exact ⟨none, 0, rfl, IR.nil _ _⟩
  · exact ⟨_, c, rfl, h.reads⟩
theorem Own.sliceN {w : World} {base n : Nat} {v : Value} {zs : List Int} (h : Own w base v zs) (hn : zs.length = n) : ∃ A c, v = .slice A n c ∧ IR w A n zs := by
  subst hn; exact h.slice
theorem Own.slice' {w : World} {base : Nat} {v : Value} {zs : List Int} (h : Own w base v zs) : ∃ A n c, v = .slice A n c ∧ IR w A n zs := by
  obtain ⟨A, c, hv, hr⟩ := h.slice
  exact ⟨A, _, c, hv, hr⟩
theorem Own.below {w w' : World} {base : Nat} {v : Value} {zs : List Int} (h : Own w base v zs) (hb : Below w.heap.size w w') : Own w' base v zs :=
  h.kept (row := none) ⟨hb.os, hb.tape, hb.output, hb.size, fun k hk _ => hb.block k hk⟩ (by cases v.ownBlock <;> simp)

theorem laidOut : laidOutB Try.prog = true := by kernel_rfl
theorem knob : ownKnob Try.prog.godebug = none := by kernel_rfl
theorem int_info : (Try.prog.info? 3).map (fun i => (i.zero, i.size, i.bytes)) = some (some (.int .i64 0), 1, 8) := by kernel_rfl
theorem made_ints (n : Nat) : (madeCells (Value.int .i64 0).cells n).toList = (List.replicate n 0).map (Value.int .i64) := by
  show (madeCells #[Value.int .i64 0] n).toList = _
  rw [toList_madeCells_one, List.map_replicate]
theorem int_neq (a b : Int) : (a != b) = !(a == b) := rfl

/-! ### append onto a slice of the call's own -/
section
variable {w : World} {base : Nat} {v : Value} {xs ys : List Int} {A : Option Addr} {m c : Nat} {ty : TypeId}
theorem run_append_ints (hown : Own w base v xs) (hr : IR w A m ys) (hl : xs.length + ys.length ≤ 8388608) (hb : base ≤ w.heap.size) :
    ∃ v' w', (Builtin.append_ #[22, 22] ty #[v, .slice A m c]).run Try.prog w = .ok v' w' ∧ Own w' base v' (xs ++ ys) ∧ w.grownBy w' v.ownBlock ∧ (v'.ownBlock = v.ownBlock ∨ v'.ownBlock = some w.heap.size) := by
  obtain ⟨i0, hi, hz0, hz1, hz2⟩ := info_parts int_info
  have hlen := hr.len
  have key : ∀ ad, (∀ j u, (ys.map (Value.int .i64))[j]? = some u → w.cell? (ad.add j) = some u) →
      ∃ v' w', (Builtin.append_ #[22, 22] ty #[v, .slice (some ad) m c]).run Try.prog w = .ok v' w' ∧ Own w' base v' (xs ++ ys) ∧ w.grownBy w' v.ownBlock ∧ (v'.ownBlock = v.ownBlock ∨ v'.ownBlock = some w.heap.size) := by
    intro ad hc
    obtain ⟨v', w', h1, h2, h3, _, h5⟩ := run_append_own_at (P := Try.prog) w base 22 ty 3 i0 (.int .i64 0) 1 8 Try.underlying22 hi hz0 hz1 hz2 rfl (by decide) v xs.length (xs.map (Value.int .i64)) hown ad m c (ys.map (Value.int .i64))
      (by simp; omega) hc (ints_oneCell _ _) (by unfold maxLen; omega) (by omega) hb
    refine ⟨v', w', h1, ?_, h3, h5⟩
    unfold Own
    rw [List.length_append, List.map_append, hlen]
    exact h2
  rcases A with _ | ad
  · have hm : m = 0 := by
      rcases Nat.eq_zero_or_pos m with h0 | h0
      · exact h0
      · obtain ⟨b, o, h, _⟩ := hr.at_ h0
        cases h
    subst hm
    obtain rfl : ys = [] := List.eq_nil_of_length_eq_zero hlen
    refine ⟨v, w, ?_, by simpa using hown, World.grownBy.refl w _, .inl rfl⟩
    rcases hown.2 with ⟨rfl, _⟩ | ⟨g, cap, cur, rfl, _, _, hnc, _⟩
    · simp [Builtin.append_, run_underlying Try.underlying22, sizeOf, typeInfo, hi, Builtin.lenOf, Builtin.firstCells]
    · simp [Builtin.append_, run_underlying Try.underlying22, sizeOf, typeInfo, hi, Builtin.lenOf, Builtin.firstCells, hnc, storeCells]
  · refine key ad fun j u hu => ?_
    rcases Nat.eq_zero_or_pos m with h0 | h0
    · obtain rfl : ys = [] := List.eq_nil_of_length_eq_zero (by omega)
      simp at hu
    · obtain ⟨b, o, h, _, hc⟩ := hr.at_ h0
      cases h
      obtain ⟨hj, hu⟩ := List.getElem?_eq_some_iff.1 hu
      have hj' : j < ys.length := by simpa using hj
      rw [Addr.add_lit, hc j (by omega), ← hu]
      simp [nth_lt hj']
theorem wp_append_ints {o : Oper} {a : Act} {K : Act → World → Prop} {Q : Exit → Act → World → Prop} (hown : Own w base v xs) (hr : IR w A m ys) (s x : Operand)
    (ho : o.op = .call { callee := .builtin .append, args := #[s, x], argTypes := #[22, 22] }) (hs : a.eval s = v) (hx : a.eval x = .slice A m c)
    (hl : xs.length + ys.length ≤ 8388608) (hb : base ≤ w.heap.size)
    (h : ∀ v' w', Own w' base v' (xs ++ ys) → w.grownBy w' v.ownBlock → (v'.ownBlock = v.ownBlock ∨ v'.ownBlock = some w.heap.size) → K (a.put o.dst v') w') : o.wp Try.prog a w K Q := by
  obtain ⟨v', w', hrun, h2, h3, h4⟩ := run_append_ints (ty := o.type) (c := c) hown hr hl hb
  unfold Oper.wp execOp
  simp only [ho, resolve, invoke, builtin, Sem.run_bind, Sem.run_pure, Result.andThen_ok, List.map_toArray, List.map_cons, List.map_nil, hs, hx, hrun]
  exact h v' w' h2 h3 h4
theorem wpList_append_ints {ops : Array Oper} {rest : List Oper} {o : Oper} {a : Act} {Q : Exit → Act → World → Prop} (hown : Own w base v xs) (hr : IR w A m ys) (s x : Operand) (hw : Region.wanted o (yielded ops a.tmps) = true)
    (ho : o.op = .call { callee := .builtin .append, args := #[s, x], argTypes := #[22, 22] }) (hs : a.eval s = v) (hx : a.eval x = .slice A m c)
    (hl : xs.length + ys.length ≤ 8388608) (hb : base ≤ w.heap.size)
    (h : ∀ v' w', Own w' base v' (xs ++ ys) → w.grownBy w' v.ownBlock → (v'.ownBlock = v.ownBlock ∨ v'.ownBlock = some w.heap.size) → wpList Try.prog ops Q rest (a.put o.dst v') w') : wpList Try.prog ops Q (o :: rest) a w :=
  wpList_step fun _ hK => by rw [if_pos hw]; exact wp_append_ints hown hr s x ho hs hx hl hb fun v' w' h2 h3 h4 => hK _ _ (h v' w' h2 h3 h4)
end
theorem Own.nil_ (w : World) (base : Nat) : Own w base (.slice none 0 0) [] := World.ownsRow_nil _ _ _ _
/- a literal of numbers, just laid -/
theorem Own.lit (w : World) (base : Nat) (zs : List Int) (hb : base ≤ w.heap.size) (hl : zs.length ≤ 8388608) : Own (w.alloc (.cells (zs.map (Value.int .i64)).toArray 3)) base (.slice (some ⟨w.heap.size, 0, none⟩) zs.length zs.length) zs := by
  have := World.ownsRow_lit (e := 3) (size := 1) w (zs.map (Value.int .i64)).toArray zs.length hb (by unfold maxLen; omega) (by simp)
  simpa [Own] using this
theorem Own.kept {w w' : World} {base : Nat} {v : Value} {zs : List Int} {row : Option Nat} (h : Own w base v zs) (hg : w.grownBy w' row) (hne : v.ownBlock = none ∨ v.ownBlock ≠ row) : Own w' base v zs :=
  World.ownsRow.kept h hg hne
theorem Own.alloc {w : World} {base : Nat} {v : Value} {zs : List Int} (h : Own w base v zs) (o : Obj) : Own (w.alloc o) base v zs := World.ownsRow.alloc h o
theorem Own.drewN {w : World} {base : Nat} {v : Value} {zs : List Int} (h : Own w base v zs) (q : Nat) : Own (w.drewN q) base v zs := h
theorem Own.lt {w : World} {base : Nat} {v : Value} {zs : List Int} (h : Own w base v zs) : ∀ k, v.ownBlock = some k → base ≤ k ∧ k < w.heap.size := World.ownsRow.lt h
theorem Own.cellAt {w : World} {base g n c : Nat} {zs : List Int} (h : Own w base (.slice (some ⟨g, 0, none⟩) n c) zs) (hn : zs.length = n) (j : Nat) (hj : j < n) : w.cell? ⟨g, j, none⟩ = some (.int .i64 (nth zs j)) := by
  subst hn
  rw [World.ownsRow.cellAt h j (by omega)]
  simp [nth, hj]
theorem Own.frozenAt {w : World} {base g n c : Nat} {zs : List Int} (h : Own w base (.slice (some ⟨g, 0, none⟩) n c) zs) (hn : zs.length = n) (j : Nat) : w.frozen? ⟨g, j, none⟩ = false := by
  subst hn
  exact World.ownsRow.frozenAt h j
theorem Own.stored {w : World} {base g n c : Nat} {zs : List Int} (h : Own w base (.slice (some ⟨g, 0, none⟩) n c) zs) (hn : zs.length = n) (j : Nat) (z : Int) :
    Own (w.setCell ⟨g, j, none⟩ (.int .i64 z)) base (.slice (some ⟨g, 0, none⟩) n c) (zs.set j z) ∧ w.grownBy (w.setCell ⟨g, j, none⟩ (.int .i64 z)) (some g) := by
  subst hn
  have := World.ownsRow.stored h j (.int .i64 z)
  refine ⟨?_, this.2⟩
  unfold Own
  rw [List.length_set, List.map_set]
  exact this.1
theorem Own.take {w : World} {base g n c : Nat} {zs : List Int} (h : Own w base (.slice (some ⟨g, 0, none⟩) n c) zs) (hn : zs.length = n) (k : Nat) (hk : k ≤ n) : Own w base (.slice (some ⟨g, 0, none⟩) k c) (zs.take k) := by
  subst hn
  rcases h.2 with ⟨h1, _⟩ | ⟨g', cap, cur, h1, hb, hg, hn, hm, hs, ht⟩
  · cases h1
  · simp only [Value.slice.injEq, Option.some.injEq, Addr.mk.injEq, and_true, true_and] at h1
    obtain ⟨rfl, rfl⟩ := h1
    refine ⟨by simp, .inr ⟨g, c, cur, by simp [Nat.min_eq_left hk], hb, hg, by simp; omega, hm, hs, ?_⟩⟩
    rw [List.map_take, ← ht, List.take_take]
    simp [Nat.min_eq_left hk]

theorem lit1 (w : World) (z : Int) : IR (w.alloc (.cells #[.int .i64 z] 3)) (some ⟨w.heap.size, 0, none⟩) 1 [z] := (Own.lit w w.heap.size [z] (Nat.le_refl _) (by simp)).reads
theorem grown_seq {a b c : World} {row : Option Nat} (h : a.grownBy b row) (k : b.grownBy c row) : a.grownBy c row :=
  ⟨k.os.trans h.os, k.tape.trans h.tape, k.output.trans h.output, Nat.le_trans h.size k.size, fun i hi hne => (k.block i (Nat.lt_of_lt_of_le hi h.size) hne).trans (h.block i hi hne)⟩
theorem Own.base_le {w : World} {base base' : Nat} {v : Value} {zs : List Int} (h : Own w base v zs) (hb : base' ≤ base) : Own w base' v zs := by
  refine ⟨h.1, ?_⟩
  rcases h.2 with h | ⟨g, cap, cur, hv, hg, r⟩
  · exact .inl h
  · exact .inr ⟨g, cap, cur, hv, by omega, r⟩
theorem Own.ir {w : World} {base n c : Nat} {A : Option Addr} {zs : List Int} (h : Own w base (.slice A n c) zs) : IR w A n zs := by
  obtain ⟨A', c', e, r⟩ := h.slice
  simp only [Value.slice.injEq] at e
  obtain ⟨rfl, rfl, _⟩ := e
  exact r
/-- a slice in a block of the call's own, of whatever capacity -/
def Mine (w : World) (base : Nat) (v : Value) (zs : List Int) : Prop :=
  (v = .slice none 0 0 ∧ zs = []) ∨ ∃ g c cur, v = .slice (some ⟨g, 0, none⟩) zs.length c ∧ base ≤ g ∧ w.heap[g]? = some (.cells cur 3 (0, 0)) ∧ zs.length ≤ cur.size ∧ zs.length ≤ maxLen ∧ cur.toList.take zs.length = zs.map (Value.int .i64)
theorem Own.mine {w : World} {base : Nat} {v : Value} {zs : List Int} (h : Own w base v zs) : Mine w base v zs := by
  rcases h.2 with ⟨rfl, h0⟩ | ⟨g, cap, cur, rfl, hb, hg, hn, hm, hs, ht⟩
  · exact .inl ⟨rfl, List.eq_nil_of_length_eq_zero h0⟩
  · exact .inr ⟨g, cap, cur, rfl, hb, hg, by omega, by omega, by simpa using ht⟩
theorem Mine.clip {w : World} {base n c c' : Nat} {A : Option Addr} {zs : List Int} (h : Mine w base (.slice A n c) zs) (hc : c' = n) : Mine w base (.slice A n c') zs := by
  subst hc
  rcases h with ⟨e, h0⟩ | ⟨g, cap, cur, e, r⟩
  · simp only [Value.slice.injEq] at e
    obtain ⟨rfl, rfl, _⟩ := e
    exact .inl ⟨rfl, h0⟩
  · simp only [Value.slice.injEq] at e
    obtain ⟨rfl, rfl, _⟩ := e
    exact .inr ⟨g, _, cur, rfl, r⟩
theorem Mine.base_le {w : World} {base base' : Nat} {v : Value} {zs : List Int} (h : Mine w base v zs) (hb : base' ≤ base) : Mine w base' v zs := by
  rcases h with h | ⟨g, cap, cur, e, hg, r⟩
  · exact .inl h
  · exact .inr ⟨g, cap, cur, e, by omega, r⟩
theorem Mine.lt {w : World} {base : Nat} {v : Value} {zs : List Int} (h : Mine w base v zs) : ∀ k, v.ownBlock = some k → base ≤ k ∧ k < w.heap.size := by
  rcases h with ⟨rfl, _⟩ | ⟨g, cap, cur, rfl, hg, hc, _⟩
  · intro k hk; cases hk
  · intro k hk
    simp [Value.ownBlock] at hk
    subst hk
    exact ⟨hg, (Array.getElem?_eq_some_iff.1 hc).1⟩
theorem Mine.kept {w w' : World} {base : Nat} {v : Value} {zs : List Int} {row : Option Nat} (h : Mine w base v zs) (hg : w.grownBy w' row) (hne : v.ownBlock = none ∨ v.ownBlock ≠ row) : Mine w' base v zs := by
  rcases h with h | ⟨g, cap, cur, rfl, hb, hc, r⟩
  · exact .inl h
  · refine .inr ⟨g, cap, cur, rfl, hb, ?_, r⟩
    rw [hg.block g (Array.getElem?_eq_some_iff.1 hc).1 (by simpa [Value.ownBlock] using hne)]
    exact hc
theorem Mine.below {w w' : World} {base : Nat} {v : Value} {zs : List Int} (h : Mine w base v zs) (hb : Below w.heap.size w w') : Mine w' base v zs :=
  h.kept (row := none) ⟨hb.os, hb.tape, hb.output, hb.size, fun k hk _ => hb.block k hk⟩ (by cases v.ownBlock <;> simp)
theorem Mine.cells {w : World} {g n : Nat} {cur : Array Value} {zs : List Int} (hg : w.heap[g]? = some (.cells cur 3 (0, 0))) (hn : n = zs.length) (ht : cur.toList.take n = zs.map (Value.int .i64)) {i : Nat} (hi : i < n) : w.cell? ⟨g, i, none⟩ = some (.int .i64 (nth zs i)) := by
  rw [cell_of_row w g i cur 3 (0, 0) hg]
  have h1 : (cur.toList.take n)[i]? = some (.int .i64 (nth zs i)) := by
    rw [ht, List.getElem?_map, List.getElem?_eq_getElem (by omega)]
    simp [nth_lt (show i < zs.length by omega)]
  rw [List.getElem?_take, if_pos hi] at h1
  simpa using h1
theorem Mine.slice {w : World} {base : Nat} {v : Value} {zs : List Int} (h : Mine w base v zs) : ∃ A c, v = .slice A zs.length c ∧ IR w A zs.length zs := by
  rcases h with ⟨rfl, rfl⟩ | ⟨g, cap, cur, rfl, hb, hc, hn, hm, ht⟩
  · exact ⟨none, 0, rfl, IR.nil _ _⟩
  · refine ⟨_, cap, rfl, rfl, by unfold maxLen at hm; omega, fun _ => ⟨g, 0, rfl, (Array.getElem?_eq_some_iff.1 hc).1, fun i hi => ?_⟩⟩
    rw [Nat.zero_add]
    exact Mine.cells hc rfl ht hi
theorem Mine.sliceN {w : World} {base n : Nat} {v : Value} {zs : List Int} (h : Mine w base v zs) (hn : zs.length = n) : ∃ A c, v = .slice A n c ∧ IR w A n zs := by
  subst hn; exact h.slice
theorem Mine.ir {w : World} {base n c : Nat} {A : Option Addr} {zs : List Int} (h : Mine w base (.slice A n c) zs) : IR w A n zs := by
  obtain ⟨A', c', e, r⟩ := h.slice
  simp only [Value.slice.injEq] at e
  obtain ⟨rfl, rfl, _⟩ := e
  exact r
theorem Mine.stored {w : World} {base g n c : Nat} {zs : List Int} (h : Mine w base (.slice (some ⟨g, 0, none⟩) n c) zs) (j : Nat) (z : Int) : Mine (w.setCell ⟨g, j, none⟩ (.int .i64 z)) base (.slice (some ⟨g, 0, none⟩) n c) (zs.set j z) ∧ w.grownBy (w.setCell ⟨g, j, none⟩ (.int .i64 z)) (some g) := by
  rcases h with ⟨e, _⟩ | ⟨g', cap, cur, e, hb, hc, hn, hm, ht⟩
  · cases e
  · simp only [Value.slice.injEq, Option.some.injEq, Addr.mk.injEq, and_true] at e
    obtain ⟨rfl, rfl, rfl⟩ := e
    refine ⟨.inr ⟨g, c, cur.setIfInBounds j (.int .i64 z), by simp, hb, ?_, by simpa using hn, by simpa using hm, ?_⟩, ⟨rfl, rfl, rfl, by simp [World.setCell], fun k _ hne => heap_setCell_other w ⟨g, j, none⟩ k _ (fun e => hne (by simp [e]))⟩⟩
    · exact heap_setCell_same w g j _ _ _ hc
    · rw [Array.toList_setIfInBounds, List.length_set, List.take_set, ht, List.map_set]
theorem Mine.frozenAt {w : World} {base g n c : Nat} {zs : List Int} (h : Mine w base (.slice (some ⟨g, 0, none⟩) n c) zs) (j : Nat) : w.frozen? ⟨g, j, none⟩ = false := by
  rcases h with ⟨e, _⟩ | ⟨g', cap, cur, e, hb, hc, hn, hm, ht⟩
  · cases e
  · simp only [Value.slice.injEq, Option.some.injEq, Addr.mk.injEq, and_true] at e
    obtain ⟨rfl, rfl, rfl⟩ := e
    exact frozen_of_row w g j cur 3 hc
theorem Mine.open {w : World} {base : Nat} {v : Value} {zs : List Int} (h : Mine w base v zs) : ∃ A n c, v = .slice A n c ∧ Hid (zs.length = n) := by
  obtain ⟨A, c, e, _⟩ := h.slice
  exact ⟨A, _, c, e, Lib.hid rfl⟩
/-- two values whose blocks lie in different stretches -/
theorem ne_blocks {v u : Value} {a b c d : Nat} (h : ∀ k, v.ownBlock = some k → a ≤ k ∧ k < b) (h' : ∀ k, u.ownBlock = some k → c ≤ k ∧ k < d) (hle : b ≤ c ∨ d ≤ a) : v.ownBlock = none ∨ v.ownBlock ≠ u.ownBlock := by
  cases hv : v.ownBlock with
  | none => exact .inl rfl
  | some k => right; intro e; have := h k hv; have := h' k e.symm; omega
theorem ne_symm {v u : Value} (h : v.ownBlock = none ∨ v.ownBlock ≠ u.ownBlock) : u.ownBlock = none ∨ u.ownBlock ≠ v.ownBlock := by
  cases hu : u.ownBlock with
  | none => exact .inl rfl
  | some k => right; intro e; rcases h with h | h; (· rw [h] at e; cases e); exact h (e.symm.trans hu.symm)
/-- a call that returns numbers in a slice of its own, and turns nothing that was there -/
def RInts (w : World) (zs : List Int) (e : Ending) (w' : World) : Prop := (∃ v, e = .returned v ∧ Own w' w.heap.size v zs) ∧ Below w.heap.size w w'
/-- 'make([]int, 0, n)' -/
theorem wpList_make0_ints {ops : Array Oper} {rest : List Oper} {o : Oper} {a : Act} {Q : Exit → Act → World → Prop} {w : World} (base n : Nat) (hg : o.guard = none) (l c : Operand) (hop : o.op = Op.makeSlice 22 l c)
    (hl : a.eval l = .int .i64 0) (C : Int) (hc : a.eval c = .int .i64 C) (hC : C = (n : Int)) (hn : n ≤ 8388608) (hb : base ≤ w.heap.size)
    (hK : ∀ w', Own w' base (.slice (some ⟨w.heap.size, 0, none⟩) 0 n) [] → Below base w w' → w.grownBy w' none → wpList Try.prog ops Q rest (a.put o.dst (.slice (some ⟨w.heap.size, 0, none⟩) 0 n)) w') :
    wpList Try.prog ops Q (o :: rest) a w := by
  obtain ⟨i0, hi, hz0, hz1, hz2⟩ := info_parts int_info
  exact wpList_make_own _ hg l c 22 hop base 3 i0 (.int .i64 0) 1 Try.underlying22 hi hz0 hz1 _ _ _ n hl hc hC (by rw [hz2]; omega) (by unfold maxLen; omega) hb
    fun w' h1 h2 => hK w' h1 ((Below.refl _ _).grown h2 hb (by simp)) h2
theorem Own.nil0 (w : World) (base : Nat) (hb : base ≤ w.heap.size) : Own (w.alloc (.cells #[] 3)) base (.slice (some ⟨w.heap.size, 0, none⟩) 0 0) [] := Own.lit w base [] hb (by simp)
/-- 'make([]int, n)' -/
theorem wpList_make_ints {ops : Array Oper} {rest : List Oper} {o : Oper} {a : Act} {Q : Exit → Act → World → Prop} {w : World} (base n : Nat) (hg : o.guard = none) (l c : Operand) (hop : o.op = Op.makeSlice 22 l c)
    (L C : Int) (hl : a.eval l = .int .i64 L) (hc : a.eval c = .int .i64 C) (hL : L = (n : Int)) (hC : C = (n : Int)) (hn : n ≤ 8388608) (hb : base ≤ w.heap.size)
    (hK : ∀ w', Own w' base (.slice (some ⟨w.heap.size, 0, none⟩) n n) (List.replicate n 0) → Below base w w' → w.grownBy w' none → wpList Try.prog ops Q rest (a.put o.dst (.slice (some ⟨w.heap.size, 0, none⟩) n n)) w') :
    wpList Try.prog ops Q (o :: rest) a w := by
  obtain ⟨i0, hi, hz0, hz1, hz2⟩ := info_parts int_info
  refine wpList_make_full _ hg l c 22 hop base 3 i0 (.int .i64 0) 1 Try.underlying22 hi hz0 hz1 _ _ _ _ n hl hc hL hC (by rw [hz2]; omega) (by unfold maxLen; omega) hb
    fun w' h1 h2 => hK w' ?_ ((Below.refl _ _).grown h2 hb (by simp)) h2
  rw [made_ints] at h1
  unfold Own
  rw [List.length_replicate]
  simpa using h1
/-- 'out = append(out, x)': the number is laid in a block of its own first -/
theorem wpList_append1 {ops : Array Oper} {rest : List Oper} {o : Oper} {a : Act} {Q : Exit → Act → World → Prop} {w : World} {base : Nat} {v : Value} {xs : List Int} {x : Int} (hown : Own w base v xs) (s y : Operand) (hw : Region.wanted o (yielded ops a.tmps) = true)
    (ho : o.op = .call { callee := .builtin .append, args := #[s, y], argTypes := #[22, 22] }) (hs : a.eval s = v) (hx : a.eval y = .slice (some ⟨w.heap.size, 0, none⟩) 1 1)
    (hl : xs.length + 1 ≤ 8388608) (hb : base ≤ w.heap.size)
    (h : ∀ v' w', Own w' base v' (xs ++ [x]) → Below base w w' → w.grownBy w' v.ownBlock → (v'.ownBlock = v.ownBlock ∨ ∃ g, v'.ownBlock = some g ∧ w.heap.size ≤ g) → wpList Try.prog ops Q rest (a.put o.dst v') w') : wpList Try.prog ops Q (o :: rest) a (w.alloc (.cells #[.int .i64 x] 3)) := by
  refine wpList_append_ints (hown.alloc _) (lit1 w x) s y hw ho hs hx (by simpa using hl) (by simp; omega) fun v' w' h2 h3 h4 => h v' w' h2 ?_ ?_ ?_
  · exact ((Below.refl base w).alloc hb _).grown h3 (by simp; omega) (fun k hk => (hown.lt k hk).1)
  · exact grown_seq (World.grownBy_alloc w _ _) h3
  · rcases h4 with h4 | h4
    · exact .inl h4
    · exact .inr ⟨_, h4, by simp⟩
set_option maxHeartbeats 400000 in
theorem within_any (n l h : Int) (w : World) :
    Calls Try.prog 21 #[.int .i64 n, .int .i64 l, .int .i64 h] w fun e w' => e = .returned (.bool (decide (l ≤ n) && decide (n ≤ h))) ∧ w = w' := by
  go_enter Try.func21, Try.ntmps21
  go_wp2
  all_goals go_ret
  all_goals (refine ⟨?_, rfl⟩; simp [*]; try omega)
theorem within_b (b : Bool) (n l h : Int) (hb : (decide (l ≤ n) && decide (n ≤ h)) = b) (w : World) :
    Calls Try.prog 21 #[.int .i64 n, .int .i64 l, .int .i64 h] w fun e w' => e = .returned (.bool b) ∧ w = w' :=
  (within_any n l h w).mono fun _ _ ⟨a, c⟩ => ⟨by rw [a, hb], c⟩
set_option maxHeartbeats 400000 in
theorem l1In_any (n l h : Int) (w : World) :
    Calls Try.prog 15 #[.int .i64 n, .int .i64 l, .int .i64 h] w fun e w' => e = .returned (.bool (decide (l ≤ n) && decide (n ≤ h))) ∧ w = w' := by
  go_enter Try.func15, Try.ntmps15
  go_wp2
  all_goals go_ret
  all_goals (refine ⟨?_, rfl⟩; simp [*]; try omega)
theorem l1In_b (b : Bool) (n l h : Int) (hb : (decide (l ≤ n) && decide (n ≤ h)) = b) (w : World) :
    Calls Try.prog 15 #[.int .i64 n, .int .i64 l, .int .i64 h] w fun e w' => e = .returned (.bool b) ∧ w = w' :=
  (l1In_any n l h w).mono fun _ _ ⟨a, c⟩ => ⟨by rw [a, hb], c⟩

set_option maxHeartbeats 400000 in
theorem toIntS_any (A : Option Addr) (n c : Nat) (zs : List Int) (w : World) (h : IR w A n zs) (hn : n ≤ 4194304) :
    Calls Try.prog 5 #[.slice A n c] w fun e w' => (∃ v, e = .returned v ∧ Own w' w.heap.size v zs ∧ v = .slice (some ⟨w.heap.size, 0, none⟩) n n) ∧ Below w.heap.size w w' := by
  obtain ⟨i0, hi, hz0, hz1, hz2⟩ := info_parts int_info
  obtain ⟨hlen, hmax, hat⟩ := h
  go_enter Try.func5, Try.ntmps5
  go_wp2_with (at_make; refine wpList_make_full _ rfl _ _ 22 rfl w.heap.size 3 i0 (.int .i64 0) 1 Try.underlying22 hi hz0 hz1 _ _ _ _ n rfl rfl rfl rfl (by rw [hz2]; omega) (by unfold maxLen; omega) (Nat.le_refl _) ?_; intro w1 hown hgrow)
  have hb1 : Below w.heap.size w w1 := (Below.refl _ _).grown hgrow (Nat.le_refl _) (by simp)
  rw [made_ints] at hown
  clear hgrow hi hz0 hz1 hz2
  go_loopw [4] (fun i wr => ∃ k : Nat, k ≤ n ∧ i = .int .i64 k ∧ wr.ownsRow w.heap.size 3 1 (.slice (some ⟨w.heap.size, 0, none⟩) n n) n ((zs.take k ++ List.replicate (n - k) 0).map (Value.int .i64)) ∧ Below w.heap.size w wr)
    (fun i _ => n - (intOf i).toNat)
  case atStart => exact ⟨0, by omega, rfl, by simpa using hown, hb1⟩
  case round =>
    obtain ⟨k, hk, rfl, ho, hb⟩ := hrel
    clear hown
    by_cases hlt : k < n
    · obtain ⟨b, o, rfl, hbl, hc⟩ := hat (by omega)
      have hck : wr.cell? ⟨b, o + k, none⟩ = some (.int .i64 (nth zs k)) := (hb.cell (p := ⟨b, o + k, none⟩) hbl).trans (hc k hlt)
      have hcg : wr.cell? ⟨w.heap.size, k, none⟩ = some (.int .i64 0) := by
        rw [ho.cellAt k (by omega), List.getElem?_map, List.getElem?_append_right (by simp; omega), List.getElem?_replicate, if_pos (by simp; omega)]
        rfl
      have hfg := ho.frozenAt k
      have hst := ho.stored k (.int .i64 (nth zs k))
      have hq : ((zs.take k ++ List.replicate (n - k) 0).map (Value.int .i64)).set k (.int .i64 (nth zs k)) = (zs.take (k + 1) ++ List.replicate (n - (k + 1)) 0).map (Value.int .i64) := by
        rw [take_succ_nth (by omega), ← List.map_set]
        congr 1
        rw [List.set_append_right _ _ (by simp; omega), List.append_assoc]
        congr 1
        rw [show k - (zs.take k).length = 0 by simp; omega, show n - k = (n - (k + 1)) + 1 by omega, List.replicate_succ]
        rfl
      rw [hq] at hst
      have hs := hb.size
      have H := Lib.hid hst
      clear hst hq ho hc hat
      go_wp2
      go_roundw
      case rel => exact ⟨k + 1, by omega, by go_num, H.out.1, hb.setCell (Nat.le_refl _) _⟩
      case measure => simp [intOf]; omega
    · obtain rfl : k = n := by omega
      rw [List.take_of_length_le (by omega), Nat.sub_self, List.replicate_zero, List.append_nil] at ho
      go_wp2
      go_ret
      exact ⟨⟨_, rfl, by unfold Own; rw [hlen]; exact ho, rfl⟩, hb⟩
set_option maxHeartbeats 400000 in
theorem eqIntS_any (A B : Option Addr) (n c m d : Nat) (xs ys : List Int) (w : World) (hx : IR w A n xs) (hy : IR w B m ys) :
    Calls Try.prog 7 #[.slice A n c, .slice B m d] w fun e w' => e = .returned (.bool (xs == ys)) ∧ ∃ q, w' = w.drewN q := by
  obtain ⟨hlx, hmx, hax⟩ := hx
  obtain ⟨hly, hmy, hay⟩ := hy
  by_cases hnm : n = m
  · subst hnm
    go_enter Try.func7, Try.ntmps7
    go_wp2
    go_loopw [5] (fun i wr => ∃ k q : Nat, k ≤ n ∧ i = .int .i64 k ∧ (∀ j, j < k → nth xs j = nth ys j) ∧ wr = w.drewN q) (fun i _ => n - (intOf i).toNat)
    case atStart => exact ⟨0, 0, by omega, rfl, fun j hj => absurd hj (by omega), rfl⟩
    case round =>
      obtain ⟨k, q, hk, rfl, heq, rfl⟩ := hrel
      have HE := Lib.hid heq
      clear heq
      by_cases hlt : k < n
      · obtain ⟨b, o, rfl, hbl, hc⟩ := hax (by omega)
        obtain ⟨b', o', rfl, hbl', hc'⟩ := hay (by omega)
        have h1 := hc k hlt
        have h2 := hc' k hlt
        clear hc hc' hax hay
        go_wp2
        go_quiet (fail)
        by_cases he : nth xs k = nth ys k
        · have e1 : (nth xs k == nth ys k) = true := by simpa using he
          have e2 : (nth xs k != nth ys k) = false := by simpa using he
          clear he
          go_wp2
          go_roundw
          case rel =>
            refine ⟨k + 1, _, by omega, by go_num, fun j hj => ?_, rfl⟩
            rcases Nat.lt_or_ge j k with h | h
            · exact HE.out j h
            · obtain rfl : j = k := by omega
              simpa using e1
          case measure => simp [intOf]; omega
        · have e1 : (nth xs k == nth ys k) = false := by simpa using he
          have e2 : (nth xs k != nth ys k) = true := by simpa using he
          have e3 := Lib.hid (ne_of_nth he)
          clear he
          go_wp2
          go_ret
          exact ⟨by rw [e3.out]; rfl, q + nq, by rw [World.drewN_drewN]⟩
      · obtain rfl : k = n := by omega
        have e3 := Lib.hid (eq_of_nth (xs := xs) (ys := ys) (by omega) (by rw [hlx]; exact HE.out))
        go_wp2
        go_ret
        exact ⟨by rw [e3.out]; rfl, _, rfl⟩
  · have e0 : ((n : Int) != (m : Int)) = true := by simp; omega
    have e0' : ((n : Int) == (m : Int)) = false := by simp; omega
    have e1 : (xs == ys) = false := by
      rw [beq_eq_false_iff_ne]; rintro rfl; omega
    have E1 := Lib.hid e1
    clear e1
    go_enter Try.func7, Try.ntmps7
    go_wp2
    go_ret
    exact ⟨by rw [E1.out]; rfl, 0, rfl⟩
end Go.Proofs.Ytlaidoomjnhlaaa
