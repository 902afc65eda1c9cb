/-
  The state of the reference's search: the ranks that were seen, the tables, the steps.
  No condition.
-/
import Derived.Test.YtlaidoomjnhlaaaTwo
import Derived.Test.YtlaidoomjnhlaaaTable
import Derived.Lib.AppendZeros
namespace Go.Proofs.Ytlaidoomjnhlaaa
open Go.RowKit Go.Sort base
theorem slice_info : (Try.prog.info? 22).map (fun i => (i.zero, i.size, i.bytes)) = some (some (.slice none 0 0), 1, 24) := by kernel_rfl
/-- the ranks of the first L tables, and their steps -/
def rks (L : Nat) : List Int := tab L fun i => (rank4 (tab4 i) : Int)
def frs (L : Nat) : List Int := tab L fun i => (far4 i : Int)
theorem rks_len (L : Nat) : (rks L).length = L := tab_len _ _
theorem frs_len (L : Nat) : (frs L).length = L := tab_len _ _
theorem rks_succ (L : Nat) : rks (L + 1) = rks L ++ [(rank4 (tab4 L) : Int)] := tab_succ _ _
theorem frs_succ (L : Nat) : frs (L + 1) = frs L ++ [(far4 L : Int)] := tab_succ _ _
def stepQ (k j : Nat) : Bool :=
  let L := found (5 * k + j)
  if hasQ (rks L) (rank4 (act j (tab4 k)) : Int) then found (5 * k + (j + 1)) == L
  else found (5 * k + (j + 1)) == L + 1 && decide (L < 24) && (tab4 L == act j (tab4 k)) && (far4 L == far4 k + 1)
theorem step_all : ∀ k, k < 24 → ∀ j, j < 5 → stepQ k j = true := by decide +kernel
theorem step_old {k j : Nat} (hk : k < 24) (hj : j < 5) (h : hasQ (rks (found (5 * k + j))) (rank4 (act j (tab4 k)) : Int) = true) : found (5 * k + (j + 1)) = found (5 * k + j) := by
  have := step_all k hk j hj
  unfold stepQ at this
  simp only [h, if_true] at this
  simpa using this
theorem step_new {k j : Nat} (hk : k < 24) (hj : j < 5) (h : hasQ (rks (found (5 * k + j))) (rank4 (act j (tab4 k)) : Int) = false) : found (5 * k + (j + 1)) = found (5 * k + j) + 1 ∧ found (5 * k + j) < 24 ∧ tab4 (found (5 * k + j)) = act j (tab4 k) ∧ far4 (found (5 * k + j)) = far4 k + 1 := by
  have := step_all k hk j hj
  unfold stepQ at this
  simp only [h] at this
  simp only [Bool.false_eq_true, if_false, Bool.and_eq_true, beq_iff_eq, decide_eq_true_eq] at this
  exact ⟨this.1.1.1, this.1.1.2, this.1.2, this.2⟩
theorem act_small : ∀ k, k < 24 → ∀ j, j < 5 → Small4 (act j (tab4 k)) := by unfold Small4; decide +kernel
/-- the number at a place of a table -/
def at4 (t : T4) (i : Nat) : Nat := if i = 0 then t.1 else if i = 1 then t.2.1 else if i = 2 then t.2.2.1 else t.2.2.2
theorem ints4_nth (t : T4) {i : Nat} (h : i < 4) : nth (ints4 t) i = (at4 t i : Int) := by
  rcases (show i = 0 ∨ i = 1 ∨ i = 2 ∨ i = 3 by omega) with rfl | rfl | rfl | rfl <;> rfl
theorem tab_act (j : Nat) (t : T4) : tab 4 (fun i => (one4 j (at4 t i) : Int)) = ints4 (act j t) := rfl
theorem at4_small {t : T4} (h : Small4 t) (i : Nat) : at4 t i < 4 := by
  obtain ⟨h1, h2, h3, h4⟩ := h
  unfold at4
  split
  · exact h1
  split
  · exact h2
  split
  · exact h3
  · exact h4
def runQ (j x : Nat) : Bool := gateRun 2 (gth gates5 j).1 (gth gates5 j).2.1 (gth gates5 j).2.2.1 (gth gates5 j).2.2.2 (x : Int) == (one4 j x : Int)
theorem run_all : ∀ j, j < 5 → ∀ x, x < 4 → runQ j x = true := by decide +kernel
theorem run_one {j x : Nat} (hj : j < 5) (hx : x < 4) : gateRun 2 (gth gates5 j).1 (gth gates5 j).2.1 (gth gates5 j).2.2.1 (gth gates5 j).2.2.2 (x : Int) = (one4 j x : Int) := by
  have := run_all j hj x hx
  unfold runQ at this
  exact eq_of_beq this
theorem ir_grown {w w' : World} {b n : Nat} {zs : List Int} {row : Option Nat} (h : IR w (some ⟨b, 0, none⟩) n zs) (hg : w.grownBy w' row) (hne : some b ≠ row) : IR w' (some ⟨b, 0, none⟩) n zs :=
  ⟨h.len, h.max, fun hn => by
    obtain ⟨b', o, e, hb, hc⟩ := h.at_ hn
    simp only [Option.some.injEq, Addr.mk.injEq, and_true] at e
    obtain ⟨rfl, rfl⟩ := e
    exact ⟨b, 0, rfl, by have := hg.size; omega, fun i hi => (World.cell?_of_block (hg.block b hb hne)).trans (hc i hi)⟩⟩
theorem grown_of_below {w w' : World} (hb : Below w.heap.size w w') (row : Option Nat) : w.grownBy w' row := ⟨hb.os, hb.tape, hb.output, hb.size, fun k hk _ => hb.block k hk⟩
/-- a table that lies somewhere, and in none of three blocks -/
def TabAt (w : World) (base : Nat) (v3 v4 v5 u : Value) (t : T4) : Prop := ∃ b c, u = .slice (some ⟨b, 0, none⟩) 4 c ∧ IR w (some ⟨b, 0, none⟩) 4 (ints4 t) ∧ base ≤ b ∧ b < w.heap.size ∧ v3.ownBlock ≠ some b ∧ v4.ownBlock ≠ some b ∧ v5.ownBlock ≠ some b
structure St (w : World) (L3 L4 L5 : Nat) (v3 v4 v5 : Value) (wr : World) : Prop where
  b : Below w.heap.size w wr
  seen : Own wr w.heap.size v3 (rks L3)
  row : ∃ cs, wr.ownsRow w.heap.size 22 1 v4 L4 cs ∧ ∀ i, i < L4 → ∃ u, cs[i]? = some u ∧ TabAt wr w.heap.size v3 v4 v5 u (tab4 i)
  steps : Own wr w.heap.size v5 (frs L5)
  n34 : v3.ownBlock ≠ v4.ownBlock
  n35 : v3.ownBlock ≠ v5.ownBlock
  n45 : v4.ownBlock ≠ v5.ownBlock
/-- the new value of a slice: in its old block, or in a fresh one -/
def Fresh (v v' : Value) (n : Nat) : Prop := v'.ownBlock = v.ownBlock ∨ ∃ g, v'.ownBlock = some g ∧ n ≤ g
theorem fresh_ne {v v' : Value} {n b : Nat} (h : Fresh v v' n) (hb : b < n) (hv : v.ownBlock ≠ some b) : v'.ownBlock ≠ some b := by
  rcases h with h | ⟨g, h, hg⟩
  · rw [h]; exact hv
  · rw [h]; intro e; simp at e; omega
theorem fresh_other {v v' u : Value} {n : Nat} (h : Fresh v v' n) (hn : u.ownBlock ≠ v.ownBlock) (hu : ∀ g, u.ownBlock = some g → g < n) : u.ownBlock ≠ v'.ownBlock := by
  rcases h with h | ⟨g, h, hg⟩
  · rw [h]; exact hn
  · rw [h]; intro e; have := hu g e; omega
theorem TabAt.move {w wr wr' : World} {v3 v4 v5 u3 u4 u5 u : Value} {t : T4} {row : Option Nat} (h : TabAt wr w.heap.size v3 v4 v5 u t) (hg : wr.grownBy wr' row) (h3 : Fresh v3 u3 wr.heap.size) (h4 : Fresh v4 u4 wr.heap.size) (h5 : Fresh v5 u5 wr.heap.size) (hr : row = none ∨ row = v3.ownBlock ∨ row = v4.ownBlock ∨ row = v5.ownBlock) : TabAt wr' w.heap.size u3 u4 u5 u t := by
  obtain ⟨b, c, rfl, hi, hb, hl, n3, n4, n5⟩ := h
  refine ⟨b, c, rfl, ir_grown hi hg ?_, hb, by have := hg.size; omega, fresh_ne h3 hl n3, fresh_ne h4 hl n4, fresh_ne h5 hl n5⟩
  rcases hr with e | e | e | e
  · rw [e]; simp
  · rw [e]; exact fun x => n3 x.symm
  · rw [e]; exact fun x => n4 x.symm
  · rw [e]; exact fun x => n5 x.symm
theorem Fresh.same (v : Value) (n : Nat) : Fresh v v n := .inl rfl
theorem St.below {w wr wr' : World} {L3 L4 L5 : Nat} {v3 v4 v5 : Value} (h : St w L3 L4 L5 v3 v4 v5 wr) (hb : Below wr.heap.size wr wr') : St w L3 L4 L5 v3 v4 v5 wr' := by
  obtain ⟨cs, hr, hc⟩ := h.row
  have hn : ∀ v : Value, v.ownBlock = none ∨ v.ownBlock ≠ none := fun v => by cases v.ownBlock <;> simp
  refine ⟨bseq h.b hb, h.seen.below hb, ⟨cs, hr.kept (grown_of_below hb none) (hn _), fun i hi => ?_⟩, h.steps.below hb, h.n34, h.n35, h.n45⟩
  obtain ⟨u, hu, ht⟩ := hc i hi
  exact ⟨u, hu, ht.move (grown_of_below hb none) (.same _ _) (.same _ _) (.same _ _) (.inl rfl)⟩
theorem St.put3 {w wr wr' : World} {L3 L4 L5 : Nat} {v3 v4 v5 v' : Value} (h : St w L3 L4 L5 v3 v4 v5 wr) (ho : Own wr' w.heap.size v' (rks (L3 + 1))) (hg : wr.grownBy wr' v3.ownBlock) (hf : Fresh v3 v' wr.heap.size) : St w (L3 + 1) L4 L5 v' v4 v5 wr' := by
  obtain ⟨cs, hr, hc⟩ := h.row
  refine ⟨h.b.grown hg h.b.size (fun k hk => (h.seen.lt k hk).1), ho, ⟨cs, hr.kept hg (.inr h.n34.symm), fun i hi => ?_⟩, h.steps.kept hg (.inr h.n35.symm), ?_, ?_, h.n45⟩
  · obtain ⟨u, hu, ht⟩ := hc i hi
    exact ⟨u, hu, ht.move hg hf (.same _ _) (.same _ _) (.inr (.inl rfl))⟩
  · exact (fresh_other hf h.n34.symm (fun g e => (hr.lt g e).2)).symm
  · exact (fresh_other hf h.n35.symm (fun g e => (h.steps.lt g e).2)).symm
theorem St.put5 {w wr wr' : World} {L3 L4 L5 : Nat} {v3 v4 v5 v' : Value} (h : St w L3 L4 L5 v3 v4 v5 wr) (ho : Own wr' w.heap.size v' (frs (L5 + 1))) (hg : wr.grownBy wr' v5.ownBlock) (hf : Fresh v5 v' wr.heap.size) : St w L3 L4 (L5 + 1) v3 v4 v' wr' := by
  obtain ⟨cs, hr, hc⟩ := h.row
  refine ⟨h.b.grown hg h.b.size (fun k hk => (h.steps.lt k hk).1), h.seen.kept hg (.inr h.n35), ⟨cs, hr.kept hg (.inr h.n45), fun i hi => ?_⟩, ho, h.n34, ?_, ?_⟩
  · obtain ⟨u, hu, ht⟩ := hc i hi
    exact ⟨u, hu, ht.move hg (.same _ _) (.same _ _) hf (.inr (.inr (.inr rfl)))⟩
  · exact fresh_other hf h.n35 (fun g e => (h.seen.lt g e).2)
  · exact fresh_other hf h.n45 (fun g e => (hr.lt g e).2)
/-- the tables' row is where it is, and its cells -/
theorem St.at_ {w wr : World} {L3 L4 L5 : Nat} {v3 v4 v5 : Value} (h : St w L3 L4 L5 v3 v4 v5 wr) (h0 : 0 < L4) : ∃ g c, v4 = .slice (some ⟨g, 0, none⟩) L4 c ∧ ∀ i, i < L4 → ∃ b c', wr.cell? ⟨g, i, none⟩ = some (.slice (some ⟨b, 0, none⟩) 4 c') ∧ IR wr (some ⟨b, 0, none⟩) 4 (ints4 (tab4 i)) := by
  obtain ⟨cs, ho, hi⟩ := h.row
  rcases ho.2 with ⟨_, h1⟩ | ⟨g, cap, cur, hv, hb, hg, hn, hm, hs, ht⟩
  · omega
  · refine ⟨g, cap, hv, fun i hil => ?_⟩
    obtain ⟨u, hu, b, c', rfl, hir, _⟩ := hi i hil
    refine ⟨b, c', ?_, hir⟩
    rw [cell_of_row wr g i cur _ _ hg]
    have e : (cur.toList.take (L4 * 1))[i]? = cs[i]? := by rw [ht]
    rw [List.getElem?_take_of_lt (by omega)] at e
    rw [← Array.getElem?_toList, e, hu]
theorem wpList_append_tab {ops : Array Oper} {rest : List Oper} {o : Oper} {a : Act} {Q : Exit → Act → World → Prop} {w W : World} {L3 L4 L5 b c : Nat} {v3 v4 v5 : Value} {t : T4} (h : St w L3 L4 L5 v3 v4 v5 W) (ht : IR W (some ⟨b, 0, none⟩) 4 (ints4 t)) (e : tab4 L4 = t) (hb0 : w.heap.size ≤ b) (n3 : v3.ownBlock ≠ some b) (n4 : v4.ownBlock ≠ some b) (n5 : v5.ownBlock ≠ some b) (s y : Operand) (hw : Region.wanted o (yielded ops a.tmps) = true)
    (ho : o.op = .call { callee := .builtin .append, args := #[s, y], argTypes := #[28, 28] }) (hs : a.eval s = v4) (hx : a.eval y = .slice (some ⟨W.heap.size, 0, none⟩) 1 1)
    (hl : L4 ≤ 1000)
    (hK : ∀ v' w', Hid (St w L3 (L4 + 1) L5 v3 v' v5 w') → W.grownBy w' v4.ownBlock → Fresh v4 v' W.heap.size → wpList Try.prog ops Q rest (a.put o.dst v') w') : wpList Try.prog ops Q (o :: rest) a (W.alloc (.cells #[.slice (some ⟨b, 0, none⟩) 4 c] 22)) := by
  obtain ⟨i0, hi, hz0, hz1, hz2⟩ := info_parts slice_info
  obtain ⟨cs, hrow, hat⟩ := h.row
  have hbl : b < W.heap.size := by
    obtain ⟨b', o', e', hl', _⟩ := ht.at_ (by omega)
    simp only [Option.some.injEq, Addr.mk.injEq, and_true] at e'
    obtain ⟨rfl, rfl⟩ := e'
    exact hl'
  have hsz := h.b.size
  obtain ⟨v', w', h1, h2, h3, _, h5⟩ := run_append_own_at (P := Try.prog) (W.alloc (.cells #[.slice (some ⟨b, 0, none⟩) 4 c] 22)) w.heap.size 28 o.type 22 i0 (.slice none 0 0) 1 24 Try.underlying28 hi hz0 hz1 hz2 rfl (by decide) v4 L4 cs (hrow.alloc _) ⟨W.heap.size, 0, none⟩ 1 1 [.slice (some ⟨b, 0, none⟩) 4 c]
    (by simp) (cell_one_new _ _ _) (by simp [Value.oneCell']) (by unfold maxLen; omega) (by omega) (by simp; omega)
  have hg : W.grownBy w' v4.ownBlock := grown_seq (World.grownBy_alloc W _ _) h3
  have hf : Fresh v4 v' W.heap.size := by
    rcases h5 with h5 | h5
    · exact .inl h5
    · exact .inr ⟨_, h5, by simp⟩
  have hS : St w L3 (L4 + 1) L5 v3 v' v5 w' := by
    refine ⟨h.b.grown hg hsz (fun k hk => (hrow.lt k hk).1), h.seen.kept hg (.inr h.n34), ⟨_, h2, fun i hi' => ?_⟩, h.steps.kept hg (.inr h.n45.symm), ?_, h.n35, ?_⟩
    · have hcl : cs.length = L4 := by have := hrow.1; omega
      by_cases hil : i < L4
      · obtain ⟨u, hu, hta⟩ := hat i hil
        refine ⟨u, ?_, hta.move hg (.same _ _) hf (.same _ _) (.inr (.inr (.inl rfl)))⟩
        rw [List.getElem?_append_left (List.getElem?_eq_some_iff.1 hu).1]
        exact hu
      · obtain rfl : i = L4 := by omega
        refine ⟨.slice (some ⟨b, 0, none⟩) 4 c, ?_, b, c, rfl, ?_, hb0, by have := hg.size; omega, n3, fresh_ne hf hbl n4, n5⟩
        · rw [List.getElem?_append_right (by omega), hcl, Nat.sub_self]; rfl
        · rw [e]; exact ir_grown ht hg (fun x => n4 x.symm)
    · exact fresh_other hf h.n34 (fun g e => (h.seen.lt g e).2)
    · exact (fresh_other hf h.n45.symm (fun g e => (h.steps.lt g e).2)).symm
  refine wpList_step fun _ hQ => by
    rw [if_pos hw]
    refine Lib.wp_append_run _ s y _ _ ho _ _ hs hx v' w' h1 (hQ _ _ (hK v' w' hS hg hf))
end Go.Proofs.Ytlaidoomjnhlaaa
