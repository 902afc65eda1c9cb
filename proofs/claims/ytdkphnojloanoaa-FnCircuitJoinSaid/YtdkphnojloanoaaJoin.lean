/-
  Circuits one behind the other, by the program and by the reference; what circuits cost; the draw of two circuits.
  No condition.
-/
import Derived.Lib.AppendZeros
import Derived.Outline
import Derived.Test.YtdkphnojloanoaaStep3
namespace Go.Proofs.Ytdkphnojloanoaa
open Go.RowKit Go.Sort base
/-- the cells of some gates that are read -/
theorem GR.cells {w : World} {b o n : Nat} {gs : List G4} (hl : gs.length = n) (h : ∀ i, i < n → GAt w b (o + i * 4) (gth gs i)) : ∀ j u, (gcells gs)[j]? = some u → w.cell? ((⟨b, o, none⟩ : Addr).add j) = some u := by
  intro j u hu
  have hj : j < gs.length * 4 := by rw [← gcells_len]; exact (List.getElem?_eq_some_iff.1 hu).1
  have e : j = j / 4 * 4 + j % 4 := by omega
  have hi : j / 4 < gs.length := by omega
  have hg := h (j / 4) (by omega)
  obtain ⟨h0, h1, h2, h3⟩ := hg
  rw [e] at hu
  rw [gcells_at gs (j / 4) (j % 4) hi (by omega)] at hu
  rw [Addr.add_lit]
  rcases (show j % 4 = 0 ∨ j % 4 = 1 ∨ j % 4 = 2 ∨ j % 4 = 3 by omega) with hr | hr | hr | hr <;> rw [hr] at hu <;> simp [gcell] at hu <;> subst hu
  · rw [show o + j = o + j / 4 * 4 by omega]; exact h0
  · rw [show o + j = o + j / 4 * 4 + 1 by omega]; exact h1
  · rw [show o + j = o + j / 4 * 4 + 2 by omega]; exact h2
  · rw [show o + j = o + j / 4 * 4 + 3 by omega]; exact h3
/-- 'append(out, c...)' onto a slice of the call's own -/
theorem run_append_gates {w : World} {base : Nat} {v : Value} {gs ns : List G4} {A : Option Addr} {m c : Nat} {ty : TypeId} (hown : OwnG w base v gs) (hr : GR w A m ns) (hl : gs.length + ns.length ≤ 1000) (hb : base ≤ w.heap.size) :
    ∃ v' w', (Builtin.append_ #[24, 24] ty #[v, .slice A m c]).run Try.prog w = .ok v' w' ∧ OwnG w' base v' (gs ++ ns) ∧ w.grownBy w' v.ownBlock ∧ (v'.ownBlock = v.ownBlock ∨ v'.ownBlock = some w.heap.size) := by
  obtain ⟨i0, hi, hz0, hz1, hz2⟩ := info_parts gate_info'
  have hlen := hr.len
  have hcat : gcells (gs ++ ns) = gcells gs ++ gcells ns := by simp [gcells]
  have key : ∀ ad, (∀ j u, (gcells ns)[j]? = some u → w.cell? (ad.add j) = some u) →
      ∃ v' w', (Builtin.append_ #[24, 24] ty #[v, .slice (some ad) m c]).run Try.prog w = .ok v' w' ∧ OwnG w' base v' (gs ++ ns) ∧ w.grownBy w' v.ownBlock ∧ (v'.ownBlock = v.ownBlock ∨ v'.ownBlock = some w.heap.size) := by
    intro ad hc
    obtain ⟨v', w', h1, h2, h3, _, h5⟩ := run_append_own_at (P := Try.prog) w base 24 ty 33 i0 _ 4 32 Try.underlying24 hi hz0 hz1 hz2 rfl (by decide) v gs.length (gcells gs) hown ad m c (gcells ns)
      (by rw [gcells_len]; omega) hc (oneCells ns) (by unfold maxLen; omega) (by omega) hb
    refine ⟨v', w', h1, ?_, h3, h5⟩
    unfold OwnG
    rw [List.length_append, hcat, hlen]
    exact h2
  rcases A with _ | ad
  · have hm : m = 0 := by
      rcases Nat.eq_zero_or_pos m with h0 | h0
      · exact h0
      · obtain ⟨b, o, h, _⟩ := hr.at_ h0
        cases h
    subst hm
    obtain rfl : ns = [] := List.eq_nil_of_length_eq_zero hlen
    refine ⟨v, w, ?_, by simpa using hown, World.grownBy.refl w _, .inl rfl⟩
    rcases hown.2 with ⟨rfl, _⟩ | ⟨g, cap, cur, rfl, _, _, hnc, _⟩
    · simp [Builtin.append_, run_underlying Try.underlying24, sizeOf, typeInfo, hi, Builtin.lenOf, Builtin.firstCells]
    · simp [Builtin.append_, run_underlying Try.underlying24, sizeOf, typeInfo, hi, Builtin.lenOf, Builtin.firstCells, hnc, storeCells]
  · rcases Nat.eq_zero_or_pos m with h0 | h0
    · obtain rfl : ns = [] := List.eq_nil_of_length_eq_zero (by omega)
      exact key ad fun j u hu => by simp [gcells] at hu
    · obtain ⟨b, o, h, _, hc⟩ := hr.at_ h0
      cases h
      exact key _ (GR.cells hlen hc)
theorem wpList_append_gates {ops : Array Oper} {rest : List Oper} {o : Oper} {a : Act} {Q : Exit → Act → World → Prop} {w : World} {base : Nat} {v : Value} {gs ns : List G4} {A : Option Addr} {m c : Nat} (hown : OwnG w base v gs) (hr : GR w A m ns) (s y : Operand) (hg : o.guard = none)
    (ho : o.op = .call { callee := .builtin .append, args := #[s, y], argTypes := #[24, 24] }) (hs : a.eval s = v) (hx : a.eval y = .slice A m c)
    (hl : gs.length + ns.length ≤ 1000) (hb : base ≤ w.heap.size)
    (h : ∀ v' w', OwnG w' base v' (gs ++ ns) → w.grownBy w' v.ownBlock → wpList Try.prog ops Q rest (a.put o.dst v') w') : wpList Try.prog ops Q (o :: rest) a w := by
  obtain ⟨v', w', hrun, h2, h3, _⟩ := run_append_gates (ty := o.type) (c := c) hown hr hl hb
  exact Lib.wpList_append_run w hg s y _ _ ho _ _ hs hx v' w' hrun (h v' w' h2 h3)
/-! ### slices.Grow, Concat, Clip -/
theorem grown_nil (w : World) (n : Nat) (h0 : 0 < n) (hn : n ≤ 1000) : OwnG (w.drew.alloc (.cells (Builtin.zeroCells #[.int .i64 0, .int .i64 0, .int .i64 0, .int .i64 0] n ++ Builtin.zeroCells #[.int .i64 0, .int .i64 0, .int .i64 0, .int .i64 0] (grownCap w n 0 33 - n)) 33)) w.heap.size (.slice (some ⟨w.heap.size, 0, none⟩) 0 (grownCap w n 0 33)) [] := by
  have hge := grownCap_ge w n 0 33
  have hm := grownCap_le_maxLen w n 0 33 (by unfold maxLen; omega)
  refine ⟨rfl, .inr ⟨w.heap.size, _, _, rfl, Nat.le_refl _, heap_alloc_last _ _, Nat.zero_le _, hm, ?_, rfl⟩⟩
  simp [Builtin.zeroCells]
  omega
set_option maxHeartbeats 2000000 in
theorem grow_any (n : Nat) (w : World) (hn : n ≤ 48) : Calls Try.prog 78 #[.slice none 0 0, .int .i64 n] w (RGates w []) := by
  by_cases h0 : n = 0
  · subst h0
    go_enter Try.func78, Try.ntmps78
    go_wp2_with fail
    go_ret
    exact ⟨⟨_, rfl, OwnG.nil_ _ _⟩, Below.refl _ _⟩
  · obtain ⟨i0, hi, hz0, hz1, hz2⟩ := info_parts gate_info'
    have hrz := fun ty => Lib.run_append_nil_zeros (P := Try.prog) w 24 3 ty 33 i0 _ .i64 .i64 Try.underlying24 Try.underlying3 hi hz0 n (by omega) (by omega) (by omega) (by rw [hz2]; omega)
    have hO := hide (grown_nil w n (by omega) (by omega))
    have hB := hide (show Below w.heap.size w (w.drew.alloc (.cells (Builtin.zeroCells #[.int .i64 0, .int .i64 0, .int .i64 0, .int .i64 0] n ++ Builtin.zeroCells #[.int .i64 0, .int .i64 0, .int .i64 0, .int .i64 0] (grownCap w n 0 33 - n)) 33)) from (below_drewN (Below.refl _ w) 1).alloc (Nat.le_refl _) _)
    have hge := grownCap_ge w n 0 33
    have hm := grownCap_le_maxLen w n 0 33 (by unfold maxLen; omega)
    unfold maxLen at hm
    have hpos : (0 : Int) < (n : Int) := by omega
    obtain ⟨G, hG⟩ : ∃ G, grownCap w n 0 33 = G := ⟨_, rfl⟩
    rw [hG] at hrz hO hB hge hm
    clear hG hi hz0 hz1 hz2 h0
    go_enter Try.func78, Try.ntmps78
    go_wp2_with (at_builtin; refine Lib.wpList_append_run _ rfl _ _ _ _ rfl _ _ rfl rfl _ _ (hrz _) ?_)
    go_ret
    exact ⟨⟨_, rfl, hO.out⟩, hB.out⟩
end Go.Proofs.Ytdkphnojloanoaa
