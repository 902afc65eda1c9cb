/-
  Slices of gates: appended to a slice of the call's own; clipped.
  No condition.
-/
import Derived.Lib.AppendZeros
import Derived.Test.YtpklpebngholcaaOwnG
namespace Go.Proofs.Ytpklpebngholcaa
open Go.RowKit Go.Sort base
/-- the cells of some gates that are read -/
theorem GR.cells {w : World} {b o n : Nat} {gs : List G4} (hl : gs.length = n) (h : ∀ i, i < n → GAt w b (o + i * 4) (gth gs i)) : ∀ j u, (gcells gs)[j]? = some u → w.cell? ((⟨b, o, none⟩ : Addr).add j) = some u := by
  intro j u hu
  have hj : j < gs.length * 4 := by rw [← gcells_len]; exact (List.getElem?_eq_some_iff.1 hu).1
  have e : j = j / 4 * 4 + j % 4 := by omega
  have hi : j / 4 < gs.length := by omega
  have hg := h (j / 4) (by omega)
  obtain ⟨h0, h1, h2, h3⟩ := hg
  rw [e] at hu
  rw [gcells_at gs (j / 4) (j % 4) hi (by omega)] at hu
  rw [Addr.add_lit]
  rcases (show j % 4 = 0 ∨ j % 4 = 1 ∨ j % 4 = 2 ∨ j % 4 = 3 by omega) with hr | hr | hr | hr <;> rw [hr] at hu <;> simp [gcell] at hu <;> subst hu
  · rw [show o + j = o + j / 4 * 4 by omega]; exact h0
  · rw [show o + j = o + j / 4 * 4 + 1 by omega]; exact h1
  · rw [show o + j = o + j / 4 * 4 + 2 by omega]; exact h2
  · rw [show o + j = o + j / 4 * 4 + 3 by omega]; exact h3
/-- 'append(out, c...)' onto a slice of the call's own -/
theorem run_append_gates {w : World} {base : Nat} {v : Value} {gs ns : List G4} {A : Option Addr} {m c : Nat} {ty : TypeId} (hown : OwnG w base v gs) (hr : GR w A m ns) (hl : gs.length + ns.length ≤ 1000) (hb : base ≤ w.heap.size) :
    ∃ v' w', (Builtin.append_ #[52, 52] ty #[v, .slice A m c]).run Try.prog w = .ok v' w' ∧ OwnG w' base v' (gs ++ ns) ∧ w.grownBy w' v.ownBlock ∧ (v'.ownBlock = v.ownBlock ∨ v'.ownBlock = some w.heap.size) := by
  obtain ⟨i0, hi, hz0, hz1, hz2⟩ := info_parts gate_info'
  have hlen := hr.len
  have hcat : gcells (gs ++ ns) = gcells gs ++ gcells ns := by simp [gcells]
  have key : ∀ ad, (∀ j u, (gcells ns)[j]? = some u → w.cell? (ad.add j) = some u) →
      ∃ v' w', (Builtin.append_ #[52, 52] ty #[v, .slice (some ad) m c]).run Try.prog w = .ok v' w' ∧ OwnG w' base v' (gs ++ ns) ∧ w.grownBy w' v.ownBlock ∧ (v'.ownBlock = v.ownBlock ∨ v'.ownBlock = some w.heap.size) := by
    intro ad hc
    obtain ⟨v', w', h1, h2, h3, _, h5⟩ := run_append_own_at (P := Try.prog) w base 52 ty 60 i0 _ 4 32 Try.underlying52 hi hz0 hz1 hz2 rfl (by decide) v gs.length (gcells gs) hown ad m c (gcells ns)
      (by rw [gcells_len]; omega) hc (oneCells ns) (by unfold maxLen; omega) (by omega) hb
    refine ⟨v', w', h1, ?_, h3, h5⟩
    unfold OwnG
    rw [List.length_append, hcat, hlen]
    exact h2
  rcases A with _ | ad
  · have hm : m = 0 := by
      rcases Nat.eq_zero_or_pos m with h0 | h0
      · exact h0
      · obtain ⟨b, o, h, _⟩ := hr.at_ h0
        cases h
    subst hm
    obtain rfl : ns = [] := List.eq_nil_of_length_eq_zero hlen
    refine ⟨v, w, ?_, by simpa using hown, World.grownBy.refl w _, .inl rfl⟩
    rcases hown.2 with ⟨rfl, _⟩ | ⟨g, cap, cur, rfl, _, _, hnc, _⟩
    · simp [Builtin.append_, run_underlying Try.underlying52, sizeOf, typeInfo, hi, Builtin.lenOf, Builtin.firstCells]
    · simp [Builtin.append_, run_underlying Try.underlying52, sizeOf, typeInfo, hi, Builtin.lenOf, Builtin.firstCells, hnc, storeCells]
  · rcases Nat.eq_zero_or_pos m with h0 | h0
    · obtain rfl : ns = [] := List.eq_nil_of_length_eq_zero (by omega)
      exact key ad fun j u hu => by simp [gcells] at hu
    · obtain ⟨b, o, h, _, hc⟩ := hr.at_ h0
      cases h
      exact key _ (GR.cells hlen hc)
theorem wpList_append_gates {ops : Array Oper} {rest : List Oper} {o : Oper} {a : Act} {Q : Exit → Act → World → Prop} {w : World} {base : Nat} {v : Value} {gs ns : List G4} {A : Option Addr} {m c : Nat} (hown : OwnG w base v gs) (hr : GR w A m ns) (s y : Operand) (hg : o.guard = none)
    (ho : o.op = .call { callee := .builtin .append, args := #[s, y], argTypes := #[52, 52] }) (hs : a.eval s = v) (hx : a.eval y = .slice A m c)
    (hl : gs.length + ns.length ≤ 1000) (hb : base ≤ w.heap.size)
    (h : ∀ v' w', OwnG w' base v' (gs ++ ns) → w.grownBy w' v.ownBlock → wpList Try.prog ops Q rest (a.put o.dst v') w') : wpList Try.prog ops Q (o :: rest) a w := by
  obtain ⟨v', w', hrun, h2, h3, _⟩ := run_append_gates (ty := o.type) (c := c) hown hr hl hb
  exact Lib.wpList_append_run w hg s y _ _ ho _ _ hs hx v' w' hrun (h v' w' h2 h3)
theorem run_clip (b o n c : Nat) (hk : n ≤ c) (wx : World) : (Instr.slice 52 (.slice (some ⟨b, o, none⟩) n c) none (some (.int .i64 (n : Int))) (some (.int .i64 (n : Int)))).run Try.prog wx = .ok (.slice (some ⟨b, o, none⟩) n n) wx := by
  have h1 : (0 : Int) ≤ (n : Int) := by omega
  have h2 : (n : Int) ≤ (c : Int) := by omega
  have h3 : (n : Int) ≤ (n : Int) := by omega
  simp [Instr.slice, run_underlying Try.underlying52, Instr.sliceBounds, run_sliceBound _ _ _ _ h1 h2, run_sliceBound _ _ _ _ h1 h3, go_sem]
  exact fun h => absurd h (by omega)
set_option maxHeartbeats 400000 in
theorem clip_own (base : Nat) (v : Value) (gs : List G4) (w : World) (h : OwnG w base v gs) :
    Calls Try.prog 43 #[v] w fun e w' => (∃ A k, e = .returned (.slice A k k) ∧ GR w A k gs) ∧ w = w' := by
  rcases h.form with ⟨rfl, rfl⟩ | ⟨g, c, rfl, _, _, hc, hm⟩
  · go_enter Try.func43, Try.ntmps43
    go_wp2_with fail
    go_ret
    exact ⟨⟨none, 0, rfl, rfl, by simp, fun h => absurd h (by simp)⟩, rfl⟩
  · obtain ⟨A, c', e, hgr⟩ := h.gr
    simp only [Value.slice.injEq] at e
    rw [← e.1] at hgr
    have G := hide hgr
    have hcl := run_clip g 0 gs.length c hc
    obtain ⟨n, hn⟩ : ∃ n, gs.length = n := ⟨_, rfl⟩
    rw [hn] at hcl G ⊢
    clear hgr e hn h hc
    go_enter Try.func43, Try.ntmps43
    go_wp2_with fail
    go_ret
    exact ⟨⟨_, _, rfl, G.out⟩, rfl⟩
end Go.Proofs.Ytpklpebngholcaa
