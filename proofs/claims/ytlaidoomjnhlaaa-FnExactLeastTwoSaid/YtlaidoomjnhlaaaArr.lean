/-
  Arrays of four numbers: as values, as keys of a map, in a queue.
  No condition.
-/
import Derived.Maps.Views
import Derived.Maps.OwnSet
import Derived.Maps.OwnOps
import Derived.DeepKeys5
import Derived.Laws.Cover3
import Derived.Test.YtlaidoomjnhlaaaSLeast
namespace Go.Proofs.Ytlaidoomjnhlaaa
open Go.RowKit Go.Sort base
/-- the array of a table -/
def arr (t : T4) : Value := .agg #[.int .i64 (at4 t 0 : Int), .int .i64 (at4 t 1 : Int), .int .i64 (at4 t 2 : Int), .int .i64 (at4 t 3 : Int)]
theorem arr_keyed : Go.Maps.Keyed Try.prog 35 := Go.Maps.Keyed.of_law (deep_law_gate laidOut (by decide +kernel) (by decide +kernel) (by kernel_rfl) (by kernel_rfl))
theorem key_some : ∀ a, a < 4 → ∀ b, b < 4 → ∀ c, c < 4 → ∀ d, d < 4 → (keyOf Try.prog 35 (arr (a, b, c, d))).isSome = true := by decide +kernel
noncomputable def kl (t : T4) : Lit := (keyOf Try.prog 35 (arr t)).getD (.bool true)
theorem key_of {t : T4} (h : Small4 t) : keyOf Try.prog 35 (arr t) = some (kl t) := by
  obtain ⟨a, b, c, d⟩ := t
  obtain ⟨ha, hb, hc, hd⟩ := h
  have := key_some a ha b hb c hc d hd
  unfold kl
  obtain ⟨v, hv⟩ := Option.isSome_iff_exists.1 this
  rw [hv]; rfl
theorem arr_inj {s t : T4} (h : arr s = arr t) : s = t := by
  obtain ⟨a, b, c, d⟩ := s
  obtain ⟨a', b', c', d'⟩ := t
  have e : (#[Value.int .i64 (a : Int), Value.int .i64 (b : Int), Value.int .i64 (c : Int), Value.int .i64 (d : Int)] : Array Value) = #[Value.int .i64 (a' : Int), Value.int .i64 (b' : Int), Value.int .i64 (c' : Int), Value.int .i64 (d' : Int)] := Value.agg.inj h
  simp at e
  simp only [Prod.mk.injEq]
  omega
theorem kl_inj {s t : T4} (hs : Small4 s) (ht : Small4 t) (h : kl s = kl t) : s = t :=
  arr_inj (arr_keyed.inj (key_of hs) (by rw [h]; exact key_of ht))
theorem kl_key {t : T4} (h : Small4 t) : WideAt.IsKeyLit (kl t) := arr_keyed.key (key_of h)
/-- the map of the tables and their steps -/
noncomputable def farD : Nat → DataW Unit
  | 0 => .map []
  | L + 1 => (farD L).put (kl (tab4 L)) (.lit (.int .i64 (far4 L)))
theorem farD_map : ∀ L, Go.Maps.IsMap (farD L)
  | 0 => Go.Maps.isMap_empty
  | L + 1 => (farD_map L).put _ _
theorem far_has_old {t : T4} (ht : Small4 t) : ∀ L, L ≤ 24 → (∃ i, i < L ∧ tab4 i = t) → Go.Maps.has (farD L) (kl t) = true
  | 0, _, ⟨i, hi, _⟩ => by omega
  | L + 1, hL, ⟨i, hi, e⟩ => by
    by_cases hk : kl t = kl (tab4 L)
    · rw [hk]; exact Go.Maps.has_put_same (farD_map L) (kl_key (tab4_small (k := L) (by omega))) _
    · show Go.Maps.has ((farD L).put _ _) _ = true
      rw [Go.Maps.has_put_other hk]
      refine far_has_old ht L (by omega) ⟨i, ?_, e⟩
      by_cases hl : i = L
      · subst hl; exact absurd (by rw [e]) hk
      · omega
theorem far_has_new {t : T4} (ht : Small4 t) : ∀ L, L ≤ 24 → (∀ i, i < L → ¬ tab4 i = t) → Go.Maps.has (farD L) (kl t) = false
  | 0, _, _ => rfl
  | L + 1, hL, hn => by
    have hk : kl t ≠ kl (tab4 L) := fun e => hn L (by omega) (kl_inj ht (tab4_small (by omega)) e).symm
    show Go.Maps.has ((farD L).put _ _) _ = false
    rw [Go.Maps.has_put_other hk]
    exact far_has_new ht L (by omega) (fun i hi => hn i (by omega))
theorem far_at {k : Nat} (hk : k < 24) (z : DataW Unit) : ∀ L, L ≤ 24 → k < L → (farD L).atKey (kl (tab4 k)) z = .lit (.int .i64 (far4 k))
  | 0, _, h => by omega
  | L + 1, hL, h => by
    show ((farD L).put _ _).atKey _ _ = _
    by_cases hl : k = L
    · subst hl; exact Go.Maps.atKey_put_same (farD_map k) (kl_key (tab4_small hk)) _ _
    · have hne : kl (tab4 k) ≠ kl (tab4 L) := fun e => hl (tab_other k hk L (by omega) (kl_inj (tab4_small hk) (tab4_small (by omega)) e))
      rw [Go.Maps.atKey_put_other hne]
      exact far_at hk z L (by omega) (by omega)
theorem seen_iff {t : T4} (ht : Small4 t) {L : Nat} (hL : L ≤ 24) : hasQ (rks L) (rank4 t : Int) = true ↔ ∃ i, i < L ∧ tab4 i = t := by
  rw [hasQ_iff]
  constructor
  · intro h
    obtain ⟨i, hi, e⟩ := List.mem_map.1 h
    have hi := List.mem_range.1 hi
    exact ⟨i, hi, rank_inj (tab4_small (by omega)) ht (by omega)⟩
  · rintro ⟨i, hi, rfl⟩
    exact List.mem_map.2 ⟨i, List.mem_range.2 hi, rfl⟩
/-- the map in memory -/
abbrev Far (w : World) (b n L : Nat) : Prop := w.ownsMap Try.prog 35 (plainElem (H := Unit) Try.prog 3) b n (farD L)
theorem int_zero (w : World) : (zeroValue 3).run Try.prog w = .ok (.int .i64 0) w := by
  obtain ⟨i0, hi, hz0, hz1, hz2⟩ := info_parts int_info
  simp [zeroValue, typeInfo, hi, hz0]
theorem far_look {w : World} {b n L k : Nat} (h : Far w b n L) (hL : L ≤ 24) (hk : k < L) : (Instr.lookup 36 (.map (some b)) (arr (tab4 k)) false).run Try.prog w = .ok (.int .i64 (far4 k : Int)) w := by
  obtain ⟨c, hrun, hat, _⟩ := h.lookup_int arr_keyed Try.underlying36 Try.underlying3 (int_zero w) (key_of (tab4_small (k := k) (by omega)))
  rw [far_at (by omega) _ L hL hk] at hat
  simp at hat
  rw [hrun, hat]
theorem far_look_ok {w : World} {b n L : Nat} {t : T4} (h : Far w b n L) (ht : Small4 t) : ∃ c : Int, (Instr.lookup 36 (.map (some b)) (arr t) true).run Try.prog w = .ok (.tuple #[.int .i64 c, .bool (Go.Maps.has (farD L) (kl t))]) w := by
  obtain ⟨v, ps, hrun, hv⟩ := h.look_ok arr_keyed Try.underlying36 (int_zero w) (zd := .lit (.int .i64 0)) (zp := []) (plainElem_int Try.underlying3 (by decide)) (key_of ht)
  obtain ⟨c, rfl, _⟩ := plainElem_int_inv Try.underlying3 hv
  exact ⟨c, hrun⟩
theorem arr_eq (s t : T4) (hs : Small4 s) (ht : Small4 t) (w : World) : (Op.equalIn 10000 35 (arr s) (arr t)).run Try.prog w = .ok (decide (s = t)) w := by
  obtain ⟨r, hr, hiff⟩ := run_equal_deep (P := Try.prog) w (m := Try.prog.types.size + 1) (by decide +kernel) (k := 35) (by kernel_rfl) (by kernel_rfl) (key_of hs) (key_of ht)
  have e : r = decide (s = t) := by
    rw [Bool.eq_iff_iff, decide_eq_true_eq, hiff]
    exact ⟨kl_inj hs ht, fun e => by rw [e]⟩
  rw [← e]
  exact hr
theorem wpList_insert_own {H : Type} {P : Program} (w : World) {ops : Array Oper} {rest : List Oper} {o : Oper} {a : Act} {Q : Exit → Act → World → Prop}
    (hg : o.guard = none) (m x v : Operand) (t : TypeId) (hop : o.op = Op.insert t m x v)
    (k e : TypeId) (K : Go.Maps.Keyed P k) (ht : P.underlying t = some (.map k e)) (R : Value → Option (DataW H × List MemPlace)) (b n : Nat) (D : DataW H)
    (hm : a.eval m = .map (some b)) (hown : w.ownsMap P k R b n D) (hn : n < maxLen) (key val : Value) (kl : Lit) (hx : a.eval x = key) (hv : a.eval v = val) (hkey : keyOf P k key = some kl)
    (d : DataW H) (ps : List MemPlace) (hval : R val = some (d, ps))
    (hK : ∀ w', w'.ownsMap P k R b (n + 1) (D.put kl d) → w.grownBy w' (some b) → wpList P ops Q rest (a.put o.dst undef) w') :
    wpList P ops Q (o :: rest) a w := by
  refine wpList_plain hg fun K' hK' => ?_
  obtain ⟨w', hrun, r1, r2⟩ := hown.update K ht hn hkey hval
  unfold Oper.wp
  simp [execOp, hop, hm, hx, hv, hrun, Result.andThen]
  exact hK' _ _ (hK w' r1 r2)
theorem run_index4 (t : T4) {i : Nat} (hi : i < 4) (w : World) : (Instr.index 35 (arr t) (.int .i64 (i : Int))).run Try.prog w = .ok (.int .i64 (at4 t i : Int)) w := by
  have hsz : (sizeOf 3).run Try.prog w = .ok 1 w := by
    obtain ⟨i0, hi, hz0, hz1, hz2⟩ := info_parts int_info
    simp [sizeOf, typeInfo, hi, hz1]
  rcases (show i = 0 ∨ i = 1 ∨ i = 2 ∨ i = 3 by omega) with rfl | rfl | rfl | rfl <;>
    simp [Instr.index, arr, run_underlying Try.underlying35, asIntOf, hsz, go_sem]
end Go.Proofs.Ytlaidoomjnhlaaa
