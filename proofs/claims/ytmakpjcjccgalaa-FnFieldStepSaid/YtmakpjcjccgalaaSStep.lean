/-
  A step by the reference: l6Step, FieldStep and FieldBack of the reference.
  No condition.
-/
import Derived.Test.YtmakpjcjccgalaaSTurned
import Derived.Test.YtmakpjcjccgalaaInv
import Derived.Deep.RegionWith
import Derived.Deep.DeepCutAuto
import Derived.Lib.AppendZeros
namespace Go.Proofs.Ytmakpjcjccgalaa
open Go.RowKit Go.Sort base
theorem upd_ne {L : Nat → Bool} {k j : Nat} (h : upd L k j = true) (hne : (j == k) = false) : L j = true := by simpa [upd, hne] using h
theorem upd_f {L : Nat → Bool} {k j : Nat} (h : upd L k j = false) : L j = false := by simp [upd] at h; exact h.1
theorem OwnB.alloc {w : World} {base : Nat} {v : Value} {zs : List Bool} (h : OwnB w base v zs) (o : Obj) : OwnB (w.alloc o) base v zs := World.ownsRow.alloc h o
/-- 'append(out, xs...)' onto truths of the call's own -/
theorem run_append_bools {w : World} {base : Nat} {v : Value} {xs ys : List Bool} {A : Option Addr} {m c : Nat} {ty : TypeId} (hown : OwnB w base v xs) (hr : BR w A m ys) (hl : xs.length + ys.length ≤ 8388608) (hb : base ≤ w.heap.size) :
    ∃ v' w', (Builtin.append_ #[23, 23] ty #[v, .slice A m c]).run Try.prog w = .ok v' w' ∧ OwnB w' base v' (xs ++ ys) ∧ w.grownBy w' v.ownBlock ∧ (v'.ownBlock = v.ownBlock ∨ v'.ownBlock = some w.heap.size) := by
  obtain ⟨i0, hi, hz0, hz1, hz2⟩ := info_parts bool_info
  have hlen := hr.len
  have key : ∀ ad, (∀ j u, (ys.map Value.bool)[j]? = some u → w.cell? (ad.add j) = some u) →
      ∃ v' w', (Builtin.append_ #[23, 23] ty #[v, .slice (some ad) m c]).run Try.prog w = .ok v' w' ∧ OwnB w' base v' (xs ++ ys) ∧ w.grownBy w' v.ownBlock ∧ (v'.ownBlock = v.ownBlock ∨ v'.ownBlock = some w.heap.size) := by
    intro ad hc
    obtain ⟨v', w', h1, h2, h3, _, h5⟩ := run_append_own_at (P := Try.prog) w base 23 ty 4 i0 (.bool false) 1 1 Try.underlying23 hi hz0 hz1 hz2 rfl (by decide) v xs.length (xs.map Value.bool) hown ad m c (ys.map Value.bool)
      (by simp; omega) hc (bools_oneCell _) (by unfold maxLen; omega) (by omega) hb
    refine ⟨v', w', h1, ?_, h3, h5⟩
    unfold OwnB
    rw [List.length_append, List.map_append, hlen]
    exact h2
  rcases A with _ | ad
  · have hm : m = 0 := by
      rcases Nat.eq_zero_or_pos m with h0 | h0
      · exact h0
      · obtain ⟨b, o, h, _⟩ := hr.at_ h0
        cases h
    subst hm
    obtain rfl : ys = [] := List.eq_nil_of_length_eq_zero hlen
    refine ⟨v, w, ?_, by simpa using hown, World.grownBy.refl w _, .inl rfl⟩
    rcases hown.2 with ⟨rfl, _⟩ | ⟨g, cap, cur, rfl, _, _, hnc, _⟩
    · simp [Builtin.append_, run_underlying Try.underlying23, sizeOf, typeInfo, hi, Builtin.lenOf, Builtin.firstCells]
    · simp [Builtin.append_, run_underlying Try.underlying23, sizeOf, typeInfo, hi, Builtin.lenOf, Builtin.firstCells, hnc, storeCells]
  · refine key ad fun j u hu => ?_
    rcases Nat.eq_zero_or_pos m with h0 | h0
    · obtain rfl : ys = [] := List.eq_nil_of_length_eq_zero (by omega)
      simp at hu
    · obtain ⟨b, o, h, _, hc⟩ := hr.at_ h0
      cases h
      obtain ⟨hj, hu⟩ := List.getElem?_eq_some_iff.1 hu
      have hj' : j < ys.length := by simpa using hj
      rw [Addr.add_lit, hc j (by omega), ← hu]
      simp [bth_lt hj']
theorem wpList_append_bools {ops : Array Oper} {rest : List Oper} {o : Oper} {a : Act} {Q : Exit → Act → World → Prop} {w : World} {base : Nat} {v : Value} {xs ys : List Bool} {A : Option Addr} {m c : Nat} (hown : OwnB w base v xs) (hr : BR w A m ys) (s y : Operand) (hg : o.guard = none)
    (ho : o.op = .call { callee := .builtin .append, args := #[s, y], argTypes := #[23, 23] }) (hs : a.eval s = v) (hx : a.eval y = .slice A m c)
    (hl : xs.length + ys.length ≤ 8388608) (hb : base ≤ w.heap.size)
    (h : ∀ v' w', OwnB w' base v' (xs ++ ys) → w.grownBy w' v.ownBlock → wpList Try.prog ops Q rest (a.put o.dst v') w') : wpList Try.prog ops Q (o :: rest) a w := by
  obtain ⟨v', w', hrun, h2, h3, _⟩ := run_append_bools (ty := o.type) (c := c) hown hr hl hb
  exact Lib.wpList_append_run w hg s y _ _ ho _ _ hs hx v' w' hrun (h v' w' h2 h3)
/-- blocks of truths and boxes of fields are not the same -/
theorem OwnB.ne_box {w : World} {base g k m : Nat} {zs : List Bool} {g2 : Nat} {cs : Array Value} (h : OwnB w base (.slice (some ⟨g, 0, none⟩) m k) zs) (hb : w.heap[g2]? = some (.cells cs 25 (0, 0))) : g ≠ g2 := by
  rintro rfl
  rcases h.2 with ⟨e, _⟩ | ⟨g', cap, cur, e, _, hg, _⟩
  · cases e
  · simp only [Value.slice.injEq, Option.some.injEq, Addr.mk.injEq, and_true] at e
    obtain ⟨rfl, _⟩ := e
    rw [hg] at hb
    simp at hb
theorem TB.step {w wr wy : World} {s : Int} {A : Option Addr} {n c : Nat} {sh : Bool} {bs : List Bool} (h : TB w s A n c sh bs wr) {row : Option Nat} (hg : wr.grownBy wy row) (hrow : ∀ k, row = some k → w.heap.size + 2 ≤ k) (hbw : BR w A n bs) : TB w s A n c sh bs wy := by
  have hsz := h.sz
  have hb : Below w.heap.size wr wy := ⟨hg.os, hg.tape, hg.output, hg.size, fun k hk => hg.block k (by omega) (fun e => by have := hrow k e.symm; omega)⟩
  have hk : ∀ b i, b < w.heap.size + 2 → wy.cell? ⟨b, i, none⟩ = wr.cell? ⟨b, i, none⟩ := fun b i hlt => World.cell?_of_block (hg.block b (by omega) (fun e => by have := hrow b e.symm; omega))
  exact ⟨(hk _ _ (by omega)).trans h.f0, (hk _ _ (by omega)).trans h.f1, (hk _ _ (by omega)).trans h.f2, (hg.block _ (by omega) (fun e => by have := hrow _ e.symm; omega)).trans h.rb, hbw.below (h.low.trans hb), h.low.trans hb, by have := hg.size; omega⟩
theorem block_alloc {w : World} {g : Nat} {o : Obj} (h : w.heap[g]? = some o) (o2 : Obj) : (w.alloc o2).heap[g]? = some o :=
  (((Below.refl w.heap.size w).alloc (Nat.le_refl _) o2).block g (Array.getElem?_eq_some_iff.1 h).1).trans h
theorem OwnB.keep3 {w : World} {base g k m : Nat} {zs : List Bool} {g2 : Nat} {cs : Array Value} (h : OwnB w base (.slice (some ⟨g, 0, none⟩) m k) zs) (hb : w.heap[g2]? = some (.cells cs 25 (0, 0))) (y0 y1 y2 : Value) :
    OwnB (((w.setCell ⟨g2, 0, none⟩ y0).setCell ⟨g2, 1, none⟩ y1).setCell ⟨g2, 2, none⟩ y2) base (.slice (some ⟨g, 0, none⟩) m k) zs :=
  h.kept (box3_grown w g2 y0 y1 y2) (.inr (by have := h.ne_box hb; simp [Value.ownBlock]; omega))
structure JS (w : World) (s : Int) (A : Option Addr) (n c : Nat) (sh : Bool) (bs : List Bool) (L : Nat → Bool) (x12 x13 x14 x15 x16 x17 x18 x19 x20 x5 : Value) (wx : World) : Prop where
  h0 : L 0 = true → x12 = .pointer (some ⟨w.heap.size, 0, none⟩)
  h1 : L 1 = true → x13 = .int .i64 s
  h2 : L 2 = true → ∃ ge, x14 = .slice (some ⟨ge, 0, none⟩) 0 0 ∧ w.heap.size + 2 ≤ ge ∧ (L 5 = false → OwnB wx (w.heap.size + 2) (.slice (some ⟨ge, 0, none⟩) 0 0) [])
  h3 : L 3 = true → x15 = .pointer (some ⟨w.heap.size, 1, none⟩)
  h4 : L 4 = true → x16 = .slice A n c
  h5 : L 5 = true → ∃ g k, x17 = .slice (some ⟨g, 0, none⟩) n k ∧ OwnB wx (w.heap.size + 2) (.slice (some ⟨g, 0, none⟩) n k) bs
  h6 : L 6 = true → x18 = .pointer (some ⟨w.heap.size, 2, none⟩)
  h7 : L 7 = true → x19 = .bool sh
  h8 : L 8 = true → ∃ g k, x20 = .agg #[.int .i64 s, .slice (some ⟨g, 0, none⟩) n k, .bool sh] ∧ OwnB wx (w.heap.size + 2) (.slice (some ⟨g, 0, none⟩) n k) bs
  h9 : L 9 = true → ∃ g, x5 = .pointer (some ⟨g, 0, none⟩) ∧ w.heap.size + 2 ≤ g ∧ (L 10 = false → wx.heap[g]? = some (.cells #[.int .i64 0, .slice none 0 0, .bool false] 25 (0, 0)))
  tb : TB w s A n c sh bs wx
  c8 : L 8 = true → L 5 = true
  c10 : L 10 = true → ∀ k, k < 10 → L k = true
  fin : L 10 = true → ∃ g go k, x5 = .pointer (some ⟨g, 0, none⟩) ∧ w.heap.size + 2 ≤ g ∧ wx.heap[g]? = some (.cells #[.int .i64 s, .slice (some ⟨go, 0, none⟩) n k, .bool sh] 25 (0, 0)) ∧ OwnB wx (w.heap.size + 2) (.slice (some ⟨go, 0, none⟩) n k) bs
theorem JS.start {w : World} {s : Int} {A : Option Addr} {n c : Nat} {sh : Bool} {bs : List Bool} {wx : World} {x12 x13 x14 x15 x16 x17 x18 x19 x20 x5 : Value} (hs : TB w s A n c sh bs wx) : JS w s A n c sh bs (fun _ => false) x12 x13 x14 x15 x16 x17 x18 x19 x20 x5 wx :=
  ⟨(fun h => by cases h), (fun h => by cases h), (fun h => by cases h), (fun h => by cases h), (fun h => by cases h), (fun h => by cases h), (fun h => by cases h), (fun h => by cases h), (fun h => by cases h), (fun h => by cases h), hs, (fun h => by cases h), (fun h => by cases h), (fun h => by cases h)⟩
theorem JS.p0 {w : World} {s : Int} {A : Option Addr} {n c : Nat} {sh : Bool} {bs : List Bool} {wx : World} {L : Nat → Bool} {x12 x13 x14 x15 x16 x17 x18 x19 x20 x5 : Value} (h : JS w s A n c sh bs L x12 x13 x14 x15 x16 x17 x18 x19 x20 x5 wx) (hL : L 0 = false) {v : Value} (hv : v = .pointer (some ⟨w.heap.size, 0, none⟩))  : JS w s A n c sh bs (upd L 0) (v) x13 x14 x15 x16 x17 x18 x19 x20 x5 wx :=
  ⟨fun _ => hv, fun e => h.h1 (upd_ne e rfl), fun e => (h.h2 (upd_ne e rfl)).imp fun _ h1 => ⟨h1.1, h1.2.1, fun e2 => h1.2.2 (upd_f e2)⟩, fun e => h.h3 (upd_ne e rfl), fun e => h.h4 (upd_ne e rfl), fun e => h.h5 (upd_ne e rfl), fun e => h.h6 (upd_ne e rfl), fun e => h.h7 (upd_ne e rfl), fun e => h.h8 (upd_ne e rfl), fun e => (h.h9 (upd_ne e rfl)).imp fun _ h1 => ⟨h1.1, h1.2.1, fun e2 => h1.2.2 (upd_f e2)⟩, h.tb, fun e => by have := h.c8 (upd_ne e rfl); simp [upd, this], fun e k hk => by have := h.c10 (upd_ne e rfl) k hk; simp [upd, this], fun e => absurd (h.c10 (upd_ne e rfl) 0 (by omega)) (by simp [hL])⟩
theorem JS.p1 {w : World} {s : Int} {A : Option Addr} {n c : Nat} {sh : Bool} {bs : List Bool} {wx : World} {L : Nat → Bool} {x12 x13 x14 x15 x16 x17 x18 x19 x20 x5 : Value} (h : JS w s A n c sh bs L x12 x13 x14 x15 x16 x17 x18 x19 x20 x5 wx) (hL : L 1 = false) {v : Value} (hv : v = .int .i64 s)  : JS w s A n c sh bs (upd L 1) x12 (v) x14 x15 x16 x17 x18 x19 x20 x5 wx :=
  ⟨fun e => h.h0 (upd_ne e rfl), fun _ => hv, fun e => (h.h2 (upd_ne e rfl)).imp fun _ h1 => ⟨h1.1, h1.2.1, fun e2 => h1.2.2 (upd_f e2)⟩, fun e => h.h3 (upd_ne e rfl), fun e => h.h4 (upd_ne e rfl), fun e => h.h5 (upd_ne e rfl), fun e => h.h6 (upd_ne e rfl), fun e => h.h7 (upd_ne e rfl), fun e => h.h8 (upd_ne e rfl), fun e => (h.h9 (upd_ne e rfl)).imp fun _ h1 => ⟨h1.1, h1.2.1, fun e2 => h1.2.2 (upd_f e2)⟩, h.tb, fun e => by have := h.c8 (upd_ne e rfl); simp [upd, this], fun e k hk => by have := h.c10 (upd_ne e rfl) k hk; simp [upd, this], fun e => absurd (h.c10 (upd_ne e rfl) 1 (by omega)) (by simp [hL])⟩
theorem JS.p3 {w : World} {s : Int} {A : Option Addr} {n c : Nat} {sh : Bool} {bs : List Bool} {wx : World} {L : Nat → Bool} {x12 x13 x14 x15 x16 x17 x18 x19 x20 x5 : Value} (h : JS w s A n c sh bs L x12 x13 x14 x15 x16 x17 x18 x19 x20 x5 wx) (hL : L 3 = false) {v : Value} (hv : v = .pointer (some ⟨w.heap.size, 1, none⟩))  : JS w s A n c sh bs (upd L 3) x12 x13 x14 (v) x16 x17 x18 x19 x20 x5 wx :=
  ⟨fun e => h.h0 (upd_ne e rfl), fun e => h.h1 (upd_ne e rfl), fun e => (h.h2 (upd_ne e rfl)).imp fun _ h1 => ⟨h1.1, h1.2.1, fun e2 => h1.2.2 (upd_f e2)⟩, fun _ => hv, fun e => h.h4 (upd_ne e rfl), fun e => h.h5 (upd_ne e rfl), fun e => h.h6 (upd_ne e rfl), fun e => h.h7 (upd_ne e rfl), fun e => h.h8 (upd_ne e rfl), fun e => (h.h9 (upd_ne e rfl)).imp fun _ h1 => ⟨h1.1, h1.2.1, fun e2 => h1.2.2 (upd_f e2)⟩, h.tb, fun e => by have := h.c8 (upd_ne e rfl); simp [upd, this], fun e k hk => by have := h.c10 (upd_ne e rfl) k hk; simp [upd, this], fun e => absurd (h.c10 (upd_ne e rfl) 3 (by omega)) (by simp [hL])⟩
theorem JS.p4 {w : World} {s : Int} {A : Option Addr} {n c : Nat} {sh : Bool} {bs : List Bool} {wx : World} {L : Nat → Bool} {x12 x13 x14 x15 x16 x17 x18 x19 x20 x5 : Value} (h : JS w s A n c sh bs L x12 x13 x14 x15 x16 x17 x18 x19 x20 x5 wx) (hL : L 4 = false) {v : Value} (hv : v = .slice A n c)  : JS w s A n c sh bs (upd L 4) x12 x13 x14 x15 (v) x17 x18 x19 x20 x5 wx :=
  ⟨fun e => h.h0 (upd_ne e rfl), fun e => h.h1 (upd_ne e rfl), fun e => (h.h2 (upd_ne e rfl)).imp fun _ h1 => ⟨h1.1, h1.2.1, fun e2 => h1.2.2 (upd_f e2)⟩, fun e => h.h3 (upd_ne e rfl), fun _ => hv, fun e => h.h5 (upd_ne e rfl), fun e => h.h6 (upd_ne e rfl), fun e => h.h7 (upd_ne e rfl), fun e => h.h8 (upd_ne e rfl), fun e => (h.h9 (upd_ne e rfl)).imp fun _ h1 => ⟨h1.1, h1.2.1, fun e2 => h1.2.2 (upd_f e2)⟩, h.tb, fun e => by have := h.c8 (upd_ne e rfl); simp [upd, this], fun e k hk => by have := h.c10 (upd_ne e rfl) k hk; simp [upd, this], fun e => absurd (h.c10 (upd_ne e rfl) 4 (by omega)) (by simp [hL])⟩
theorem JS.p6 {w : World} {s : Int} {A : Option Addr} {n c : Nat} {sh : Bool} {bs : List Bool} {wx : World} {L : Nat → Bool} {x12 x13 x14 x15 x16 x17 x18 x19 x20 x5 : Value} (h : JS w s A n c sh bs L x12 x13 x14 x15 x16 x17 x18 x19 x20 x5 wx) (hL : L 6 = false) {v : Value} (hv : v = .pointer (some ⟨w.heap.size, 2, none⟩))  : JS w s A n c sh bs (upd L 6) x12 x13 x14 x15 x16 x17 (v) x19 x20 x5 wx :=
  ⟨fun e => h.h0 (upd_ne e rfl), fun e => h.h1 (upd_ne e rfl), fun e => (h.h2 (upd_ne e rfl)).imp fun _ h1 => ⟨h1.1, h1.2.1, fun e2 => h1.2.2 (upd_f e2)⟩, fun e => h.h3 (upd_ne e rfl), fun e => h.h4 (upd_ne e rfl), fun e => h.h5 (upd_ne e rfl), fun _ => hv, fun e => h.h7 (upd_ne e rfl), fun e => h.h8 (upd_ne e rfl), fun e => (h.h9 (upd_ne e rfl)).imp fun _ h1 => ⟨h1.1, h1.2.1, fun e2 => h1.2.2 (upd_f e2)⟩, h.tb, fun e => by have := h.c8 (upd_ne e rfl); simp [upd, this], fun e k hk => by have := h.c10 (upd_ne e rfl) k hk; simp [upd, this], fun e => absurd (h.c10 (upd_ne e rfl) 6 (by omega)) (by simp [hL])⟩
theorem JS.p7 {w : World} {s : Int} {A : Option Addr} {n c : Nat} {sh : Bool} {bs : List Bool} {wx : World} {L : Nat → Bool} {x12 x13 x14 x15 x16 x17 x18 x19 x20 x5 : Value} (h : JS w s A n c sh bs L x12 x13 x14 x15 x16 x17 x18 x19 x20 x5 wx) (hL : L 7 = false) {v : Value} (hv : v = .bool sh)  : JS w s A n c sh bs (upd L 7) x12 x13 x14 x15 x16 x17 x18 (v) x20 x5 wx :=
  ⟨fun e => h.h0 (upd_ne e rfl), fun e => h.h1 (upd_ne e rfl), fun e => (h.h2 (upd_ne e rfl)).imp fun _ h1 => ⟨h1.1, h1.2.1, fun e2 => h1.2.2 (upd_f e2)⟩, fun e => h.h3 (upd_ne e rfl), fun e => h.h4 (upd_ne e rfl), fun e => h.h5 (upd_ne e rfl), fun e => h.h6 (upd_ne e rfl), fun _ => hv, fun e => h.h8 (upd_ne e rfl), fun e => (h.h9 (upd_ne e rfl)).imp fun _ h1 => ⟨h1.1, h1.2.1, fun e2 => h1.2.2 (upd_f e2)⟩, h.tb, fun e => by have := h.c8 (upd_ne e rfl); simp [upd, this], fun e k hk => by have := h.c10 (upd_ne e rfl) k hk; simp [upd, this], fun e => absurd (h.c10 (upd_ne e rfl) 7 (by omega)) (by simp [hL])⟩
theorem JS.lay {w : World} {s : Int} {A : Option Addr} {n c : Nat} {sh : Bool} {bs : List Bool} {wx : World} {L : Nat → Bool} {x12 x13 x14 x15 x16 x17 x18 x19 x20 x5 : Value} (h : JS w s A n c sh bs L x12 x13 x14 x15 x16 x17 x18 x19 x20 x5 wx) (hL : L 2 = false)  : JS w s A n c sh bs (upd L 2) x12 x13 (.slice (some ⟨wx.heap.size, 0, none⟩) 0 0) x15 x16 x17 x18 x19 x20 x5 (wx.alloc (.cells #[] 4)) :=
  ⟨fun e => h.h0 (upd_ne e rfl), fun e => h.h1 (upd_ne e rfl), fun _ => ⟨_, rfl, h.tb.sz, fun _ => OwnB.nil0 wx _ h.tb.sz⟩, fun e => h.h3 (upd_ne e rfl), fun e => h.h4 (upd_ne e rfl), fun e => let ⟨g, k, h1, h2⟩ := h.h5 (upd_ne e rfl); ⟨g, k, h1, h2.alloc _⟩, fun e => h.h6 (upd_ne e rfl), fun e => h.h7 (upd_ne e rfl), fun e => let ⟨g, k, h1, h2⟩ := h.h8 (upd_ne e rfl); ⟨g, k, h1, h2.alloc _⟩, fun e => let ⟨g, h1, h2, h3⟩ := h.h9 (upd_ne e rfl); ⟨g, h1, h2, fun e2 => (block_alloc (h3 (upd_f e2)) _)⟩, h.tb.below ((Below.refl _ wx).alloc (Nat.le_refl _) _), fun e => by have := h.c8 (upd_ne e rfl); simp [upd, this], fun e k hk => by have := h.c10 (upd_ne e rfl) k hk; simp [upd, this], fun e => absurd (h.c10 (upd_ne e rfl) 2 (by omega)) (by simp [hL])⟩
theorem JS.app {w : World} {s : Int} {A : Option Addr} {n c : Nat} {sh : Bool} {bs : List Bool} {wx : World} {L : Nat → Bool} {x12 x13 x14 x15 x16 x17 x18 x19 x20 x5 : Value} (h : JS w s A n c sh bs L x12 x13 x14 x15 x16 x17 x18 x19 x20 x5 wx) (hL : L 5 = false) {ge go k : Nat} {wy : World} (hge : w.heap.size + 2 ≤ ge) (hown : OwnB wx (w.heap.size + 2) (.slice (some ⟨ge, 0, none⟩) 0 0) []) (hgr : wx.grownBy wy (some ge)) (hw : BR w A n bs) (ho : OwnB wy (w.heap.size + 2) (.slice (some ⟨go, 0, none⟩) n k) bs) : JS w s A n c sh bs (upd L 5) x12 x13 x14 x15 x16 (.slice (some ⟨go, 0, none⟩) n k) x18 x19 x20 x5 wy :=
  ⟨fun e => h.h0 (upd_ne e rfl), fun e => h.h1 (upd_ne e rfl), fun e => (h.h2 (upd_ne e rfl)).imp fun _ h1 => ⟨h1.1, h1.2.1, fun e2 => by simp [upd] at e2⟩, fun e => h.h3 (upd_ne e rfl), fun e => h.h4 (upd_ne e rfl), fun _ => ⟨go, k, rfl, ho⟩, fun e => h.h6 (upd_ne e rfl), fun e => h.h7 (upd_ne e rfl), fun e => absurd (h.c8 (upd_ne e rfl)) (by simp [hL]), fun e => let ⟨g, h1, h2, h3⟩ := h.h9 (upd_ne e rfl); ⟨g, h1, h2, fun e2 => (hgr.block g (Array.getElem?_eq_some_iff.1 (h3 (upd_f e2))).1 (by have := hown.ne_box (h3 (upd_f e2)); simp; omega)).trans (h3 (upd_f e2))⟩, h.tb.step hgr (by simpa using hge) hw, fun e => by have := h.c8 (upd_ne e rfl); simp [upd, this], fun e k hk => by have := h.c10 (upd_ne e rfl) k hk; simp [upd, this], fun e => absurd (h.c10 (upd_ne e rfl) 5 (by omega)) (by simp [hL])⟩
theorem JS.p8 {w : World} {s : Int} {A : Option Addr} {n c : Nat} {sh : Bool} {bs : List Bool} {wx : World} {L : Nat → Bool} {x12 x13 x14 x15 x16 x17 x18 x19 x20 x5 : Value} (h : JS w s A n c sh bs L x12 x13 x14 x15 x16 x17 x18 x19 x20 x5 wx) (hL : L 8 = false) {v : Value} (hv : ∃ g k, v = .agg #[.int .i64 s, .slice (some ⟨g, 0, none⟩) n k, .bool sh] ∧ OwnB wx (w.heap.size + 2) (.slice (some ⟨g, 0, none⟩) n k) bs) (h5 : L 5 = true) : JS w s A n c sh bs (upd L 8) x12 x13 x14 x15 x16 x17 x18 x19 (v) x5 wx :=
  ⟨fun e => h.h0 (upd_ne e rfl), fun e => h.h1 (upd_ne e rfl), fun e => (h.h2 (upd_ne e rfl)).imp fun _ h1 => ⟨h1.1, h1.2.1, fun e2 => h1.2.2 (upd_f e2)⟩, fun e => h.h3 (upd_ne e rfl), fun e => h.h4 (upd_ne e rfl), fun e => h.h5 (upd_ne e rfl), fun e => h.h6 (upd_ne e rfl), fun e => h.h7 (upd_ne e rfl), fun _ => hv, fun e => (h.h9 (upd_ne e rfl)).imp fun _ h1 => ⟨h1.1, h1.2.1, fun e2 => h1.2.2 (upd_f e2)⟩, h.tb, fun _ => by simp [upd, h5], fun e k hk => by have := h.c10 (upd_ne e rfl) k hk; simp [upd, this], fun e => absurd (h.c10 (upd_ne e rfl) 8 (by omega)) (by simp [hL])⟩
theorem JS.new {w : World} {s : Int} {A : Option Addr} {n c : Nat} {sh : Bool} {bs : List Bool} {wx : World} {L : Nat → Bool} {x12 x13 x14 x15 x16 x17 x18 x19 x20 x5 : Value} (h : JS w s A n c sh bs L x12 x13 x14 x15 x16 x17 x18 x19 x20 x5 wx) (hL : L 9 = false)  : JS w s A n c sh bs (upd L 9) x12 x13 x14 x15 x16 x17 x18 x19 x20 (.pointer (some ⟨wx.heap.size, 0, none⟩)) (wx.alloc (.cells #[.int .i64 0, .slice none 0 0, .bool false] 25)) :=
  ⟨fun e => h.h0 (upd_ne e rfl), fun e => h.h1 (upd_ne e rfl), fun e => (h.h2 (upd_ne e rfl)).imp fun _ h1 => ⟨h1.1, h1.2.1, fun e2 => (h1.2.2 (upd_f e2)).alloc _⟩, fun e => h.h3 (upd_ne e rfl), fun e => h.h4 (upd_ne e rfl), fun e => let ⟨g, k, h1, h2⟩ := h.h5 (upd_ne e rfl); ⟨g, k, h1, h2.alloc _⟩, fun e => h.h6 (upd_ne e rfl), fun e => h.h7 (upd_ne e rfl), fun e => let ⟨g, k, h1, h2⟩ := h.h8 (upd_ne e rfl); ⟨g, k, h1, h2.alloc _⟩, fun _ => ⟨_, rfl, h.tb.sz, fun _ => heap_alloc_new wx _⟩, h.tb.below ((Below.refl _ wx).alloc (Nat.le_refl _) _), fun e => by have := h.c8 (upd_ne e rfl); simp [upd, this], fun e k hk => by have := h.c10 (upd_ne e rfl) k hk; simp [upd, this], fun e => absurd (h.c10 (upd_ne e rfl) 9 (by omega)) (by simp [hL])⟩
theorem JS.put {w : World} {s : Int} {A : Option Addr} {n c : Nat} {sh : Bool} {bs : List Bool} {wx : World} {L : Nat → Bool} {x12 x13 x14 x15 x16 x17 x18 x19 x20 x5 : Value} (h : JS w s A n c sh bs L x12 x13 x14 x15 x16 x17 x18 x19 x20 x5 wx) (hL : L 10 = false) {g go k : Nat} (hx : x5 = .pointer (some ⟨g, 0, none⟩)) (hlo : w.heap.size + 2 ≤ g) (hb : wx.heap[g]? = some (.cells #[.int .i64 0, .slice none 0 0, .bool false] 25 (0, 0))) (hw : BR w A n bs) (ho : OwnB wx (w.heap.size + 2) (.slice (some ⟨go, 0, none⟩) n k) bs) (hall : ∀ k, k < 10 → L k = true) : JS w s A n c sh bs (upd L 10) x12 x13 x14 x15 x16 x17 x18 x19 x20 x5 (((wx.setCell ⟨g, 0, none⟩ (.int .i64 s)).setCell ⟨g, 1, none⟩ (.slice (some ⟨go, 0, none⟩) n k)).setCell ⟨g, 2, none⟩ (.bool sh)) :=
  ⟨fun e => h.h0 (upd_ne e rfl), fun e => h.h1 (upd_ne e rfl), fun e => (h.h2 (upd_ne e rfl)).imp fun _ h1 => ⟨h1.1, h1.2.1, fun e2 => absurd (hall 5 (by omega)) (by simp [upd_f e2])⟩, fun e => h.h3 (upd_ne e rfl), fun e => h.h4 (upd_ne e rfl), fun e => let ⟨g5, k5, h1, h2⟩ := h.h5 (upd_ne e rfl); ⟨g5, k5, h1, h2.keep3 hb _ _ _⟩, fun e => h.h6 (upd_ne e rfl), fun e => h.h7 (upd_ne e rfl), fun e => let ⟨g5, k5, h1, h2⟩ := h.h8 (upd_ne e rfl); ⟨g5, k5, h1, h2.keep3 hb _ _ _⟩, fun e => let ⟨g5, h1, h2, _⟩ := h.h9 (upd_ne e rfl); ⟨g5, h1, h2, fun e2 => by simp [upd] at e2⟩, h.tb.step (box3_grown wx g _ _ _) (by simpa using hlo) hw, fun _ => by simp [upd, hall 5], fun _ j hj => by simp [upd, hall j hj], fun _ => ⟨g, go, k, hx, hlo, box3_set hb _ _ _, ho.keep3 hb _ _ _⟩⟩
/-- the cells of a square set one after the other -/
def setN (ns : List Bool) (s h x y : Nat) (bs : List Bool) : Nat → List Bool
  | 0 => ns
  | j + 1 => (setN ns s h x y bs j).set (cl s x y j) (stepAt s h bs (cl s x y j))
theorem setN_len (ns : List Bool) (s h x y : Nat) (bs : List Bool) : ∀ j, (setN ns s h x y bs j).length = ns.length
  | 0 => rfl
  | j + 1 => by rw [setN, List.length_set]; exact setN_len ns s h x y bs j
theorem setN_at (ns : List Bool) (s h x y : Nat) (bs : List Bool) (hl : ns.length = s * s) (hs : 0 < s) (k : Nat) : ∀ j, ((∃ i, i < j ∧ cl s x y i = k) → bth (setN ns s h x y bs j) k = stepAt s h bs k) ∧ ((¬ ∃ i, i < j ∧ cl s x y i = k) → bth (setN ns s h x y bs j) k = bth ns k)
  | 0 => ⟨fun ⟨i, hi, _⟩ => absurd hi (by omega), fun _ => rfl⟩
  | j + 1 => by
    have ih := setN_at ns s h x y bs hl hs k j
    rw [setN, bth_set _ _ _ _ (by rw [setN_len, hl]; exact cl_lt s x y j hs)]
    by_cases hc : cl s x y j = k
    · rw [if_pos hc]
      exact ⟨fun _ => by rw [hc], fun hn => absurd ⟨j, by omega, hc⟩ hn⟩
    · rw [if_neg hc]
      refine ⟨fun ⟨i, hi, e⟩ => ih.1 ⟨i, ?_, e⟩, fun hn => ih.2 fun ⟨i, hi, e⟩ => hn ⟨i, by omega, e⟩⟩
      rcases Nat.lt_or_ge i j with h1 | h1
      · exact h1
      · obtain rfl : i = j := by omega
        exact absurd e hc
theorem setN_fill {s h x y : Nat} {bs : List Bool} (hs : sOk s h) (hx : x < s) (hy : y < s) (hx2 : x % 2 = h) (hy2 : y % 2 = h) :
    setN (fill s h bs (bth bs) (y * s + x)) s h x y bs 4 = fill s h bs (bth bs) (y * s + (x + 2)) := by
  have hs0 : 0 < s := by omega
  refine fill_square hs hx hy hx2 hy2 (by rw [setN_len, fill_len]) fun k hk => ?_
  have h1 := setN_at (fill s h bs (bth bs) (y * s + x)) s h x y bs (fill_len _ _ _ _ _) hs0 k 4
  by_cases hq : k = cellN s x y ∨ k = cellN s (x + 1) y ∨ k = cellN s x (y + 1) ∨ k = cellN s (x + 1) (y + 1)
  · rw [if_pos hq]
    refine h1.1 ?_
    rcases hq with rfl | rfl | rfl | rfl
    · exact ⟨0, by omega, rfl⟩
    · exact ⟨1, by omega, rfl⟩
    · exact ⟨2, by omega, rfl⟩
    · exact ⟨3, by omega, rfl⟩
  · rw [if_neg hq]
    refine h1.2 ?_
    rintro ⟨i, hi, e⟩
    rcases (show i = 0 ∨ i = 1 ∨ i = 2 ∨ i = 3 by omega) with rfl | rfl | rfl | rfl
    · exact hq (.inl e.symm)
    · exact hq (.inr (.inl e.symm))
    · exact hq (.inr (.inr (.inl e.symm)))
    · exact hq (.inr (.inr (.inr e.symm)))
/-- the box filled, the slice it holds -/
structure OB (w : World) (g go k : Nat) (s : Int) (n : Nat) (sh : Bool) (ns : List Bool) (wx : World) : Prop where
  lo : w.heap.size + 2 ≤ g
  box : wx.heap[g]? = some (.cells #[.int .i64 s, .slice (some ⟨go, 0, none⟩) n k, .bool sh] 25 (0, 0))
  own : OwnB wx (w.heap.size + 2) (.slice (some ⟨go, 0, none⟩) n k) ns
theorem OB.below {w wr wy : World} {g go k n : Nat} {s : Int} {sh : Bool} {ns : List Bool} (h : OB w g go k s n sh ns wr) (hb : Below wr.heap.size wr wy) : OB w g go k s n sh ns wy :=
  ⟨h.lo, (hb.block g (Array.getElem?_eq_some_iff.1 h.box).1).trans h.box, h.own.below hb⟩
theorem set1B_grown (w : World) (g i : Nat) (v : Value) : w.grownBy (w.setCell ⟨g, i, none⟩ v) (some g) :=
  ⟨rfl, rfl, rfl, by simp [World.setCell], fun k _ hne => heap_setCell_other _ ⟨g, i, none⟩ k _ (fun e => hne (by simp [e]))⟩
theorem OB.set {w wr : World} {g go k n : Nat} {s : Int} {sh : Bool} {ns : List Bool} (h : OB w g go k s n sh ns wr) (hl : ns.length = n) (q : Nat) (v : Bool) : OB w g go k s n sh (ns.set q v) (wr.setCell ⟨go, q, none⟩ (.bool v)) := by
  have h1 := h.own.ne_box h.box
  exact ⟨h.lo, by rw [(set1B_grown wr go q (.bool v)).block g (Array.getElem?_eq_some_iff.1 h.box).1 (by simp; omega)]; exact h.box, (h.own.stored hl q v).1⟩
theorem OB.golo {w wr : World} {g go k n : Nat} {s : Int} {sh : Bool} {ns : List Bool} (h : OB w g go k s n sh ns wr) : w.heap.size + 2 ≤ go ∧ go < wr.heap.size := h.own.lt go rfl
/-- both -/
structure SS (w : World) (s : Int) (A : Option Addr) (n c : Nat) (sh : Bool) (bs : List Bool) (g go k : Nat) (ns : List Bool) (wr : World) : Prop where
  t : TB w s A n c sh bs wr
  o : OB w g go k s n sh ns wr
  len : ns.length = n
  brw : BR w A n bs
theorem SS.below {w wr wy : World} {s : Int} {A : Option Addr} {n c : Nat} {sh : Bool} {bs ns : List Bool} {g go k : Nat} (h : SS w s A n c sh bs g go k ns wr) (hb : Below wr.heap.size wr wy) : SS w s A n c sh bs g go k ns wy := ⟨h.t.below hb, h.o.below hb, h.len, h.brw⟩
theorem SS.set {w wr : World} {s : Int} {A : Option Addr} {n c : Nat} {sh : Bool} {bs ns : List Bool} {g go k : Nat} (h : SS w s A n c sh bs g go k ns wr) (q : Nat) (v : Bool) : SS w s A n c sh bs g go k (ns.set q v) (wr.setCell ⟨go, q, none⟩ (.bool v)) := by
  have := h.o.golo
  exact ⟨h.t.step (set1B_grown wr go q _) (by simpa using this.1) h.brw, h.o.set h.len q v, by rw [List.length_set]; exact h.len, h.brw⟩
theorem SS.cells {w wr : World} {s : Int} {A : Option Addr} {n c : Nat} {sh : Bool} {bs ns : List Bool} {g go k : Nat} (h : SS w s A n c sh bs g go k ns wr) : wr.cell? ⟨g, 0, none⟩ = some (.int .i64 s) ∧ wr.cell? ⟨g, 1, none⟩ = some (.slice (some ⟨go, 0, none⟩) n k) ∧ wr.cell? ⟨g, 2, none⟩ = some (.bool sh) :=
  ⟨by rw [cell_of_row wr _ 0 _ _ (0, 0) h.o.box]; rfl, by rw [cell_of_row wr _ 1 _ _ (0, 0) h.o.box]; rfl, by rw [cell_of_row wr _ 2 _ _ (0, 0) h.o.box]; rfl⟩
theorem resultsL6 : Try.f37.results = #[.cell 4 25] := by kernel_rfl
set_option maxRecDepth 100000 in
set_option maxHeartbeats 8000000 in
theorem l6Step_any (s h : Nat) (A : Option Addr) (n c : Nat) (sh : Bool) (bs : List Bool) (w : World) (hs : sOk s h) (hn : n = s * s) (hb : BR w A n bs) :
    Calls Try.prog 37 #[.agg #[.int .i64 s, .slice A n c, .bool sh], .int .i64 h] w (RField w s sh (stepB s h bs)) := by
  have hs0 : 2 ≤ s ∧ s ≤ 8 ∧ s % 2 = 0 := by obtain ⟨h, _⟩ := hs; omega
  have hh : h ≤ 1 := by obtain ⟨_, h⟩ := hs; omega
  have HS := hide hs
  have HN := Lib.hid hn
  have hn64 : n ≤ 64 := by obtain ⟨h | h | h | h, _⟩ := hs <;> (subst h; omega)
  have hn0 : 0 < n := by rw [hn]; exact Nat.mul_pos (by omega) (by omega)
  have HB := hide hb
  have T0 := hide (TB.start (s := s) (c := c) (sh := sh) hb)
  clear hb hs hn
  go_enter Try.func37, Try.ntmps37
  go_upto_region 1 with fail
  refine wp_named fun W hW => ?_
  rw [hW] at T0
  clear hW
  go_cut [5] from 12 to 21 (fun x5 wx => Hid (TB w s A n c sh bs wx ∧ ∃ g go k, x5 = .pointer (some ⟨g, 0, none⟩) ∧ OB w g go k s n sh bs wx))
  case first =>
    refine wp_frame fun a0 ha0 => ?_
    have HA := Lib.hid ha0
    clear ha0
    refine wp_region_inv (fun L a wx => ∃ x12 x13 x14 x15 x16 x17 x18 x19 x20 x5, a = putL a0 [(12, x12), (13, x13), (14, x14), (15, x15), (16, x16), (17, x17), (18, x18), (19, x19), (20, x20), (5, x5)] ∧ Hid (JS w s A n c sh bs L x12 x13 x14 x15 x16 x17 x18 x19 x20 x5 wx)) (by kernel_rfl) (by kernel_rfl) ?_ ?_ ?_
    · exact ⟨_, _, _, _, _, _, _, _, _, _, putL_self a0 [12, 13, 14, 15, 16, 17, 18, 19, 20, 5], hide (JS.start (show TB w s A n c sh bs W.drew from T0.out.below (below_drewN (Below.refl _ W) 1)))⟩
    · refine ⟨?_, ?_, ?_, ?_, ?_, ?_, ?_, ?_, ?_, ?_, ?_, trivial⟩
      · intro L a wx hL0 hd
        rintro ⟨x12, x13, x14, x15, x16, x17, x18, x19, x20, x5, rfl, HJ⟩
        have hD := hd
        try simp [deps, Region.binds] at hD
        clear hD hd
        rw [← HA.out]
        simp only [putL, List.setIfInBounds_toArray, List.set_cons_succ, List.set_cons_zero]
        go_wp2_with fail
        refine ⟨_, _, _, _, _, _, _, _, _, _, ?_, hide (HJ.out.p0 hL0 rfl)⟩
        · try rw [← HA.out]
          try simp only [putL, List.setIfInBounds_toArray, List.set_cons_succ, List.set_cons_zero]
      · intro L a wx hL0 hd
        rintro ⟨x12, x13, x14, x15, x16, x17, x18, x19, x20, x5, rfl, HJ⟩
        have hD := hd
        try simp [deps, Region.binds] at hD
        obtain rfl := HJ.out.h0 (by simp [hD])
        have c0 := HJ.out.tb.f0
        clear hD hd
        rw [← HA.out]
        simp only [putL, List.setIfInBounds_toArray, List.set_cons_succ, List.set_cons_zero]
        go_wp2_with fail
        refine ⟨_, _, _, _, _, _, _, _, _, _, ?_, hide (HJ.out.p1 hL0 rfl)⟩
        · try rw [← HA.out]
          try simp only [putL, List.setIfInBounds_toArray, List.set_cons_succ, List.set_cons_zero]
      · intro L a wx hL0 hd
        rintro ⟨x12, x13, x14, x15, x16, x17, x18, x19, x20, x5, rfl, HJ⟩
        have hD := hd
        try simp [deps, Region.binds] at hD
        clear hD hd
        rw [← HA.out]
        simp only [putL, List.setIfInBounds_toArray, List.set_cons_succ, List.set_cons_zero]
        go_wp2_with fail
        refine ⟨_, _, _, _, _, _, _, _, _, _, ?_, hide (HJ.out.lay hL0)⟩
        · try rw [← HA.out]
          try simp only [putL, List.setIfInBounds_toArray, List.set_cons_succ, List.set_cons_zero]
      · intro L a wx hL0 hd
        rintro ⟨x12, x13, x14, x15, x16, x17, x18, x19, x20, x5, rfl, HJ⟩
        have hD := hd
        try simp [deps, Region.binds] at hD
        clear hD hd
        rw [← HA.out]
        simp only [putL, List.setIfInBounds_toArray, List.set_cons_succ, List.set_cons_zero]
        go_wp2_with fail
        refine ⟨_, _, _, _, _, _, _, _, _, _, ?_, hide (HJ.out.p3 hL0 rfl)⟩
        · try rw [← HA.out]
          try simp only [putL, List.setIfInBounds_toArray, List.set_cons_succ, List.set_cons_zero]
      · intro L a wx hL0 hd
        rintro ⟨x12, x13, x14, x15, x16, x17, x18, x19, x20, x5, rfl, HJ⟩
        have hD := hd
        try simp [deps, Region.binds] at hD
        obtain rfl := HJ.out.h3 (by simp [hD])
        have c0 := HJ.out.tb.f1
        clear hD hd
        rw [← HA.out]
        simp only [putL, List.setIfInBounds_toArray, List.set_cons_succ, List.set_cons_zero]
        go_wp2_with fail
        refine ⟨_, _, _, _, _, _, _, _, _, _, ?_, hide (HJ.out.p4 hL0 rfl)⟩
        · try rw [← HA.out]
          try simp only [putL, List.setIfInBounds_toArray, List.set_cons_succ, List.set_cons_zero]
      · intro L a wx hL0 hd
        rintro ⟨x12, x13, x14, x15, x16, x17, x18, x19, x20, x5, rfl, HJ⟩
        have hD := hd
        try simp [deps, Region.binds] at hD
        obtain ⟨ge, rfl, hge, hown⟩ := HJ.out.h2 (by simp [hD])
        obtain rfl := HJ.out.h4 (by simp [hD])
        have HOwn := hide (hown hL0)
        clear hown
        clear hD hd
        rw [← HA.out]
        simp only [putL, List.setIfInBounds_toArray, List.set_cons_succ, List.set_cons_zero]
        refine wpList_append_bools HOwn.out HJ.out.tb.br (.tmp 14) (.tmp 16) rfl rfl rfl rfl (by have := HB.out.len; simp; omega) HJ.out.tb.sz ?_; intro v8 w8 ho8 hg8
        obtain ⟨go, k, rfl, ho8⟩ : ∃ go k, v8 = .slice (some ⟨go, 0, none⟩) n k ∧ OwnB w8 (w.heap.size + 2) (.slice (some ⟨go, 0, none⟩) n k) bs := by
          rcases ho8.form with ⟨_, e⟩ | ⟨g, c, e, _⟩
          · have := HB.out.len; rw [List.nil_append] at e; rw [e] at this; simp at this; omega
          · rw [List.nil_append, HB.out.len] at e; exact ⟨g, c, e, by rw [← e]; exact ho8⟩
        have HJ2 := hide (HJ.out.app hL0 hge HOwn.out hg8 HB.out ho8)
        clear ho8 hg8
        go_wp2_with fail
        refine ⟨_, _, _, _, _, _, _, _, _, _, ?_, hide (HJ2.out)⟩
        · try rw [← HA.out]
          try simp only [putL, List.setIfInBounds_toArray, List.set_cons_succ, List.set_cons_zero]
      · intro L a wx hL0 hd
        rintro ⟨x12, x13, x14, x15, x16, x17, x18, x19, x20, x5, rfl, HJ⟩
        have hD := hd
        try simp [deps, Region.binds] at hD
        clear hD hd
        rw [← HA.out]
        simp only [putL, List.setIfInBounds_toArray, List.set_cons_succ, List.set_cons_zero]
        go_wp2_with fail
        refine ⟨_, _, _, _, _, _, _, _, _, _, ?_, hide (HJ.out.p6 hL0 rfl)⟩
        · try rw [← HA.out]
          try simp only [putL, List.setIfInBounds_toArray, List.set_cons_succ, List.set_cons_zero]
      · intro L a wx hL0 hd
        rintro ⟨x12, x13, x14, x15, x16, x17, x18, x19, x20, x5, rfl, HJ⟩
        have hD := hd
        try simp [deps, Region.binds] at hD
        obtain rfl := HJ.out.h6 (by simp [hD])
        have c0 := HJ.out.tb.f2
        clear hD hd
        rw [← HA.out]
        simp only [putL, List.setIfInBounds_toArray, List.set_cons_succ, List.set_cons_zero]
        go_wp2_with fail
        refine ⟨_, _, _, _, _, _, _, _, _, _, ?_, hide (HJ.out.p7 hL0 rfl)⟩
        · try rw [← HA.out]
          try simp only [putL, List.setIfInBounds_toArray, List.set_cons_succ, List.set_cons_zero]
      · intro L a wx hL0 hd
        rintro ⟨x12, x13, x14, x15, x16, x17, x18, x19, x20, x5, rfl, HJ⟩
        have hD := hd
        try simp [deps, Region.binds] at hD
        obtain rfl := HJ.out.h1 (by simp [hD])
        obtain ⟨go, k, rfl, ho⟩ := HJ.out.h5 (by simp [hD])
        obtain rfl := HJ.out.h7 (by simp [hD])
        have hL5 : L 5 = true := (by simp [hD])
        have HL5 := Lib.hid hL5
        have HO := hide ho
        clear hL5 ho
        clear hD hd
        rw [← HA.out]
        simp only [putL, List.setIfInBounds_toArray, List.set_cons_succ, List.set_cons_zero]
        go_wp2_with fail
        refine ⟨_, _, _, _, _, _, _, _, _, _, ?_, hide (HJ.out.p8 hL0 ⟨go, k, rfl, HO.out⟩ HL5.out)⟩
        · try rw [← HA.out]
          try simp only [putL, List.setIfInBounds_toArray, List.set_cons_succ, List.set_cons_zero]
      · intro L a wx hL0 hd
        rintro ⟨x12, x13, x14, x15, x16, x17, x18, x19, x20, x5, rfl, HJ⟩
        have hD := hd
        try simp [deps, Region.binds] at hD
        clear hD hd
        rw [← HA.out]
        simp only [putL, List.setIfInBounds_toArray, List.set_cons_succ, List.set_cons_zero]
        go_wp2_with fail
        refine ⟨_, _, _, _, _, _, _, _, _, _, ?_, hide (HJ.out.new hL0)⟩
        · try rw [← HA.out]
          try simp only [putL, List.setIfInBounds_toArray, List.set_cons_succ, List.set_cons_zero]
      · intro L a wx hL0 hd
        rintro ⟨x12, x13, x14, x15, x16, x17, x18, x19, x20, x5, rfl, HJ⟩
        have hD := hd
        try simp [deps, Region.binds] at hD
        obtain ⟨go, k, rfl, ho⟩ := HJ.out.h8 (by simp [hD])
        have hL9 : L 9 = true := (by simp [hD])
        obtain ⟨g, rfl, hg, hbx⟩ := HJ.out.h9 hL9
        have hb := hbx hL0
        have HJ2 := hide (HJ.out.put hL0 rfl hg hb HB.out ho (fun k hk => by rcases (show k = 0 ∨ k = 1 ∨ k = 2 ∨ k = 3 ∨ k = 4 ∨ k = 5 ∨ k = 6 ∨ k = 7 ∨ k = 8 ∨ k = 9 by omega) with rfl | rfl | rfl | rfl | rfl | rfl | rfl | rfl | rfl | rfl <;> simp [hD]))
        have r0 : wx.cell? ⟨g, 0, none⟩ = some (.int .i64 0) := by rw [cell_of_row wx _ 0 _ _ (0, 0) hb]; rfl
        have r1 : wx.cell? ⟨g, 1, none⟩ = some (.slice none 0 0) := by rw [cell_of_row wx _ 1 _ _ (0, 0) hb]; rfl
        have r2 : wx.cell? ⟨g, 2, none⟩ = some (.bool false) := by rw [cell_of_row wx _ 2 _ _ (0, 0) hb]; rfl
        have q0 := frozen_of_row wx _ 0 _ _ hb
        have q1 := frozen_of_row wx _ 1 _ _ hb
        have q2 := frozen_of_row wx _ 2 _ _ hb
        clear ho hbx hb hL9
        clear hD hd
        rw [← HA.out]
        simp only [putL, List.setIfInBounds_toArray, List.set_cons_succ, List.set_cons_zero]
        go_wp2_with fail
        refine ⟨_, _, _, _, _, _, _, _, _, _, ?_, hide (HJ2.out)⟩
        · try rw [← HA.out]
          try simp only [putL, List.setIfInBounds_toArray, List.set_cons_succ, List.set_cons_zero]
    · intro L a wx hall
      rintro ⟨x12, x13, x14, x15, x16, x17, x18, x19, x20, x5, rfl, HJ⟩
      rw [← HA.out]
      simp only [putL, List.setIfInBounds_toArray, List.set_cons_succ, List.set_cons_zero]
      have HE := hide (HJ.out.fin (hall 10 (by decide)))
      obtain ⟨g, go, k, rfl, h1, h2, h3⟩ := HE.out
      have HF := hide (show TB w s A n c sh bs wx ∧ ∃ g' go k, Value.pointer (some ⟨g, 0, none⟩) = .pointer (some ⟨g', 0, none⟩) ∧ OB w g' go k s n sh bs wx from ⟨HJ.out.tb, g, go, k, rfl, h1, h2, h3⟩)
      clear h1 h2 h3 HE
      go_wp2_with fail
      go_meet
      exact HF
  case rest =>
    obtain ⟨hT, g, go, k, rfl, hO⟩ := hcut.out
    have S0 := hide (show SS w s A n c sh bs g go k (fill s h bs (bth bs) (h * s + h)) _ from ⟨hT, by rw [fill_start HS.out, tab_self (by rw [HB.out.len, HN.out])]; exact hO, by rw [fill_len, HN.out], HB.out⟩)
    clear hT hO hcut T0
    obtain ⟨f0, f1, f2, _⟩ := S0.out.t
    go_wp2_with fail
    clear f0 f1 f2
    go_loopw [6] (fun yv wr => ∃ y : Nat, yv = .int .i64 y ∧ y ≤ s + h ∧ Hid (y % 2 = h) ∧ Hid (SS w s A n c sh bs g go k (fill s h bs (bth bs) (y * s + h)) wr)) (fun yv _ => 10 - (intOf yv).toNat)
    case atStart => exact ⟨h, rfl, by omega, Lib.hid (by omega), S0.out⟩
    case round =>
      clear S0
      obtain ⟨y, rfl, hy, HY, HT⟩ := hrel
      obtain ⟨f0, f1, f2, _⟩ := HT.out.t
      by_cases hlt : y < s + h
      · have hys : y < s := by have := HY.out; omega
        have hy2 : y + 2 ≤ s + h := by have := HY.out; omega
        have hyI : decide ((y : Int) < (s : Int) + (h : Int)) = true := by rw [decide_eq_true_eq]; omega
        go_wp2_with fail
        clear f0 f1 f2
        go_loopw [7] (fun xv wr => ∃ x : Nat, xv = .int .i64 x ∧ x ≤ s + h ∧ Hid (x % 2 = h) ∧ Hid (SS w s A n c sh bs g go k (fill s h bs (bth bs) (y * s + x)) wr)) (fun xv _ => 10 - (intOf xv).toNat)
        case atStart => exact ⟨h, rfl, by omega, Lib.hid (by omega), HT.out⟩
        case round =>
          clear HT
          obtain ⟨x, rfl, hx, HX, HT⟩ := hrel
          obtain ⟨f0, f1, f2, _⟩ := HT.out.t
          by_cases hlx : x < s + h
          · have HX' := HX
            have hx2 : x + 2 ≤ s + h := by have := HX.out; omega
            have hxI : decide ((x : Int) < (s : Int) + (h : Int)) = true := by rw [decide_eq_true_eq]; omega
            have hxs : x < s := by have := HX.out; omega
            have HF := Lib.hid (setN_fill (bs := bs) HS.out hxs hys HX.out HY.out)
            have HV := Lib.hid (square_vals (bs := bs) HS.out hxs hys HX.out HY.out)
            have hxm : Int.tmod (x : Int) (s : Int) = x := by rw [Int.tmod_eq_emod_of_nonneg (by omega)]; exact Int.emod_eq_of_lt (by omega) (by omega)
            have hym : Int.tmod (y : Int) (s : Int) = y := by rw [Int.tmod_eq_emod_of_nonneg (by omega)]; exact Int.emod_eq_of_lt (by omega) (by omega)
            have hs00 : ¬ (s : Int) = 0 := by omega
            go_wp2_with fail
            refine wp_region_drew_tail 10 (by kernel_rfl) (by kernel_rfl) ?_
            simp only [List.take_succ_cons, List.take_zero, List.drop_succ_cons, List.drop_zero]
            repeat (go_big_quiet_step ((fail)))
            refine wpQuiet_nil ?_
            intro wd hwd
            clear hxm hym f0 f1 f2 hs00
            have HTd := hide (show SS w s A n c sh bs g go k (fill s h bs (bth bs) (y * s + x)) wd by obtain ⟨q, hq⟩ := hwd; rw [hq]; exact HT.out.below (below_drewN (Below.refl _ _) _))
            clear hwd HT
            go_wp2_with fail
            refine (l6Square_any s x y _ HS.out.1 hxs hys).mono ?_
            rintro e w2 ⟨rfl, hw2⟩
            have hb2 : Below wd.heap.size wd w2 := by rw [hw2]; exact (Below.refl _ wd).alloc (Nat.le_refl _) _
            have HT2 := hide (HTd.out.below hb2)
            have hgl := HTd.out.o.golo
            have hsz2 : wd.heap.size < w2.heap.size := by rw [hw2]; simp
            have q0 : w2.cell? ⟨wd.heap.size, 0, none⟩ = some (.int .i64 (cellN s x y : Nat)) := by rw [hw2]; exact cell_at rfl rfl
            have q1 : w2.cell? ⟨wd.heap.size, 1, none⟩ = some (.int .i64 (cellN s (x + 1) y : Nat)) := by rw [hw2]; exact cell_at rfl rfl
            have q2 : w2.cell? ⟨wd.heap.size, 2, none⟩ = some (.int .i64 (cellN s x (y + 1) : Nat)) := by rw [hw2]; exact cell_at rfl rfl
            have q3 : w2.cell? ⟨wd.heap.size, 3, none⟩ = some (.int .i64 (cellN s (x + 1) (y + 1) : Nat)) := by rw [hw2]; exact cell_at rfl rfl
            have HQ2 := Lib.hid (show ∀ i, i < 4 → w2.cell? ⟨wd.heap.size, i, none⟩ = some (.int .i64 (cl s x y i : Nat)) from fun i hi => by
              rcases (show i = 0 ∨ i = 1 ∨ i = 2 ∨ i = 3 by omega) with rfl | rfl | rfl | rfl <;> assumption)
            have hsp : 0 < s := by omega
            have l0 : cellN s x y < n := by rw [HN.out]; exact cellN_lt _ _ _ hsp
            have l1 : cellN s (x + 1) y < n := by rw [HN.out]; exact cellN_lt _ _ _ hsp
            have l2 : cellN s x (y + 1) < n := by rw [HN.out]; exact cellN_lt _ _ _ hsp
            have l3 : cellN s (x + 1) (y + 1) < n := by rw [HN.out]; exact cellN_lt _ _ _ hsp
            obtain ⟨b, o, rfl, hbl, hcc⟩ := HT2.out.t.br.at_ hn0
            have e0 := hcc _ l0
            have e1 := hcc _ l1
            have e2 := hcc _ l2
            have e3 := hcc _ l3
            have f1 := HT2.out.t.f1
            clear hcc hw2 hb2 HTd
            go_wp2_with fail
            refine wp_region_drew_tail 28 (by kernel_rfl) (by kernel_rfl) ?_
            simp only [List.take_succ_cons, List.take_zero, List.drop_succ_cons, List.drop_zero]
            repeat (go_big_quiet_step ((fail)))
            refine wpQuiet_nil ?_
            intro we hwe
            have HT3 := hide (show SS w s (some ⟨b, o, none⟩) n c sh bs g go k (fill s h bs (bth bs) (y * s + x)) we by obtain ⟨q, hq⟩ := hwe; rw [hq]; exact HT2.out.below (below_drewN (Below.refl _ _) _))
            have HQ3 := Lib.hid (show (∀ i, i < 4 → we.cell? ⟨wd.heap.size, i, none⟩ = some (.int .i64 (cl s x y i : Nat))) ∧ wd.heap.size < we.heap.size by obtain ⟨q, hq⟩ := hwe; rw [hq]; exact ⟨HQ2.out, hsz2⟩)
            clear q0 q1 q2 q3 e0 e1 e2 e3 f1 hwe HT2 HQ2 l0 l1 l2 l3
            go_wp2_with fail
            refine calls_named fun W hW => ?_
            have hbW : Below we.heap.size we W := by rw [← hW]; exact (Below.refl _ we).alloc (Nat.le_refl _) _
            refine (l6Turned_any (bth bs (cellN s x y)) (bth bs (cellN s (x + 1) y)) (bth bs (cellN s x (y + 1))) (bth bs (cellN s (x + 1) (y + 1))) we.heap.size 0 W (by rw [← hW]; simp) (by rw [← hW]; exact cell_at rfl rfl) (by rw [← hW]; exact cell_at rfl rfl) (by rw [← hW]; exact cell_at rfl rfl) (by rw [← hW]; exact cell_at rfl rfl)).mono ?_
            rintro e w4 ⟨A4, k4, rfl, ⟨hbr4, hb4⟩, hge⟩
            obtain ⟨VL, hVL⟩ : ∃ VL, VL = [tq (bth bs (cellN s x y)) (bth bs (cellN s (x + 1) y)) (bth bs (cellN s x (y + 1))) (bth bs (cellN s (x + 1) (y + 1))), tq (bth bs (cellN s (x + 1) y)) (bth bs (cellN s x y)) (bth bs (cellN s (x + 1) (y + 1))) (bth bs (cellN s x (y + 1))), tq (bth bs (cellN s x (y + 1))) (bth bs (cellN s (x + 1) (y + 1))) (bth bs (cellN s x y)) (bth bs (cellN s (x + 1) y)), tq (bth bs (cellN s (x + 1) (y + 1))) (bth bs (cellN s x (y + 1))) (bth bs (cellN s (x + 1) y)) (bth bs (cellN s x y))] := ⟨_, rfl⟩
            rw [← hVL] at hbr4
            have HVL := Lib.hid (show ∀ j, j < 4 → bth VL j = stepAt s h bs (cl s x y j) from fun j hj => by
              rw [hVL]
              obtain ⟨v0, v1, v2, v3⟩ := HV.out
              rcases (show j = 0 ∨ j = 1 ∨ j = 2 ∨ j = 3 by omega) with rfl | rfl | rfl | rfl
              · exact v0.symm
              · exact v1.symm
              · exact v2.symm
              · exact v3.symm)
            clear hVL
            have hb5 := bseq hbW hb4
            have HT4 := hide (HT3.out.below hb5)
            have HX4 := Lib.hid (show (∀ i, i < 4 → w4.cell? ⟨wd.heap.size, i, none⟩ = some (.int .i64 (cl s x y i : Nat))) ∧ BR w4 A4 4 VL from
              ⟨fun i hi => (hb5.cell (p := ⟨wd.heap.size, i, none⟩) HQ3.out.2).trans (HQ3.out.1 i hi), hbr4⟩)
            have HGE := Lib.hid (show ∀ b o, A4 = some ⟨b, o, none⟩ → b ≠ go from fun b o e => by have := hge b o e; have := HQ3.out.2; omega)
            have HGD := Lib.hid (show go ≠ wd.heap.size by omega)
            clear hbW hW hbr4 hb4 hge hb5 HT3 HQ3
            go_wp2_with fail
            go_loopw [11] (fun jv wr => ∃ j : Nat, jv = .int .i64 j ∧ j ≤ 4 ∧ Hid (SS w s (some ⟨b, o, none⟩) n c sh bs g go k (setN (fill s h bs (bth bs) (y * s + x)) s h x y bs j) wr) ∧ Hid ((∀ i, i < 4 → wr.cell? ⟨wd.heap.size, i, none⟩ = some (.int .i64 (cl s x y i : Nat))) ∧ BR wr A4 4 VL)) (fun jv _ => 4 - (intOf jv).toNat)
            case atStart => exact ⟨0, rfl, by omega, HT4.out, HX4.out⟩
            case round =>
              clear HT4 HX4
              obtain ⟨j, rfl, hj, HT, HX⟩ := hrel
              by_cases hlt4 : j < 4
              · have HVj := Lib.hid (HVL.out j hlt4)
                have HNx := Lib.hid (show setN (fill s h bs (bth bs) (y * s + x)) s h x y bs (j + 1) = (setN (fill s h bs (bth bs) (y * s + x)) s h x y bs j).set (cl s x y j) (stepAt s h bs (cl s x y j)) from rfl)
                have hcz : cl s x y j < n := by rw [HN.out]; exact cl_lt s x y j hsp
                obtain ⟨_, m1, _⟩ := HT.out.cells
                have m2 := HX.out.1 j hlt4
                obtain ⟨b4, o4, rfl, hbl4, hc4⟩ := HX.out.2.at_ (by omega)
                have m3 := hc4 j hlt4
                rw [HVj.out] at m3
                generalize hcq : cl s x y j = cz at *
                generalize stepAt s h bs cz = tv at *
                clear hc4 hcq
                go_wp2_with fail
                refine wp_region_drew_tail 11 (by kernel_rfl) (by kernel_rfl) ?_
                simp only [List.take_succ_cons, List.take_zero, List.drop_succ_cons, List.drop_zero]
                repeat (go_big_quiet_step ((fail)))
                refine wpQuiet_nil ?_
                intro wf hwf
                have HTf := hide (show SS w s (some ⟨b, o, none⟩) n c sh bs g go k (setN (fill s h bs (bth bs) (y * s + x)) s h x y bs j) wf by obtain ⟨q, hq⟩ := hwf; rw [hq]; exact HT.out.below (below_drewN (Below.refl _ _) _))
                have HXf := hide (show (∀ i, i < 4 → wf.cell? ⟨wd.heap.size, i, none⟩ = some (.int .i64 (cl s x y i : Nat))) ∧ BR wf (some ⟨b4, o4, none⟩) 4 VL by obtain ⟨q, hq⟩ := hwf; rw [hq]; exact ⟨HX.out.1, HX.out.2.below (below_drewN (Below.refl _ _) _)⟩)
                have r1 := HTf.out.o.own.cellAt HTf.out.len cz hcz
                have r2 := HTf.out.o.own.frozenAt HTf.out.len cz
                have HTg := hide (HTf.out.set cz tv)
                have HXg := hide (show (∀ i, i < 4 → (wf.setCell ⟨go, cz, none⟩ (.bool tv)).cell? ⟨wd.heap.size, i, none⟩ = some (.int .i64 (cl s x y i : Nat))) ∧ BR (wf.setCell ⟨go, cz, none⟩ (.bool tv)) (some ⟨b4, o4, none⟩) 4 VL from
                  ⟨fun i hi => by rw [World.cell?_setCell_other _ _ _ _ (by have := HGD.out; first | (simp; done) | (simp; omega))]; exact HXf.out.1 i hi, HXf.out.2.grown (set1B_grown wf go cz _) (fun b' o' e' _ => by have := HGE.out b' o' e'; simpa using this)⟩)
                clear m1 m2 m3 hwf HT HX HTf HXf
                go_wp2_with fail
                go_roundw
                case rel => exact ⟨j + 1, by go_num, by omega, by rw [HNx.out]; exact HTg, HXg⟩
                case measure => simp [intOf]; omega
              · obtain rfl : j = 4 := by omega
                have HT5 := hide (show SS w s (some ⟨b, o, none⟩) n c sh bs g go k (fill s h bs (bth bs) (y * s + (x + 2))) wr by rw [← HF.out]; exact HT.out)
                obtain ⟨f0, f1, f2, _⟩ := HT5.out.t
                go_wp2_with fail
                go_roundw
                case rel =>
                  exact ⟨x + 2, by go_num, hx2, Lib.hid (by have := HX'.out; omega), HT5⟩
                case measure => simp [intOf]; omega
          · have HY2 := Lib.hid (show (y + 2) % 2 = h by have := HY.out; omega)
            have e : x = s + h := by omega
            have HT2 := hide (show SS w s A n c sh bs g go k (fill s h bs (bth bs) ((y + 2) * s + h)) wr by
              have := HT.out
              rw [e, show y * s + (s + h) = y * s + s + h by omega, fill_row HS.out hys HY.out] at this
              exact this)
            clear e
            go_wp2_with fail
            go_roundw
            case rel => exact ⟨y + 2, by go_num, hy2, HY2, HT2⟩
            case measure => simp [intOf]; omega
      · have HE := Lib.hid (show fill s h bs (bth bs) (y * s + h) = stepB s h bs from fill_end HS.out (by
          have := Nat.mul_le_mul_right s (show s ≤ y by omega)
          omega))
        obtain ⟨r0, r1, r2⟩ := HT.out.cells
        obtain ⟨⟨m0, m1, m2⟩, q0, q1, q2⟩ := HT.out.t.cells
        have hsz := HT.out.t.sz
        go_wp2_with fail
        have hg3 := box3_grown wr (w.heap.size + 1) (.int .i64 s) (.slice (some ⟨go, 0, none⟩) n k) (.bool sh)
        refine bodyPost_ret (results_cell_row resultsL6 _ _ (w.heap.size + 1) 25 #[.int .i64 s, .slice (some ⟨go, 0, none⟩) n k, .bool sh] (0, 0) _ rfl (box3_set HT.out.t.rb _ _ _) Try.underlying25 rfl infoF) rfl ⟨go, n, k, rfl, ?_, HT.out.t.low3 _ _ _⟩
        have h1 := HT.out.o.golo
        have := HT.out.o.own.kept hg3 (.inr (by simp [Value.ownBlock]; omega))
        rw [HE.out] at this
        exact this.base_le (by omega)
end Go.Proofs.Ytmakpjcjccgalaa
