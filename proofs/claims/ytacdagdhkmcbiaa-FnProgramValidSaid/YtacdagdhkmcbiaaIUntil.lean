/-
  The parser of the program: until and part, and what they leave.
  No condition.
-/
import Derived.Test.YtacdagdhkmcbiaaIParse
import Derived.Test.YtacdagdhkmcbiaaInv
import Derived.Deep.RegionWith
import Derived.Deep.DeepCutAuto
import Derived.Defers
namespace Go.Proofs.Ytacdagdhkmcbiaa
open Go.RowKit Go.Sort base
theorem upd_ne {L : Nat → Bool} {k j : Nat} (h : upd L k j = true) (hne : (j == k) = false) : L j = true := by simpa [upd, hne] using h
theorem upd_f {L : Nat → Bool} {k j : Nat} (h : upd L k j = false) : L j = false := by simp [upd] at h; exact h.1
structure Shut (p : Prop) : Prop where
  out : p
theorem block_alloc {w : World} {g : Nat} {o : Obj} (h : w.heap[g]? = some o) (o2 : Obj) : (w.alloc o2).heap[g]? = some o :=
  (((Below.refl w.heap.size w).alloc (Nat.le_refl _) o2).block g (Array.getElem?_eq_some_iff.1 h).1).trans h
theorem set1_grown (w : World) (g i : Nat) (v : Value) : w.grownBy (w.setCell ⟨g, i, none⟩ v) (some g) :=
  ⟨rfl, rfl, rfl, by simp [World.setCell], fun k _ hne => heap_setCell_other _ ⟨g, i, none⟩ k _ (fun e => hne (by simp [e]))⟩
/-! ### slices of parts: what is in them does not matter -/
theorem block_info : (Try.prog.info? 69).map (fun i => (i.zero, i.size, i.bytes)) = some (some (.agg #[.int .i64 0, .int .i64 0, .int .i64 0, .int .i64 0, .slice none 0 0, .slice none 0 0, .int .i64 0, .int .i64 0, .int .i64 0, .int .i64 0]), 10, 112) := by kernel_rfl
def OwnK (w : World) (base : Nat) (v : Value) (n : Nat) : Prop := ∃ cs : List Value, cs.length = n * 10 ∧ w.ownsRow base 69 10 v n cs
theorem OwnK.kept {w w' : World} {base : Nat} {v : Value} {n : Nat} {row : Option Nat} (h : OwnK w base v n) (hg : w.grownBy w' row) (hne : v.ownBlock = none ∨ v.ownBlock ≠ row) : OwnK w' base v n := by
  obtain ⟨cs, hl, ho⟩ := h
  exact ⟨cs, hl, World.ownsRow.kept ho hg hne⟩
theorem OwnK.lt {w : World} {base : Nat} {v : Value} {n : Nat} (h : OwnK w base v n) : ∀ k, v.ownBlock = some k → base ≤ k ∧ k < w.heap.size := by
  obtain ⟨cs, hl, ho⟩ := h
  exact World.ownsRow.lt ho
theorem OwnK.nil0 (w : World) (base : Nat) (hb : base ≤ w.heap.size) : OwnK (w.alloc (.cells #[] 69)) base (.slice (some ⟨w.heap.size, 0, none⟩) 0 0) 0 :=
  ⟨[], rfl, by simpa using World.ownsRow_lit (e := 69) (size := 10) w #[] 0 hb (by unfold maxLen; omega) (by simp)⟩
theorem OwnK.slice {w : World} {base : Nat} {v : Value} {n : Nat} (h : OwnK w base v n) : ∃ A c, v = .slice A n c := by
  obtain ⟨cs, hl, ho⟩ := h
  rcases ho.2 with ⟨rfl, h0⟩ | ⟨g, cap, cur, rfl, _⟩
  · exact ⟨none, 0, by rw [h0]⟩
  · exact ⟨_, cap, rfl⟩
/-- 'out = append(out, b)': the part is laid in a block of its own first -/
theorem wpList_appendK1 {ops : Array Oper} {rest : List Oper} {o : Oper} {a : Act} {Q : Exit → Act → World → Prop} {w : World} {base : Nat} {v : Value} {n : Nat} {x0 x1 x2 x3 x4 x5 x6 x7 x8 x9 : Value} (hown : OwnK w base v n) (s y : Operand) (hg : o.guard = none)
    (ho : o.op = .call { callee := .builtin .append, args := #[s, y], argTypes := #[41, 41] }) (hs : a.eval s = v) (hx : a.eval y = .slice (some ⟨w.heap.size, 0, none⟩) 1 1)
    (hone : ∀ u ∈ [x0, x1, x2, x3, x4, x5, x6, x7, x8, x9], u.oneCell' = true) (hl : n ≤ 1000) (hb : base ≤ w.heap.size)
    (h : ∀ v' w', OwnK w' base v' (n + 1) → w.grownBy w' v.ownBlock → wpList Try.prog ops Q rest (a.put o.dst v') w') : wpList Try.prog ops Q (o :: rest) a (w.alloc (.cells #[x0, x1, x2, x3, x4, x5, x6, x7, x8, x9] 69)) := by
  obtain ⟨i0, hi, hz0, hz1, hz2⟩ := info_parts block_info
  obtain ⟨cs, hcl, hown⟩ := hown
  refine wpList_append_own _ hg s y 41 ho base 69 i0 _ 10 112 Try.underlying41 hi hz0 hz1 hz2 rfl (by decide) v n cs hs (World.ownsRow.alloc hown _) ⟨w.heap.size, 0, none⟩ 1 1 [x0, x1, x2, x3, x4, x5, x6, x7, x8, x9] hx rfl ?_ hone (by unfold maxLen; omega) (by omega) (by simp; omega) ?_
  · intro j u hu
    have hj : j < 10 := by have := (List.getElem?_eq_some_iff.1 hu).1; simpa using this
    rw [Addr.add_lit, Nat.zero_add, World.cell?_alloc_at _ _ _ _ rfl]
    simpa using hu
  · intro v' w' h1 h2 _
    exact h v' w' ⟨cs ++ [x0, x1, x2, x3, x4, x5, x6, x7, x8, x9], by simp [hcl]; omega, h1⟩ (grown_seq (World.grownBy_alloc w _ _) h2)
/-! ### the parser's state -/
structure PS (P : Nat) (A : Option Addr) (N c : Nat) (gs : List G4) (at_ deep : Nat) (wr : World) : Prop where
  box : wr.heap[P]? = some (.cells #[.slice A N c, .int .i64 at_, .int .i64 deep] 56 (0, 0))
  gr : GR wr A N gs
  ne : ∀ b o, A = some ⟨b, o, none⟩ → b ≠ P
theorem PS.lt {P N c at_ deep : Nat} {A : Option Addr} {gs : List G4} {wr : World} (h : PS P A N c gs at_ deep wr) : P < wr.heap.size := (Array.getElem?_eq_some_iff.1 h.box).1
theorem PS.below {P N c at_ deep : Nat} {A : Option Addr} {gs : List G4} {wr wy : World} (h : PS P A N c gs at_ deep wr) (hb : Below wr.heap.size wr wy) : PS P A N c gs at_ deep wy :=
  ⟨(hb.block P h.lt).trans h.box, h.gr.below hb, h.ne⟩
theorem PS.grown {P N c at_ deep : Nat} {A : Option Addr} {gs : List G4} {wr wy : World} {row : Option Nat} (h : PS P A N c gs at_ deep wr) (hg : wr.grownBy wy row) (hne : some P ≠ row) (hb : ∀ b o, A = some ⟨b, o, none⟩ → some b ≠ row) : PS P A N c gs at_ deep wy :=
  ⟨(hg.block P h.lt hne).trans h.box, ⟨h.gr.len, h.gr.max, fun hn => by
    obtain ⟨b, o, e, hl, hc⟩ := h.gr.at_ hn
    have hk : ∀ i, wy.cell? ⟨b, i, none⟩ = wr.cell? ⟨b, i, none⟩ := fun i => World.cell?_of_block (hg.block b hl (hb b o e))
    exact ⟨b, o, e, by have := hg.size; omega, fun i hi => ⟨(hk _).trans (hc i hi).1, (hk _).trans (hc i hi).2.1, (hk _).trans (hc i hi).2.2.1, (hk _).trans (hc i hi).2.2.2⟩⟩⟩, h.ne⟩
theorem PS.grown0 {P N c at_ deep : Nat} {A : Option Addr} {gs : List G4} {wr wy : World} {row : Option Nat} (h : PS P A N c gs at_ deep wr) (hg : wr.grownBy wy row) (hne : some P ≠ row) (hb : ∀ b o, A = some ⟨b, o, none⟩ → 0 < N → some b ≠ row) : PS P A N c gs at_ deep wy :=
  ⟨(hg.block P h.lt hne).trans h.box, ⟨h.gr.len, h.gr.max, fun hn => by
    obtain ⟨b, o, e, hl, hc⟩ := h.gr.at_ hn
    have hk : ∀ i, wy.cell? ⟨b, i, none⟩ = wr.cell? ⟨b, i, none⟩ := fun i => World.cell?_of_block (hg.block b hl (hb b o e hn))
    exact ⟨b, o, e, by have := hg.size; omega, fun i hi => ⟨(hk _).trans (hc i hi).1, (hk _).trans (hc i hi).2.1, (hk _).trans (hc i hi).2.2.1, (hk _).trans (hc i hi).2.2.2⟩⟩⟩, h.ne⟩
theorem PS.cells {P N c at_ deep : Nat} {A : Option Addr} {gs : List G4} {wr : World} (h : PS P A N c gs at_ deep wr) : wr.cell? ⟨P, 0, none⟩ = some (.slice A N c) ∧ wr.cell? ⟨P, 1, none⟩ = some (.int .i64 at_) ∧ wr.cell? ⟨P, 2, none⟩ = some (.int .i64 deep) ∧ wr.frozen? ⟨P, 1, none⟩ = false ∧ wr.frozen? ⟨P, 2, none⟩ = false :=
  ⟨by rw [cell_of_row wr P 0 _ _ (0, 0) h.box]; rfl, by rw [cell_of_row wr P 1 _ _ (0, 0) h.box]; rfl, by rw [cell_of_row wr P 2 _ _ (0, 0) h.box]; rfl, frozen_of_row wr P 1 _ _ h.box, frozen_of_row wr P 2 _ _ h.box⟩
theorem PS.gr_set {P N c at_ deep : Nat} {A : Option Addr} {gs : List G4} {wr : World} (h : PS P A N c gs at_ deep wr) (i : Nat) (v : Value) : GR (wr.setCell ⟨P, i, none⟩ v) A N gs :=
  ⟨h.gr.len, h.gr.max, fun hn => by
    obtain ⟨b, o, e, hl, hc⟩ := h.gr.at_ hn
    have hne := h.ne b o e
    have hk : ∀ q, (wr.setCell ⟨P, i, none⟩ v).cell? ⟨b, q, none⟩ = wr.cell? ⟨b, q, none⟩ := fun q => World.cell?_of_block (heap_setCell_other _ ⟨P, i, none⟩ b _ hne)
    exact ⟨b, o, e, by simpa [World.setCell] using hl, fun i hi => ⟨(hk _).trans (hc i hi).1, (hk _).trans (hc i hi).2.1, (hk _).trans (hc i hi).2.2.1, (hk _).trans (hc i hi).2.2.2⟩⟩⟩
theorem PS.setAt {P N c at_ deep : Nat} {A : Option Addr} {gs : List G4} {wr : World} (h : PS P A N c gs at_ deep wr) (k : Nat) : PS P A N c gs k deep (wr.setCell ⟨P, 1, none⟩ (.int .i64 k)) :=
  ⟨heap_setCell_same wr P 1 _ _ _ h.box, h.gr_set _ _, h.ne⟩
theorem PS.setDeep {P N c at_ deep : Nat} {A : Option Addr} {gs : List G4} {wr : World} (h : PS P A N c gs at_ deep wr) (k : Nat) : PS P A N c gs at_ k (wr.setCell ⟨P, 2, none⟩ (.int .i64 k)) :=
  ⟨heap_setCell_same wr P 2 _ _ _ h.box, h.gr_set _ _, h.ne⟩
def leftChain : List PanicEntry := [{ v := .iface 52 (.agg #[]), recovered := false }]
/-- the panic has been raised: the parser is somewhere -/
def Left (P : Nat) (A : Option Addr) (N c : Nat) (gs : List G4) (deep : Nat) (w : World) (e : Ending) (w' : World) : Prop :=
  e = .panicked leftChain ∧ (∃ a d, a ≤ N ∧ deep ≤ d ∧ d ≤ deep + 1 ∧ PS P A N c gs a d w') ∧ w.grownBy w' (some P)
/-- what until leaves -/
def UPost (P : Nat) (A : Option Addr) (N c : Nat) (gs : List G4) (at_ deep : Nat) (r : Option (List Int)) (w : World) (e : Ending) (w' : World) : Prop :=
  match r with
  | some l => (∃ A' n' c', e = .returned (.slice A' n' c')) ∧ (∃ k, k ≤ N ∧ at_ < k ∧ l = (kindsOf gs).drop k ∧ PS P A N c gs k deep w') ∧ w.grownBy w' (some P)
  | none => Left P A N c gs deep w e w'
def blkV (xs : List Value) : Value := .agg xs.toArray
/-- what part leaves -/
def PPost (P : Nat) (A : Option Addr) (N c : Nat) (gs : List G4) (at_ deep : Nat) (r : Option (List Int)) (w : World) (e : Ending) (w' : World) : Prop :=
  match r with
  | some l => (∃ x0 x1 x2 x3 x4 x5 x6 x7 x8 x9 : Value, e = .returned (.agg #[x0, x1, x2, x3, x4, x5, x6, x7, x8, x9]) ∧ ∀ u ∈ [x0, x1, x2, x3, x4, x5, x6, x7, x8, x9], u.oneCell' = true) ∧ (∃ k, k ≤ N ∧ at_ < k ∧ l = (kindsOf gs).drop k ∧ PS P A N c gs k deep w') ∧ w.grownBy w' (some P)
  | none => Left P A N c gs deep w e w'
def pp (n : Nat) (ks : List Int) (k : Int) (deep : Nat) : Option (List Int) :=
  if 3 ≤ deep then none else if k = 4 then pu n ks 5 (deep + 1) else (pu n ks 7 (deep + 1)).bind fun r => pu n r 8 (deep + 1)
/-- the contract of until, with so much fuel -/
def UC (m : Nat) : Prop := ∀ (P : Nat) (A : Option Addr) (N c : Nat) (gs : List G4) (at_ deep : Nat) (kind : Int) (w : World), PS P A N c gs at_ deep w → N ≤ 100 → at_ ≤ N → N - at_ < m → m ≤ 900 → deep ≤ 3 → -1 ≤ kind ∧ kind ≤ 8 →
  Calls Try.prog 26 #[.pointer (some ⟨P, 0, none⟩), .int .i64 kind] w (UPost P A N c gs at_ deep (pu m ((kindsOf gs).drop at_) kind deep) w)
def PC (m : Nat) : Prop := ∀ (P : Nat) (A : Option Addr) (N c : Nat) (gs : List G4) (at_ deep : Nat) (g : G4) (w : World), PS P A N c gs at_ deep w → N ≤ 100 → at_ ≤ N → 0 < at_ → N - at_ < m → m ≤ 900 → deep ≤ 3 → g.1 = 4 ∨ g.1 = 6 →
  Calls Try.prog 35 #[.pointer (some ⟨P, 0, none⟩), .agg #[.int .i64 g.1, .int .i64 g.2.1, .int .i64 g.2.2.1, .int .i64 g.2.2.2]] w (PPost P A N c gs at_ deep (pp m ((kindsOf gs).drop at_) g.1 deep) w)
theorem box4_grown (w : World) (b : Nat) (y0 y1 y2 y3 : Value) : w.grownBy ((((w.setCell ⟨b, 0, none⟩ y0).setCell ⟨b, 1, none⟩ y1).setCell ⟨b, 2, none⟩ y2).setCell ⟨b, 3, none⟩ y3) (some b) :=
  grown_seq (grown_seq (grown_seq (set1_grown _ _ _ _) (set1_grown _ _ _ _)) (set1_grown _ _ _ _)) (set1_grown _ _ _ _)
theorem GAt.grown {w wy : World} {b q : Nat} {g : G4} {row : Option Nat} (h : GAt w b q g) (hl : b < w.heap.size) (hg : w.grownBy wy row) (hne : some b ≠ row) : GAt wy b q g := by
  have hk : ∀ i, wy.cell? ⟨b, i, none⟩ = w.cell? ⟨b, i, none⟩ := fun i => World.cell?_of_block (hg.block b hl hne)
  exact ⟨(hk _).trans h.1, (hk _).trans h.2.1, (hk _).trans h.2.2.1, (hk _).trans h.2.2.2⟩
structure JU (w : World) (P b o N c j deep : Nat) (gs : List G4) (k0 k1 k2 k3 : Int) (L : Nat → Bool) (x18 x19 x20 x21 x22 x23 x24 x25 x26 x27 x6 : Value) (wx : World) : Prop where
  h0 : L 0 = true → x18 = .pointer (some ⟨P, 0, none⟩)
  h1 : L 1 = true → x19 = .pointer (some ⟨P, 0, none⟩)
  h2 : L 2 = true → x20 = .pointer (some ⟨P, 0, none⟩)
  h3 : L 3 = true → x21 = .slice (some ⟨b, o, none⟩) N c
  h4 : L 4 = true → x22 = .pointer (some ⟨P, 0, none⟩)
  h5 : L 5 = true → x23 = .pointer (some ⟨P, 0, none⟩)
  h6 : L 6 = true → x24 = .pointer (some ⟨P, 1, none⟩)
  h7 : L 7 = true → x25 = .int .i64 j
  h8 : L 8 = true → x26 = .pointer (some ⟨b, o + j * 4, none⟩)
  h9 : L 9 = true → x27 = .agg #[.int .i64 k0, .int .i64 k1, .int .i64 k2, .int .i64 k3]
  h10 : L 10 = true → ∃ g, x6 = .pointer (some ⟨g, 0, none⟩) ∧ w.heap.size ≤ g ∧ (L 11 = false → wx.heap[g]? = some (.cells #[.int .i64 0, .int .i64 0, .int .i64 0, .int .i64 0] 32 (0, 0))) ∧ (L 11 = true → wx.heap[g]? = some (.cells #[.int .i64 k0, .int .i64 k1, .int .i64 k2, .int .i64 k3] 32 (0, 0)))
  ps : PS P (some ⟨b, o, none⟩) N c gs j deep wx
  ln : GAt wx b (o + j * 4) (k0, k1, k2, k3)
  bl : b < w.heap.size
  gr : Below w.heap.size w wx
  c11 : L 10 = false → L 11 = false
theorem JU.start {w : World} {P b o N c j deep : Nat} {gs : List G4} {k0 k1 k2 k3 : Int} {wx : World} {x18 x19 x20 x21 x22 x23 x24 x25 x26 x27 x6 : Value} (hs : PS P (some ⟨b, o, none⟩) N c gs j deep wx) (hl : GAt wx b (o + j * 4) (k0, k1, k2, k3)) (hb : b < w.heap.size) (hg : Below w.heap.size w wx) : JU w P b o N c j deep gs k0 k1 k2 k3 (fun _ => false) x18 x19 x20 x21 x22 x23 x24 x25 x26 x27 x6 wx :=
  ⟨(fun h => by cases h), (fun h => by cases h), (fun h => by cases h), (fun h => by cases h), (fun h => by cases h), (fun h => by cases h), (fun h => by cases h), (fun h => by cases h), (fun h => by cases h), (fun h => by cases h), (fun h => by cases h), hs, hl, hb, hg, (fun _ => rfl)⟩
theorem JU.p0 {w : World} {P b o N c j deep : Nat} {gs : List G4} {k0 k1 k2 k3 : Int} {wx : World} {L : Nat → Bool} {x18 x19 x20 x21 x22 x23 x24 x25 x26 x27 x6 : Value} (h : JU w P b o N c j deep gs k0 k1 k2 k3 L x18 x19 x20 x21 x22 x23 x24 x25 x26 x27 x6 wx) (hL : L 0 = false) {v : Value} (hv : v = .pointer (some ⟨P, 0, none⟩))  : JU w P b o N c j deep gs k0 k1 k2 k3 (upd L 0) (v) x19 x20 x21 x22 x23 x24 x25 x26 x27 x6 wx :=
  ⟨fun _ => hv, fun e => h.h1 (upd_ne e rfl), fun e => h.h2 (upd_ne e rfl), fun e => h.h3 (upd_ne e rfl), fun e => h.h4 (upd_ne e rfl), fun e => h.h5 (upd_ne e rfl), fun e => h.h6 (upd_ne e rfl), fun e => h.h7 (upd_ne e rfl), fun e => h.h8 (upd_ne e rfl), fun e => h.h9 (upd_ne e rfl), fun e => (h.h10 (upd_ne e rfl)).imp fun _ h1 => ⟨h1.1, h1.2.1, fun e2 => h1.2.2.1 (upd_f e2), fun e2 => h1.2.2.2 (upd_ne e2 rfl)⟩, h.ps, h.ln, h.bl, h.gr, fun e => by have := h.c11 (upd_f e); simp [upd, this]⟩
theorem JU.p1 {w : World} {P b o N c j deep : Nat} {gs : List G4} {k0 k1 k2 k3 : Int} {wx : World} {L : Nat → Bool} {x18 x19 x20 x21 x22 x23 x24 x25 x26 x27 x6 : Value} (h : JU w P b o N c j deep gs k0 k1 k2 k3 L x18 x19 x20 x21 x22 x23 x24 x25 x26 x27 x6 wx) (hL : L 1 = false) {v : Value} (hv : v = .pointer (some ⟨P, 0, none⟩))  : JU w P b o N c j deep gs k0 k1 k2 k3 (upd L 1) x18 (v) x20 x21 x22 x23 x24 x25 x26 x27 x6 wx :=
  ⟨fun e => h.h0 (upd_ne e rfl), fun _ => hv, fun e => h.h2 (upd_ne e rfl), fun e => h.h3 (upd_ne e rfl), fun e => h.h4 (upd_ne e rfl), fun e => h.h5 (upd_ne e rfl), fun e => h.h6 (upd_ne e rfl), fun e => h.h7 (upd_ne e rfl), fun e => h.h8 (upd_ne e rfl), fun e => h.h9 (upd_ne e rfl), fun e => (h.h10 (upd_ne e rfl)).imp fun _ h1 => ⟨h1.1, h1.2.1, fun e2 => h1.2.2.1 (upd_f e2), fun e2 => h1.2.2.2 (upd_ne e2 rfl)⟩, h.ps, h.ln, h.bl, h.gr, fun e => by have := h.c11 (upd_f e); simp [upd, this]⟩
theorem JU.p2 {w : World} {P b o N c j deep : Nat} {gs : List G4} {k0 k1 k2 k3 : Int} {wx : World} {L : Nat → Bool} {x18 x19 x20 x21 x22 x23 x24 x25 x26 x27 x6 : Value} (h : JU w P b o N c j deep gs k0 k1 k2 k3 L x18 x19 x20 x21 x22 x23 x24 x25 x26 x27 x6 wx) (hL : L 2 = false) {v : Value} (hv : v = .pointer (some ⟨P, 0, none⟩))  : JU w P b o N c j deep gs k0 k1 k2 k3 (upd L 2) x18 x19 (v) x21 x22 x23 x24 x25 x26 x27 x6 wx :=
  ⟨fun e => h.h0 (upd_ne e rfl), fun e => h.h1 (upd_ne e rfl), fun _ => hv, fun e => h.h3 (upd_ne e rfl), fun e => h.h4 (upd_ne e rfl), fun e => h.h5 (upd_ne e rfl), fun e => h.h6 (upd_ne e rfl), fun e => h.h7 (upd_ne e rfl), fun e => h.h8 (upd_ne e rfl), fun e => h.h9 (upd_ne e rfl), fun e => (h.h10 (upd_ne e rfl)).imp fun _ h1 => ⟨h1.1, h1.2.1, fun e2 => h1.2.2.1 (upd_f e2), fun e2 => h1.2.2.2 (upd_ne e2 rfl)⟩, h.ps, h.ln, h.bl, h.gr, fun e => by have := h.c11 (upd_f e); simp [upd, this]⟩
theorem JU.p3 {w : World} {P b o N c j deep : Nat} {gs : List G4} {k0 k1 k2 k3 : Int} {wx : World} {L : Nat → Bool} {x18 x19 x20 x21 x22 x23 x24 x25 x26 x27 x6 : Value} (h : JU w P b o N c j deep gs k0 k1 k2 k3 L x18 x19 x20 x21 x22 x23 x24 x25 x26 x27 x6 wx) (hL : L 3 = false) {v : Value} (hv : v = .slice (some ⟨b, o, none⟩) N c)  : JU w P b o N c j deep gs k0 k1 k2 k3 (upd L 3) x18 x19 x20 (v) x22 x23 x24 x25 x26 x27 x6 wx :=
  ⟨fun e => h.h0 (upd_ne e rfl), fun e => h.h1 (upd_ne e rfl), fun e => h.h2 (upd_ne e rfl), fun _ => hv, fun e => h.h4 (upd_ne e rfl), fun e => h.h5 (upd_ne e rfl), fun e => h.h6 (upd_ne e rfl), fun e => h.h7 (upd_ne e rfl), fun e => h.h8 (upd_ne e rfl), fun e => h.h9 (upd_ne e rfl), fun e => (h.h10 (upd_ne e rfl)).imp fun _ h1 => ⟨h1.1, h1.2.1, fun e2 => h1.2.2.1 (upd_f e2), fun e2 => h1.2.2.2 (upd_ne e2 rfl)⟩, h.ps, h.ln, h.bl, h.gr, fun e => by have := h.c11 (upd_f e); simp [upd, this]⟩
theorem JU.p4 {w : World} {P b o N c j deep : Nat} {gs : List G4} {k0 k1 k2 k3 : Int} {wx : World} {L : Nat → Bool} {x18 x19 x20 x21 x22 x23 x24 x25 x26 x27 x6 : Value} (h : JU w P b o N c j deep gs k0 k1 k2 k3 L x18 x19 x20 x21 x22 x23 x24 x25 x26 x27 x6 wx) (hL : L 4 = false) {v : Value} (hv : v = .pointer (some ⟨P, 0, none⟩))  : JU w P b o N c j deep gs k0 k1 k2 k3 (upd L 4) x18 x19 x20 x21 (v) x23 x24 x25 x26 x27 x6 wx :=
  ⟨fun e => h.h0 (upd_ne e rfl), fun e => h.h1 (upd_ne e rfl), fun e => h.h2 (upd_ne e rfl), fun e => h.h3 (upd_ne e rfl), fun _ => hv, fun e => h.h5 (upd_ne e rfl), fun e => h.h6 (upd_ne e rfl), fun e => h.h7 (upd_ne e rfl), fun e => h.h8 (upd_ne e rfl), fun e => h.h9 (upd_ne e rfl), fun e => (h.h10 (upd_ne e rfl)).imp fun _ h1 => ⟨h1.1, h1.2.1, fun e2 => h1.2.2.1 (upd_f e2), fun e2 => h1.2.2.2 (upd_ne e2 rfl)⟩, h.ps, h.ln, h.bl, h.gr, fun e => by have := h.c11 (upd_f e); simp [upd, this]⟩
theorem JU.p5 {w : World} {P b o N c j deep : Nat} {gs : List G4} {k0 k1 k2 k3 : Int} {wx : World} {L : Nat → Bool} {x18 x19 x20 x21 x22 x23 x24 x25 x26 x27 x6 : Value} (h : JU w P b o N c j deep gs k0 k1 k2 k3 L x18 x19 x20 x21 x22 x23 x24 x25 x26 x27 x6 wx) (hL : L 5 = false) {v : Value} (hv : v = .pointer (some ⟨P, 0, none⟩))  : JU w P b o N c j deep gs k0 k1 k2 k3 (upd L 5) x18 x19 x20 x21 x22 (v) x24 x25 x26 x27 x6 wx :=
  ⟨fun e => h.h0 (upd_ne e rfl), fun e => h.h1 (upd_ne e rfl), fun e => h.h2 (upd_ne e rfl), fun e => h.h3 (upd_ne e rfl), fun e => h.h4 (upd_ne e rfl), fun _ => hv, fun e => h.h6 (upd_ne e rfl), fun e => h.h7 (upd_ne e rfl), fun e => h.h8 (upd_ne e rfl), fun e => h.h9 (upd_ne e rfl), fun e => (h.h10 (upd_ne e rfl)).imp fun _ h1 => ⟨h1.1, h1.2.1, fun e2 => h1.2.2.1 (upd_f e2), fun e2 => h1.2.2.2 (upd_ne e2 rfl)⟩, h.ps, h.ln, h.bl, h.gr, fun e => by have := h.c11 (upd_f e); simp [upd, this]⟩
theorem JU.p6 {w : World} {P b o N c j deep : Nat} {gs : List G4} {k0 k1 k2 k3 : Int} {wx : World} {L : Nat → Bool} {x18 x19 x20 x21 x22 x23 x24 x25 x26 x27 x6 : Value} (h : JU w P b o N c j deep gs k0 k1 k2 k3 L x18 x19 x20 x21 x22 x23 x24 x25 x26 x27 x6 wx) (hL : L 6 = false) {v : Value} (hv : v = .pointer (some ⟨P, 1, none⟩))  : JU w P b o N c j deep gs k0 k1 k2 k3 (upd L 6) x18 x19 x20 x21 x22 x23 (v) x25 x26 x27 x6 wx :=
  ⟨fun e => h.h0 (upd_ne e rfl), fun e => h.h1 (upd_ne e rfl), fun e => h.h2 (upd_ne e rfl), fun e => h.h3 (upd_ne e rfl), fun e => h.h4 (upd_ne e rfl), fun e => h.h5 (upd_ne e rfl), fun _ => hv, fun e => h.h7 (upd_ne e rfl), fun e => h.h8 (upd_ne e rfl), fun e => h.h9 (upd_ne e rfl), fun e => (h.h10 (upd_ne e rfl)).imp fun _ h1 => ⟨h1.1, h1.2.1, fun e2 => h1.2.2.1 (upd_f e2), fun e2 => h1.2.2.2 (upd_ne e2 rfl)⟩, h.ps, h.ln, h.bl, h.gr, fun e => by have := h.c11 (upd_f e); simp [upd, this]⟩
theorem JU.p7 {w : World} {P b o N c j deep : Nat} {gs : List G4} {k0 k1 k2 k3 : Int} {wx : World} {L : Nat → Bool} {x18 x19 x20 x21 x22 x23 x24 x25 x26 x27 x6 : Value} (h : JU w P b o N c j deep gs k0 k1 k2 k3 L x18 x19 x20 x21 x22 x23 x24 x25 x26 x27 x6 wx) (hL : L 7 = false) {v : Value} (hv : v = .int .i64 j)  : JU w P b o N c j deep gs k0 k1 k2 k3 (upd L 7) x18 x19 x20 x21 x22 x23 x24 (v) x26 x27 x6 wx :=
  ⟨fun e => h.h0 (upd_ne e rfl), fun e => h.h1 (upd_ne e rfl), fun e => h.h2 (upd_ne e rfl), fun e => h.h3 (upd_ne e rfl), fun e => h.h4 (upd_ne e rfl), fun e => h.h5 (upd_ne e rfl), fun e => h.h6 (upd_ne e rfl), fun _ => hv, fun e => h.h8 (upd_ne e rfl), fun e => h.h9 (upd_ne e rfl), fun e => (h.h10 (upd_ne e rfl)).imp fun _ h1 => ⟨h1.1, h1.2.1, fun e2 => h1.2.2.1 (upd_f e2), fun e2 => h1.2.2.2 (upd_ne e2 rfl)⟩, h.ps, h.ln, h.bl, h.gr, fun e => by have := h.c11 (upd_f e); simp [upd, this]⟩
theorem JU.p8 {w : World} {P b o N c j deep : Nat} {gs : List G4} {k0 k1 k2 k3 : Int} {wx : World} {L : Nat → Bool} {x18 x19 x20 x21 x22 x23 x24 x25 x26 x27 x6 : Value} (h : JU w P b o N c j deep gs k0 k1 k2 k3 L x18 x19 x20 x21 x22 x23 x24 x25 x26 x27 x6 wx) (hL : L 8 = false) {v : Value} (hv : v = .pointer (some ⟨b, o + j * 4, none⟩))  : JU w P b o N c j deep gs k0 k1 k2 k3 (upd L 8) x18 x19 x20 x21 x22 x23 x24 x25 (v) x27 x6 wx :=
  ⟨fun e => h.h0 (upd_ne e rfl), fun e => h.h1 (upd_ne e rfl), fun e => h.h2 (upd_ne e rfl), fun e => h.h3 (upd_ne e rfl), fun e => h.h4 (upd_ne e rfl), fun e => h.h5 (upd_ne e rfl), fun e => h.h6 (upd_ne e rfl), fun e => h.h7 (upd_ne e rfl), fun _ => hv, fun e => h.h9 (upd_ne e rfl), fun e => (h.h10 (upd_ne e rfl)).imp fun _ h1 => ⟨h1.1, h1.2.1, fun e2 => h1.2.2.1 (upd_f e2), fun e2 => h1.2.2.2 (upd_ne e2 rfl)⟩, h.ps, h.ln, h.bl, h.gr, fun e => by have := h.c11 (upd_f e); simp [upd, this]⟩
theorem JU.p9 {w : World} {P b o N c j deep : Nat} {gs : List G4} {k0 k1 k2 k3 : Int} {wx : World} {L : Nat → Bool} {x18 x19 x20 x21 x22 x23 x24 x25 x26 x27 x6 : Value} (h : JU w P b o N c j deep gs k0 k1 k2 k3 L x18 x19 x20 x21 x22 x23 x24 x25 x26 x27 x6 wx) (hL : L 9 = false) {v : Value} (hv : v = .agg #[.int .i64 k0, .int .i64 k1, .int .i64 k2, .int .i64 k3])  : JU w P b o N c j deep gs k0 k1 k2 k3 (upd L 9) x18 x19 x20 x21 x22 x23 x24 x25 x26 (v) x6 wx :=
  ⟨fun e => h.h0 (upd_ne e rfl), fun e => h.h1 (upd_ne e rfl), fun e => h.h2 (upd_ne e rfl), fun e => h.h3 (upd_ne e rfl), fun e => h.h4 (upd_ne e rfl), fun e => h.h5 (upd_ne e rfl), fun e => h.h6 (upd_ne e rfl), fun e => h.h7 (upd_ne e rfl), fun e => h.h8 (upd_ne e rfl), fun _ => hv, fun e => (h.h10 (upd_ne e rfl)).imp fun _ h1 => ⟨h1.1, h1.2.1, fun e2 => h1.2.2.1 (upd_f e2), fun e2 => h1.2.2.2 (upd_ne e2 rfl)⟩, h.ps, h.ln, h.bl, h.gr, fun e => by have := h.c11 (upd_f e); simp [upd, this]⟩
theorem JU.new {w : World} {P b o N c j deep : Nat} {gs : List G4} {k0 k1 k2 k3 : Int} {wx : World} {L : Nat → Bool} {x18 x19 x20 x21 x22 x23 x24 x25 x26 x27 x6 : Value} (h : JU w P b o N c j deep gs k0 k1 k2 k3 L x18 x19 x20 x21 x22 x23 x24 x25 x26 x27 x6 wx) (hL : L 10 = false) (hL11 : L 11 = false)  : JU w P b o N c j deep gs k0 k1 k2 k3 (upd L 10) x18 x19 x20 x21 x22 x23 x24 x25 x26 x27 (.pointer (some ⟨wx.heap.size, 0, none⟩)) (wx.alloc (.cells #[.int .i64 0, .int .i64 0, .int .i64 0, .int .i64 0] 32)) :=
  ⟨fun e => h.h0 (upd_ne e rfl), fun e => h.h1 (upd_ne e rfl), fun e => h.h2 (upd_ne e rfl), fun e => h.h3 (upd_ne e rfl), fun e => h.h4 (upd_ne e rfl), fun e => h.h5 (upd_ne e rfl), fun e => h.h6 (upd_ne e rfl), fun e => h.h7 (upd_ne e rfl), fun e => h.h8 (upd_ne e rfl), fun e => h.h9 (upd_ne e rfl), fun _ => ⟨_, rfl, h.gr.size, fun _ => heap_alloc_new wx _, fun e => absurd (upd_ne e rfl) (by simp [hL11])⟩, h.ps.below ((Below.refl _ wx).alloc (Nat.le_refl _) _), ⟨cell_old h.ln.1, cell_old h.ln.2.1, cell_old h.ln.2.2.1, cell_old h.ln.2.2.2⟩, h.bl, h.gr.alloc h.gr.size _, fun e => by simp [upd] at e⟩
theorem JU.put {w : World} {P b o N c j deep : Nat} {gs : List G4} {k0 k1 k2 k3 : Int} {wx : World} {L : Nat → Bool} {x18 x19 x20 x21 x22 x23 x24 x25 x26 x27 x6 : Value} (h : JU w P b o N c j deep gs k0 k1 k2 k3 L x18 x19 x20 x21 x22 x23 x24 x25 x26 x27 x6 wx) (hL : L 11 = false) {g : Nat} (hx : x6 = .pointer (some ⟨g, 0, none⟩)) (hlo : w.heap.size ≤ g) (hPl : P < w.heap.size) (hL10 : L 10 = true) (hb : wx.heap[g]? = some (.cells #[.int .i64 0, .int .i64 0, .int .i64 0, .int .i64 0] 32 (0, 0))) : JU w P b o N c j deep gs k0 k1 k2 k3 (upd L 11) x18 x19 x20 x21 x22 x23 x24 x25 x26 x27 x6 ((((wx.setCell ⟨g, 0, none⟩ (.int .i64 k0)).setCell ⟨g, 1, none⟩ (.int .i64 k1)).setCell ⟨g, 2, none⟩ (.int .i64 k2)).setCell ⟨g, 3, none⟩ (.int .i64 k3)) :=
  ⟨fun e => h.h0 (upd_ne e rfl), fun e => h.h1 (upd_ne e rfl), fun e => h.h2 (upd_ne e rfl), fun e => h.h3 (upd_ne e rfl), fun e => h.h4 (upd_ne e rfl), fun e => h.h5 (upd_ne e rfl), fun e => h.h6 (upd_ne e rfl), fun e => h.h7 (upd_ne e rfl), fun e => h.h8 (upd_ne e rfl), fun e => h.h9 (upd_ne e rfl), fun _ => ⟨g, hx, hlo, fun e => by simp [upd] at e, fun _ => heap_setCell_same _ g 3 _ _ _ (heap_setCell_same _ g 2 _ _ _ (heap_setCell_same _ g 1 _ _ _ (heap_setCell_same wx g 0 _ _ _ hb)))⟩, h.ps.grown (box4_grown wx g _ _ _ _) (by simp; omega) (fun b' o' e => by have := h.bl; simp at e; simp; omega), GAt.grown h.ln (Nat.lt_of_lt_of_le h.bl h.gr.size) (box4_grown wx g _ _ _ _) (by have := h.bl; simp; omega), h.bl, h.gr.grown (box4_grown wx g _ _ _ _) h.gr.size (fun k hk => by simp at hk; omega), fun e => absurd (upd_f e) (by simp [hL10])⟩
/- the parser's place, as the memory tells it -/
def placeOf (P : Nat) (w : World) : Nat := match w.cell? ⟨P, 1, none⟩ with
  | some (.int _ z) => z.toNat
  | _ => 0
theorem PS.place {P N c at_ deep : Nat} {A : Option Addr} {gs : List G4} {wr : World} (h : PS P A N c gs at_ deep wr) : placeOf P wr = at_ := by unfold placeOf; rw [h.cells.2.1]; simp
theorem pu_cons (n : Nat) (k : Int) (ks : List Int) (kind : Int) (deep : Nat) : pu (n + 1) (k :: ks) kind deep = if k = kind then some ks else if k = 5 ∨ k = 7 ∨ k = 8 then none else if k = 4 ∨ k = 6 then (pp n ks k deep).bind fun r => pu n r kind deep else pu n ks kind deep := by
  rw [pu]
  unfold pp
  by_cases h1 : k = kind
  · rw [if_pos h1, if_pos h1]
  rw [if_neg h1, if_neg h1]
  by_cases h2 : k = 5 ∨ k = 7 ∨ k = 8
  · rw [if_pos h2, if_pos h2]
  rw [if_neg h2, if_neg h2]
  by_cases h4 : k = 4
  · rw [if_pos h4, if_pos (Or.inl h4)]
    by_cases hd : 3 ≤ deep
    · rw [if_pos hd, if_pos hd]; rfl
    · rw [if_neg hd, if_neg hd, if_pos h4]
  rw [if_neg h4]
  by_cases h6 : k = 6
  · rw [if_pos h6, if_pos (Or.inr h6)]
    by_cases hd : 3 ≤ deep
    · rw [if_pos hd, if_pos hd]; rfl
    · rw [if_neg hd, if_neg hd, if_neg h4]
  rw [if_neg h6, if_neg (by omega)]
theorem pu_nil (n : Nat) (kind : Int) (deep : Nat) : pu n [] kind deep = none := by cases n <;> rfl
/-- the loop of until: where it stands -/
structure US (w : World) (P : Nat) (A : Option Addr) (N c : Nat) (gs : List G4) (deep n : Nat) (at_ : Nat) (ks0 : List Int) (kind : Int) (V : Value) (wr : World) (j k m : Nat) : Prop where
  ps : PS P A N c gs j deep wr
  own : OwnK wr w.heap.size V k
  km : k + m ≤ n
  aj : at_ ≤ j
  jN : j ≤ N
  mn : m ≤ n
  fu : N - j < m
  eq : pu n ks0 kind deep = pu m ((kindsOf gs).drop j) kind deep
  gr : w.grownBy wr (some P)
  Pl : P < w.heap.size
  Al : ∀ b o, A = some ⟨b, o, none⟩ → 0 < N → b < w.heap.size
theorem US.below {w wr wy : World} {P N c deep n at_ j k m : Nat} {A : Option Addr} {gs : List G4} {ks0 : List Int} {kind : Int} {V : Value} (h : US w P A N c gs deep n at_ ks0 kind V wr j k m) (hb : Below wr.heap.size wr wy) : US w P A N c gs deep n at_ ks0 kind V wy j k m :=
  ⟨h.ps.below hb, h.own.kept (row := none) ⟨hb.os, hb.tape, hb.output, hb.size, fun k hk _ => hb.block k hk⟩ (by cases V.ownBlock <;> simp), h.km, h.aj, h.jN, h.mn, h.fu, h.eq, grown_seq h.gr ⟨hb.os, hb.tape, hb.output, hb.size, fun k hk _ => hb.block k hk⟩, h.Pl, h.Al⟩
/- the place moved on -/
theorem US.ownAt {w wr : World} {P N c deep n at_ j k m : Nat} {A : Option Addr} {gs : List G4} {ks0 : List Int} {kind : Int} {V : Value} (h : US w P A N c gs deep n at_ ks0 kind V wr j k m) (v : Value) : OwnK (wr.setCell ⟨P, 1, none⟩ v) w.heap.size V k :=
  h.own.kept (set1_grown wr P 1 v) (by
    cases hv : V.ownBlock with
    | none => exact .inl rfl
    | some b => right; intro e; have := (h.own.lt b hv).1; have := h.Pl; simp at e; omega)
theorem grown_far {a b c : World} {row r : Option Nat} (h : a.grownBy b row) (k : b.grownBy c r) (hr : ∀ x, r = some x → a.heap.size ≤ x) : a.grownBy c row :=
  ⟨k.os.trans h.os, k.tape.trans h.tape, k.output.trans h.output, Nat.le_trans h.size k.size, fun i hi hne => (k.block i (Nat.lt_of_lt_of_le hi h.size) (fun e => by have := hr i e.symm; omega)).trans (h.block i hi hne)⟩
/- the loop goes on with one part more -/
theorem US.next {w w4 w6 : World} {P N c deep n at_ k m' k' : Nat} {A : Option Addr} {gs : List G4} {ks0 : List Int} {kind : Int} {V V' : Value} (hPl : P < w.heap.size) (hAl : ∀ b o, A = some ⟨b, o, none⟩ → 0 < N → b < w.heap.size) (hN0 : 0 < N)
    (ps : PS P A N c gs k' deep w4) (ow : OwnK w4 w.heap.size V k) (gr : w.grownBy w4 (some P)) (ho : OwnK w6 w.heap.size V' (k + 1)) (hg : w4.grownBy w6 V.ownBlock) (km : k + 1 + m' ≤ n) (aj : at_ ≤ k') (jN : k' ≤ N) (fu : N - k' < m') (eq : pu n ks0 kind deep = pu m' ((kindsOf gs).drop k') kind deep) :
    US w P A N c gs deep n at_ ks0 kind V' w6 k' (k + 1) m' := by
  have hlt := fun b hb => (ow.lt b hb).1
  refine ⟨ps.grown hg (fun e => by have := hlt P e.symm; omega) (fun b o e e2 => by have := hlt b e2.symm; have := hAl b o e hN0; omega), ho, km, aj, jN, by omega, fu, eq, grown_far gr hg hlt, hPl, hAl⟩
set_option maxRecDepth 100000 in
set_option maxHeartbeats 8000000 in
theorem until_of (n : Nat) (ih : ∀ m, m < n → PC m) : UC n := by
  intro P A N c gs at_ deep kind w hps hN hat hfu hn9 hdeep hkind
  have hPl := hps.lt
  obtain ⟨hk1, hk2⟩ := hkind
  have IH := hide ih
  have S0 : Hid (US w P A N c gs deep n at_ ((kindsOf gs).drop at_) kind (.slice (some ⟨w.heap.size, 0, none⟩) 0 0) (w.alloc (.cells #[] 69)) at_ 0 n) :=
    ⟨hps.below ((Below.refl _ w).alloc (Nat.le_refl _) _), OwnK.nil0 w _ (Nat.le_refl _), by omega, Nat.le_refl _, hat, Nat.le_refl _, hfu, rfl, World.grownBy_alloc w _ _, hPl, fun b o e h0 => by
      obtain ⟨b', o', e', hl, _⟩ := hps.gr.at_ h0
      rw [e] at e'
      simp at e'
      omega⟩
  have HKs := Lib.hid (rfl : (kindsOf gs).drop at_ = (kindsOf gs).drop at_)
  generalize (kindsOf gs).drop at_ = ks0 at *
  clear ih hps HKs
  go_enter Try.func26, Try.ntmps26
  go_wp2_with fail
  go_loopw [5] (fun ov wr => ∃ (V : Value) (j k m : Nat), V = ov ∧ Hid (US w P A N c gs deep n at_ ks0 kind V wr j k m)) (fun _ wr => N - placeOf P wr)
  case atStart => exact ⟨_, at_, 0, n, rfl, S0⟩
  case round =>
    clear S0
    obtain ⟨V, j, k, m, rfl, HS⟩ := hrel
    obtain ⟨c0, c1, c2, _, _⟩ := HS.out.ps.cells
    have hjN := HS.out.jN
    by_cases hlt : j < N
    · go_wp2_with fail
      go_quiet (fail)
      obtain ⟨b, o, rfl, hbl, hcc⟩ := HS.out.ps.gr.at_ (by omega)
      have hG0 := hcc j hlt
      have HGl := Lib.hid HS.out.ps.gr.len
      obtain ⟨⟨k0, k1, k2, k3⟩, hg⟩ : ∃ g, gth gs j = g := ⟨_, rfl⟩
      rw [hg] at hG0
      have HG := hide (show GAt (wr.drewN nq) b (o + j * 4) (k0, k1, k2, k3) from hG0)
      have HD := Lib.hid (show (kindsOf gs).drop j = k0 :: (kindsOf gs).drop (j + 1) by have := kindsOf_drop (gs := gs) (j := j) (by rw [HGl.out]; exact hlt); rw [hg] at this; exact this)
      have HSd := hide (HS.out.below (below_drewN (Below.refl _ wr) nq))
      have hbd : b < (wr.drewN nq).heap.size := hbl
      have hPl2 : P < (wr.drewN nq).heap.size := HSd.out.ps.lt
      obtain ⟨m', hm'⟩ : ∃ m', m = m' + 1 := ⟨m - 1, by have := HS.out.fu; omega⟩
      subst hm'
      have HPlc := Lib.hid HS.out.ps.place
      clear hcc hG0 hg c0 c1 c2 HS hbl
      generalize wr.drewN nq = wd at *
      go_upto_region 3 with fail
      refine wp_frame fun a0 ha0 => ?_
      have HA := Lib.hid ha0
      clear ha0
      refine wp_region_inv (fun L a wx => ∃ x18 x19 x20 x21 x22 x23 x24 x25 x26 x27 x6, a = putL a0 [(18, x18), (19, x19), (20, x20), (21, x21), (22, x22), (23, x23), (24, x24), (25, x25), (26, x26), (27, x27), (6, x6)] ∧ Hid (JU wd P b o N c j deep gs k0 k1 k2 k3 L x18 x19 x20 x21 x22 x23 x24 x25 x26 x27 x6 wx)) (by kernel_rfl) (by kernel_rfl) ?_ ?_ ?_
      · exact ⟨_, _, _, _, _, _, _, _, _, _, _, putL_self a0 [18, 19, 20, 21, 22, 23, 24, 25, 26, 27, 6], hide (JU.start (HSd.out.ps.below (below_drewN (Below.refl _ wd) 1)) HG.out hbd (below_drewN (Below.refl _ wd) 1))⟩
      · refine ⟨?_, ?_, ?_, ?_, ?_, ?_, ?_, ?_, ?_, ?_, ?_, ?_, trivial⟩
        · intro L a wx hL0 hd
          rintro ⟨x18, x19, x20, x21, x22, x23, x24, x25, x26, x27, x6, rfl, HJ⟩
          have hD := hd
          try simp [deps, Region.binds] at hD
          refine Shut.out ?_
          refine ⟨?_⟩
          clear hD hd
          rw [← HA.out]
          simp only [putL, List.setIfInBounds_toArray, List.set_cons_succ, List.set_cons_zero]
          go_wp2_with fail
          refine ⟨_, _, _, _, _, _, _, _, _, _, _, ?_, hide (HJ.out.p0 hL0 rfl)⟩
          · try rw [← HA.out]
            try simp only [putL, List.setIfInBounds_toArray, List.set_cons_succ, List.set_cons_zero]
        · intro L a wx hL0 hd
          rintro ⟨x18, x19, x20, x21, x22, x23, x24, x25, x26, x27, x6, rfl, HJ⟩
          have hD := hd
          try simp [deps, Region.binds] at hD
          refine Shut.out ?_
          obtain rfl := HJ.out.h0 (by simp [hD])
          refine ⟨?_⟩
          clear hD hd
          rw [← HA.out]
          simp only [putL, List.setIfInBounds_toArray, List.set_cons_succ, List.set_cons_zero]
          go_wp2_with fail
          refine ⟨_, _, _, _, _, _, _, _, _, _, _, ?_, hide (HJ.out.p1 hL0 rfl)⟩
          · try rw [← HA.out]
            try simp only [putL, List.setIfInBounds_toArray, List.set_cons_succ, List.set_cons_zero]
        · intro L a wx hL0 hd
          rintro ⟨x18, x19, x20, x21, x22, x23, x24, x25, x26, x27, x6, rfl, HJ⟩
          have hD := hd
          try simp [deps, Region.binds] at hD
          refine Shut.out ?_
          obtain rfl := HJ.out.h1 (by simp [hD])
          refine ⟨?_⟩
          clear hD hd
          rw [← HA.out]
          simp only [putL, List.setIfInBounds_toArray, List.set_cons_succ, List.set_cons_zero]
          go_wp2_with fail
          refine ⟨_, _, _, _, _, _, _, _, _, _, _, ?_, hide (HJ.out.p2 hL0 rfl)⟩
          · try rw [← HA.out]
            try simp only [putL, List.setIfInBounds_toArray, List.set_cons_succ, List.set_cons_zero]
        · intro L a wx hL0 hd
          rintro ⟨x18, x19, x20, x21, x22, x23, x24, x25, x26, x27, x6, rfl, HJ⟩
          have hD := hd
          try simp [deps, Region.binds] at hD
          refine Shut.out ?_
          obtain rfl := HJ.out.h2 (by simp [hD])
          obtain ⟨x1, x2, x3, _, _⟩ := HJ.out.ps.cells
          refine ⟨?_⟩
          clear hD hd
          rw [← HA.out]
          simp only [putL, List.setIfInBounds_toArray, List.set_cons_succ, List.set_cons_zero]
          go_wp2_with fail
          clear x1 x2 x3
          refine ⟨_, _, _, _, _, _, _, _, _, _, _, ?_, hide (HJ.out.p3 hL0 rfl)⟩
          · try rw [← HA.out]
            try simp only [putL, List.setIfInBounds_toArray, List.set_cons_succ, List.set_cons_zero]
        · intro L a wx hL0 hd
          rintro ⟨x18, x19, x20, x21, x22, x23, x24, x25, x26, x27, x6, rfl, HJ⟩
          have hD := hd
          try simp [deps, Region.binds] at hD
          refine Shut.out ?_
          refine ⟨?_⟩
          clear hD hd
          rw [← HA.out]
          simp only [putL, List.setIfInBounds_toArray, List.set_cons_succ, List.set_cons_zero]
          go_wp2_with fail
          refine ⟨_, _, _, _, _, _, _, _, _, _, _, ?_, hide (HJ.out.p4 hL0 rfl)⟩
          · try rw [← HA.out]
            try simp only [putL, List.setIfInBounds_toArray, List.set_cons_succ, List.set_cons_zero]
        · intro L a wx hL0 hd
          rintro ⟨x18, x19, x20, x21, x22, x23, x24, x25, x26, x27, x6, rfl, HJ⟩
          have hD := hd
          try simp [deps, Region.binds] at hD
          refine Shut.out ?_
          obtain rfl := HJ.out.h4 (by simp [hD])
          refine ⟨?_⟩
          clear hD hd
          rw [← HA.out]
          simp only [putL, List.setIfInBounds_toArray, List.set_cons_succ, List.set_cons_zero]
          go_wp2_with fail
          refine ⟨_, _, _, _, _, _, _, _, _, _, _, ?_, hide (HJ.out.p5 hL0 rfl)⟩
          · try rw [← HA.out]
            try simp only [putL, List.setIfInBounds_toArray, List.set_cons_succ, List.set_cons_zero]
        · intro L a wx hL0 hd
          rintro ⟨x18, x19, x20, x21, x22, x23, x24, x25, x26, x27, x6, rfl, HJ⟩
          have hD := hd
          try simp [deps, Region.binds] at hD
          refine Shut.out ?_
          obtain rfl := HJ.out.h5 (by simp [hD])
          refine ⟨?_⟩
          clear hD hd
          rw [← HA.out]
          simp only [putL, List.setIfInBounds_toArray, List.set_cons_succ, List.set_cons_zero]
          go_wp2_with fail
          refine ⟨_, _, _, _, _, _, _, _, _, _, _, ?_, hide (HJ.out.p6 hL0 rfl)⟩
          · try rw [← HA.out]
            try simp only [putL, List.setIfInBounds_toArray, List.set_cons_succ, List.set_cons_zero]
        · intro L a wx hL0 hd
          rintro ⟨x18, x19, x20, x21, x22, x23, x24, x25, x26, x27, x6, rfl, HJ⟩
          have hD := hd
          try simp [deps, Region.binds] at hD
          refine Shut.out ?_
          obtain rfl := HJ.out.h6 (by simp [hD])
          obtain ⟨x1, x2, x3, _, _⟩ := HJ.out.ps.cells
          refine ⟨?_⟩
          clear hD hd
          rw [← HA.out]
          simp only [putL, List.setIfInBounds_toArray, List.set_cons_succ, List.set_cons_zero]
          go_wp2_with fail
          clear x1 x2 x3
          refine ⟨_, _, _, _, _, _, _, _, _, _, _, ?_, hide (HJ.out.p7 hL0 rfl)⟩
          · try rw [← HA.out]
            try simp only [putL, List.setIfInBounds_toArray, List.set_cons_succ, List.set_cons_zero]
        · intro L a wx hL0 hd
          rintro ⟨x18, x19, x20, x21, x22, x23, x24, x25, x26, x27, x6, rfl, HJ⟩
          have hD := hd
          try simp [deps, Region.binds] at hD
          refine Shut.out ?_
          obtain rfl := HJ.out.h3 (by simp [hD])
          obtain rfl := HJ.out.h7 (by simp [hD])
          refine ⟨?_⟩
          clear hD hd
          rw [← HA.out]
          simp only [putL, List.setIfInBounds_toArray, List.set_cons_succ, List.set_cons_zero]
          go_wp2_with fail
          refine ⟨_, _, _, _, _, _, _, _, _, _, _, ?_, hide (HJ.out.p8 hL0 rfl)⟩
          · try rw [← HA.out]
            try simp only [putL, List.setIfInBounds_toArray, List.set_cons_succ, List.set_cons_zero]
        · intro L a wx hL0 hd
          rintro ⟨x18, x19, x20, x21, x22, x23, x24, x25, x26, x27, x6, rfl, HJ⟩
          have hD := hd
          try simp [deps, Region.binds] at hD
          refine Shut.out ?_
          obtain rfl := HJ.out.h8 (by simp [hD])
          obtain ⟨y0, y1, y2, y3⟩ := HJ.out.ln
          simp only at y0 y1 y2 y3
          refine ⟨?_⟩
          clear hD hd
          rw [← HA.out]
          simp only [putL, List.setIfInBounds_toArray, List.set_cons_succ, List.set_cons_zero]
          go_wp2_with fail
          clear y0 y1 y2 y3
          refine ⟨_, _, _, _, _, _, _, _, _, _, _, ?_, hide (HJ.out.p9 hL0 rfl)⟩
          · try rw [← HA.out]
            try simp only [putL, List.setIfInBounds_toArray, List.set_cons_succ, List.set_cons_zero]
        · intro L a wx hL0 hd
          rintro ⟨x18, x19, x20, x21, x22, x23, x24, x25, x26, x27, x6, rfl, HJ⟩
          have hD := hd
          try simp [deps, Region.binds] at hD
          refine Shut.out ?_
          refine ⟨?_⟩
          clear hD hd
          rw [← HA.out]
          simp only [putL, List.setIfInBounds_toArray, List.set_cons_succ, List.set_cons_zero]
          go_wp2_with fail
          refine ⟨_, _, _, _, _, _, _, _, _, _, _, ?_, hide (HJ.out.new hL0 (HJ.out.c11 hL0))⟩
          · try rw [← HA.out]
            try simp only [putL, List.setIfInBounds_toArray, List.set_cons_succ, List.set_cons_zero]
        · intro L a wx hL0 hd
          rintro ⟨x18, x19, x20, x21, x22, x23, x24, x25, x26, x27, x6, rfl, HJ⟩
          have hD := hd
          try simp [deps, Region.binds] at hD
          refine Shut.out ?_
          obtain rfl := HJ.out.h9 (by simp [hD])
          have hL10 : L 10 = true := (by simp [hD])
          obtain ⟨g, rfl, hg, hbx, _⟩ := HJ.out.h10 hL10
          have hb := hbx hL0
          have HJ2 := hide (HJ.out.put hL0 rfl hg hPl2 hL10 hb)
          have r0 : wx.cell? ⟨g, 0, none⟩ = some (.int .i64 0) := by rw [cell_of_row wx _ 0 _ _ (0, 0) hb]; rfl
          have r1 : wx.cell? ⟨g, 1, none⟩ = some (.int .i64 0) := by rw [cell_of_row wx _ 1 _ _ (0, 0) hb]; rfl
          have r2 : wx.cell? ⟨g, 2, none⟩ = some (.int .i64 0) := by rw [cell_of_row wx _ 2 _ _ (0, 0) hb]; rfl
          have r3 : wx.cell? ⟨g, 3, none⟩ = some (.int .i64 0) := by rw [cell_of_row wx _ 3 _ _ (0, 0) hb]; rfl
          have q0 := frozen_of_row wx _ 0 _ _ hb
          have q1 := frozen_of_row wx _ 1 _ _ hb
          have q2 := frozen_of_row wx _ 2 _ _ hb
          have q3 := frozen_of_row wx _ 3 _ _ hb
          clear hbx hb hL10
          refine ⟨?_⟩
          clear hD hd
          rw [← HA.out]
          simp only [putL, List.setIfInBounds_toArray, List.set_cons_succ, List.set_cons_zero]
          go_wp2_with fail
          refine ⟨_, _, _, _, _, _, _, _, _, _, _, ?_, hide (HJ2.out)⟩
          · try rw [← HA.out]
            try simp only [putL, List.setIfInBounds_toArray, List.set_cons_succ, List.set_cons_zero]
      · intro L a wx hall
        rintro ⟨x18, x19, x20, x21, x22, x23, x24, x25, x26, x27, x6, rfl, HJ⟩
        rw [← HA.out]
        simp only [putL, List.setIfInBounds_toArray, List.set_cons_succ, List.set_cons_zero]
        obtain ⟨g6, rfl, hg6, _, hbx⟩ := HJ.out.h10 (hall 10 (by decide))
        have HX := hide (hbx (hall 11 (by decide)))
        have HS3 := hide (HSd.out.below HJ.out.gr)
        have hne : g6 ≠ P := by omega
        have hne2 : P ≠ g6 := by omega
        have r0 : wx.cell? ⟨g6, 0, none⟩ = some (.int .i64 k0) := by rw [cell_of_row wx _ 0 _ _ (0, 0) HX.out]; rfl
        have r1 : wx.cell? ⟨g6, 1, none⟩ = some (.int .i64 k1) := by rw [cell_of_row wx _ 1 _ _ (0, 0) HX.out]; rfl
        have r2 : wx.cell? ⟨g6, 2, none⟩ = some (.int .i64 k2) := by rw [cell_of_row wx _ 2 _ _ (0, 0) HX.out]; rfl
        have r3 : wx.cell? ⟨g6, 3, none⟩ = some (.int .i64 k3) := by rw [cell_of_row wx _ 3 _ _ (0, 0) HX.out]; rfl
        obtain ⟨c0, c1, c2, f1, f2⟩ := HS3.out.ps.cells
        have HE := Lib.hid (HS3.out.eq.trans (by rw [HD.out, pu_cons]))
        have HPS := hide (show PS P (some ⟨b, o, none⟩) N c gs (j + 1) deep (wx.setCell ⟨P, 1, none⟩ (.int .i64 ((j : Int) + 1))) from HS3.out.ps.setAt (j + 1))
        have HGr := hide (show w.grownBy (wx.setCell ⟨P, 1, none⟩ (.int .i64 ((j : Int) + 1))) (some P) from grown_seq HS3.out.gr (set1_grown wx P 1 _))
        have HOw := hide (HS3.out.ownAt (.int .i64 ((j : Int) + 1)))
        have haj := HS3.out.aj
        clear HJ hall hbx HX HSd HG hbd
        by_cases hkk : k0 = kind
        · subst hkk
          have e0 : (k0 == k0) = true := by simp
          have HE2 := Lib.hid (HE.out.trans (by rw [if_pos rfl]))
          obtain ⟨A', c', rfl⟩ := HOw.out.slice
          go_wp2_with fail
          go_ret
          show UPost P (some ⟨b, o, none⟩) N c gs at_ deep (pu n ks0 k0 deep) w _ _
          rw [HE2.out]
          exact ⟨⟨A', k, c', rfl⟩, ⟨j + 1, by omega, by omega, rfl, HPS.out⟩, HGr.out⟩
        · have e0 : (k0 == kind) = false := by simpa using hkk
          have HE2 := Lib.hid (HE.out.trans (by rw [if_neg hkk]))
          by_cases h578 : k0 = 5 ∨ k0 = 7 ∨ k0 = 8
          · have HE3 := Lib.hid (HE2.out.trans (by rw [if_pos h578]))
            clear hkk
            rcases h578 with rfl | rfl | rfl
            all_goals
              go_wp2_with fail
              refine ⟨rfl, ?_⟩
              show UPost P (some ⟨b, o, none⟩) N c gs at_ deep (pu n ks0 kind deep) w _ _
              rw [HE3.out]
              exact ⟨rfl, ⟨j + 1, deep, by omega, by omega, by omega, HPS.out⟩, HGr.out⟩
          · have HE3 := Lib.hid (HE2.out.trans (by rw [if_neg h578]))
            by_cases h46 : k0 = 4 ∨ k0 = 6
            · have HE4 := Lib.hid (HE3.out.trans (by rw [if_pos h46]))
              have hmn := HS3.out.mn
              have hfu2 := HS3.out.fu
              have hkm := HS3.out.km
              have HPC := hide (IH.out m' (by omega) P (some ⟨b, o, none⟩) N c gs (j + 1) deep (k0, k1, k2, k3) _ HPS.out hN (by omega) (by omega) (by omega) (by omega) hdeep h46)
              clear hkk h578
              rcases h46 with rfl | rfl
              · go_wp2_with fail
                refine HPC.out.mono ?_
                rintro e w4 hp
                cases hr : pp m' ((kindsOf gs).drop (j + 1)) 4 deep with
                | none =>
                  rw [hr] at hp HE4
                  obtain ⟨rfl, ⟨pa, pd, p1, p2, p3, p4⟩, hg4⟩ := hp
                  refine ⟨rfl, ?_⟩
                  show UPost P (some ⟨b, o, none⟩) N c gs at_ deep (pu n ks0 kind deep) w _ _
                  rw [HE4.out]
                  exact ⟨rfl, ⟨pa, pd, p1, p2, p3, p4⟩, grown_seq HGr.out hg4⟩
                | some l =>
                  rw [hr] at hp HE4
                  obtain ⟨⟨x0, y1, y2, y3, y4, y5, y6, y7, y8, y9, rfl, hone⟩, ⟨k', q1, q2, rfl, hps4⟩, hg4⟩ := hp
                  have HOne := hide hone
                  have HPS4 := hide hps4
                  have HOw4 := hide (HOw.out.kept hg4 (by
                    cases hv : V.ownBlock with
                    | none => exact .inl rfl
                    | some bb => right; intro e; have := (HOw.out.lt bb hv).1; simp at e; omega))
                  have HGr4 := hide (grown_seq HGr.out hg4)
                  have HE5 := Lib.hid (show pu n ks0 kind deep = pu m' ((kindsOf gs).drop k') kind deep from HE4.out)
                  have HAl := hide HS3.out.Al
                  have hkm9 : k ≤ 1000 := by omega
                  have hsz4 : w.heap.size ≤ w4.heap.size := HGr4.out.size
                  clear hone hps4 hg4 hr r0 r1 r2 r3 c0 c1 c2 f1 f2
                  go_wp2_with (at_builtin; refine wpList_appendK1 HOw4.out (.tmp 55) (.tmp 59) rfl rfl rfl rfl HOne.out hkm9 hsz4 ?_; intro v6 w6 ho6 hg6; have HX6 := hide (And.intro ho6 hg6); clear ho6 hg6)
                  have HU := hide (US.next (at_ := at_) (n := n) (deep := deep) (c := c) hPl HAl.out (by omega) HPS4.out HOw4.out HGr4.out HX6.out.1 HX6.out.2 (by omega) (by omega) q1 (by omega) HE5.out)
                  go_roundw
                  case rel => exact ⟨v6, k', k + 1, m', rfl, HU⟩
                  case measure => rw [HU.out.ps.place, HPlc.out]; omega
              · go_wp2_with fail
                refine HPC.out.mono ?_
                rintro e w4 hp
                cases hr : pp m' ((kindsOf gs).drop (j + 1)) 6 deep with
                | none =>
                  rw [hr] at hp HE4
                  obtain ⟨rfl, ⟨pa, pd, p1, p2, p3, p4⟩, hg4⟩ := hp
                  refine ⟨rfl, ?_⟩
                  show UPost P (some ⟨b, o, none⟩) N c gs at_ deep (pu n ks0 kind deep) w _ _
                  rw [HE4.out]
                  exact ⟨rfl, ⟨pa, pd, p1, p2, p3, p4⟩, grown_seq HGr.out hg4⟩
                | some l =>
                  rw [hr] at hp HE4
                  obtain ⟨⟨x0, y1, y2, y3, y4, y5, y6, y7, y8, y9, rfl, hone⟩, ⟨k', q1, q2, rfl, hps4⟩, hg4⟩ := hp
                  have HOne := hide hone
                  have HPS4 := hide hps4
                  have HOw4 := hide (HOw.out.kept hg4 (by
                    cases hv : V.ownBlock with
                    | none => exact .inl rfl
                    | some bb => right; intro e; have := (HOw.out.lt bb hv).1; simp at e; omega))
                  have HGr4 := hide (grown_seq HGr.out hg4)
                  have HE5 := Lib.hid (show pu n ks0 kind deep = pu m' ((kindsOf gs).drop k') kind deep from HE4.out)
                  have HAl := hide HS3.out.Al
                  have hkm9 : k ≤ 1000 := by omega
                  have hsz4 : w.heap.size ≤ w4.heap.size := HGr4.out.size
                  clear hone hps4 hg4 hr r0 r1 r2 r3 c0 c1 c2 f1 f2
                  go_wp2_with (at_builtin; refine wpList_appendK1 HOw4.out (.tmp 55) (.tmp 59) rfl rfl rfl rfl HOne.out hkm9 hsz4 ?_; intro v6 w6 ho6 hg6; have HX6 := hide (And.intro ho6 hg6); clear ho6 hg6)
                  have HU := hide (US.next (at_ := at_) (n := n) (deep := deep) (c := c) hPl HAl.out (by omega) HPS4.out HOw4.out HGr4.out HX6.out.1 HX6.out.2 (by omega) (by omega) q1 (by omega) HE5.out)
                  go_roundw
                  case rel => exact ⟨v6, k', k + 1, m', rfl, HU⟩
                  case measure => rw [HU.out.ps.place, HPlc.out]; omega
            · have HE4 := Lib.hid (HE3.out.trans (by rw [if_neg h46]))
              have e4 : (k0 == 4) = false := by simp; omega
              have e6 : (k0 == 6) = false := by simp; omega
              have e5 : (k0 == 5) = false := by simp; omega
              have e7 : (k0 == 7) = false := by simp; omega
              have e8 : (k0 == 8) = false := by simp; omega
              have hmn := HS3.out.mn
              have hfu2 := HS3.out.fu
              have hkm := HS3.out.km
              have HAl := hide HS3.out.Al
              have hkm9 : k ≤ 1000 := by omega
              have hsz4 : w.heap.size ≤ (wx.setCell ⟨P, 1, none⟩ (.int .i64 ((j : Int) + 1))).heap.size := HGr.out.size
              have hone : ∀ u ∈ [Value.int .i64 k0, .int .i64 k1, .int .i64 k2, .int .i64 k3, .slice none 0 0, .slice none 0 0, .int .i64 0, .int .i64 0, .int .i64 0, .int .i64 0], u.oneCell' = true := by
                intro u hu
                simp only [List.mem_cons, List.not_mem_nil, or_false] at hu
                rcases hu with rfl | rfl | rfl | rfl | rfl | rfl | rfl | rfl | rfl | rfl <;> rfl
              have HOne := hide hone
              have HSZ := Lib.hid (show (wx.setCell ⟨P, 1, none⟩ (.int .i64 ((j : Int) + 1))).heap.size = wx.heap.size by simp [World.setCell])
              clear hkk h578 h46 hone
              go_wp2_with (at_builtin; refine wpList_appendK1 (x0 := .int .i64 k0) (x1 := .int .i64 k1) (x2 := .int .i64 k2) (x3 := .int .i64 k3) (x4 := .slice none 0 0) (x5 := .slice none 0 0) (x6 := .int .i64 0) (x7 := .int .i64 0) (x8 := .int .i64 0) (x9 := .int .i64 0) HOw.out (.tmp 37) (.tmp 40) rfl rfl rfl (by rw [HSZ.out]; rfl) HOne.out hkm9 hsz4 ?_; intro v6 w6 ho6 hg6; have HX6 := hide (And.intro ho6 hg6); clear ho6 hg6)
              have HU := hide (US.next (at_ := at_) (n := n) (deep := deep) (c := c) hPl HAl.out (by omega) HPS.out HOw.out HGr.out HX6.out.1 HX6.out.2 (by omega) (by omega) (by omega) (by omega) HE4.out)
              go_roundw
              case rel => exact ⟨v6, j + 1, k + 1, m', rfl, HU⟩
              case measure => rw [HU.out.ps.place, HPlc.out]; omega
    · obtain rfl : j = N := by omega
      have HE := Lib.hid (HS.out.eq.trans (by rw [List.drop_of_length_le (by unfold kindsOf; rw [List.length_map, HS.out.ps.gr.len]; exact Nat.le_refl _), pu_nil]))
      go_wp2_with fail
      go_quiet (fail)
      go_wp2_with fail
      refine ⟨rfl, ?_⟩
      show UPost P A j c gs at_ deep (pu n ks0 kind deep) w _ _
      rw [HE.out]
      exact ⟨rfl, ⟨j, deep, by omega, by omega, by omega, (HS.out.below (below_drewN (Below.refl _ wr) nq)).ps⟩, (HS.out.below (below_drewN (Below.refl _ wr) nq)).gr⟩
end Go.Proofs.Ytacdagdhkmcbiaa
