/-
  The draw of a field.
  No condition.
-/
import Derived.Test.YtmakpjcjccgalaaFieldBox
import Derived.Test.YtmakpjcjccgalaaRGb
namespace Go.Proofs.Ytmakpjcjccgalaa
open Go.RowKit Go.Sort base
/-- the draw under way: the reader, the field's box, its cells, the box of the result -/
structure FD (w : World) (R P g5 : Nat) (s : Int) (sh : Bool) (go n c : Nat) (wx : World) : Prop where
  r : RG w R P wx
  box : BoxF wx 25 g5 (.int .i64 s) (.slice (some ⟨go, 0, none⟩) n c) (.bool sh)
  own : ∃ bs, bs.length = n ∧ OwnB wx (w.heap.size + 1) (.slice (some ⟨go, 0, none⟩) n c) bs
  lo : w.heap.size < g5
  rb : BoxF wx 25 w.heap.size (.int .i64 0) (.slice none 0 0) (.bool false)
theorem FD.pick {w wx wy : World} {R P Q g5 go n c : Nat} {s : Int} {sh : Bool} (h : FD w R P g5 s sh go n c wx) (hr : RdB wy R Q) (hg : wx.grownBy wy (some R)) : FD w R Q g5 s sh go n c wy := by
  obtain ⟨bs, hl, ho⟩ := h.own
  have h1 := h.r.lo
  have h2 := h.lo
  exact ⟨h.r.pick hr hg, h.box.grown hg (by simp; omega), ⟨bs, hl, ho.kept hg (.inr (by have := (ho.lt go rfl).1; simp [Value.ownBlock]; omega))⟩, h.lo, h.rb.grown hg (by simp; omega)⟩
theorem FD.drew {w wx : World} {R P g5 go n c : Nat} {s : Int} {sh : Bool} (h : FD w R P g5 s sh go n c wx) : FD w R P g5 s sh go n c wx.drew := by
  obtain ⟨bs, hl, ho⟩ := h.own
  exact ⟨h.r.drew, h.box, ⟨bs, hl, ho⟩, h.lo, h.rb⟩
theorem FD.mono {w wx : World} {R P Q g5 go n c : Nat} {s : Int} {sh : Bool} (h : FD w R P g5 s sh go n c wx) (hq : P ≤ Q) : FD w R Q g5 s sh go n c wx := ⟨h.r.mono hq, h.box, h.own, h.lo, h.rb⟩
theorem FD.set {w wx : World} {R P g5 go n c : Nat} {s : Int} {sh : Bool} (h : FD w R P g5 s sh go n c wx) (k : Nat) : FD w R P g5 s sh go n c (wx.setCell ⟨go, k, none⟩ (.bool true)) := by
  obtain ⟨bs, hl, ho⟩ := h.own
  have hg := set1B_grown wx go k (.bool true)
  have h1 := ho.ne_boxv h.box rfl
  have h2 := ho.ne_boxv h.rb rfl
  have h3 := (ho.lt go rfl).1
  exact ⟨h.r.step hg (by simp; omega), h.box.grown hg h1, ⟨bs.set k true, by rw [List.length_set]; exact hl, (ho.stored hl k true).1⟩, h.lo, h.rb.grown hg h2⟩
theorem FD.begin {w w2 w3 : World} {R P n : Nat} {s : Int} {sh : Bool} {bs : List Bool} (hG : RG w R P w2) (hX : BoxF w2 25 w.heap.size (.int .i64 0) (.slice none 0 0) (.bool false)) (hl : bs.length = n)
    (hown : OwnB w3 (w.heap.size + 1) (.slice (some ⟨(w2.alloc (.cells #[.int .i64 s, .slice none 0 0, .bool sh] 25)).heap.size, 0, none⟩) n n) bs) (hg : (w2.alloc (.cells #[.int .i64 s, .slice none 0 0, .bool sh] 25)).grownBy w3 none) :
    BoxF w3 25 w2.heap.size (.int .i64 s) (.slice none 0 0) (.bool sh) ∧ FD w R P w2.heap.size s sh (w2.heap.size + 1) n n (w3.setCell ⟨w2.heap.size, 1, none⟩ (.slice (some ⟨w2.heap.size + 1, 0, none⟩) n n)) := by
  have hz : (w2.alloc (.cells #[.int .i64 s, .slice none 0 0, .bool sh] 25)).heap.size = w2.heap.size + 1 := by simp
  rw [hz] at hown
  have hlt := hX.lt
  have hb3 : BoxF w3 25 w2.heap.size (.int .i64 s) (.slice none 0 0) (.bool sh) := BoxF.grown (heap_alloc_new w2 _) hg (by simp)
  have hg2 := grown_seq (World.grownBy_alloc w2 (.cells #[.int .i64 s, .slice none 0 0, .bool sh] 25) none) hg
  have hs := set1B_grown w3 w2.heap.size 1 (.slice (some ⟨w2.heap.size + 1, 0, none⟩) n n)
  have hR3 : RG w R P w3 := hG.step hg2 (fun x hx => by cases hx)
  refine ⟨hb3, hR3.step hs (by simp; omega), ?_, ⟨bs, hl, hown.kept hs (.inr (by simp [Value.ownBlock]))⟩, hlt, (hX.grown hg2 (by simp)).grown hs (by simp; omega)⟩
  exact heap_setCell_same w3 w2.heap.size 1 _ _ _ hb3
/-- a field that has been drawn -/
def DrawnField (w : World) (R P : Nat) (e : Ending) (w' : World) : Prop :=
  ∃ (s : Int) (A : Option Addr) (n c : Nat) (sh : Bool) (bs : List Bool), e = .returned (.agg #[.int .i64 s, .slice A n c, .bool sh]) ∧ (0 ≤ s ∧ s ≤ 100) ∧ n ≤ 100 ∧ (BR w' A n bs ∧ ∀ b o, A = some ⟨b, o, none⟩ → w.heap.size < b) ∧ RG w R P w'
theorem DrawnField.of {w wx : World} {R P n c : Nat} {A : Option Addr} {s : Int} {sh : Bool} {bs : List Bool} (hG : RG w R P wx) (ho : OwnB wx (w.heap.size + 1) (.slice A n c) bs) (hs : 0 ≤ s ∧ s ≤ 100) (hn : n ≤ 100) :
    DrawnField w R P (.returned (.agg #[.int .i64 s, .slice A n c, .bool sh])) (((wx.setCell ⟨w.heap.size, 0, none⟩ (.int .i64 s)).setCell ⟨w.heap.size, 1, none⟩ (.slice A n c)).setCell ⟨w.heap.size, 2, none⟩ (.bool sh)) := by
  have hg := box3_grown wx w.heap.size (.int .i64 s) (.slice A n c) (.bool sh)
  refine ⟨s, A, n, c, sh, bs, rfl, hs, hn, ⟨(ho.kept hg ?_).br, fun b o e => by subst e; exact (ho.lt b (by rcases ho.form with ⟨e, _⟩ | ⟨g, c', e, _⟩ <;> simp at e; obtain ⟨⟨rfl, rfl⟩, _⟩ := e; rfl)).1⟩, hG.step hg (by simp)⟩
  cases hv : (Value.slice A n c).ownBlock with
  | none => exact .inl rfl
  | some k => right; intro e; have := (ho.lt k hv).1; simp at e; omega
theorem FD.app {w wx w3 : World} {R P g5 go n c go' c' : Nat} {s : Int} {sh : Bool} (h : FD w R P g5 s sh go n c wx) {bs : List Bool} (hl : bs.length = n + 1) (ho : OwnB w3 (w.heap.size + 1) (.slice (some ⟨go', 0, none⟩) (n + 1) c') bs) (hg : (wx.alloc (.cells #[.bool false] 4)).grownBy w3 (some go)) :
    (BoxF w3 25 g5 (.int .i64 s) (.slice (some ⟨go, 0, none⟩) n c) (.bool sh)) ∧ FD w R P g5 s sh go' (n + 1) c' (w3.setCell ⟨g5, 1, none⟩ (.slice (some ⟨go', 0, none⟩) (n + 1) c')) ∧ BoxF w3 25 w.heap.size (.int .i64 0) (.slice none 0 0) (.bool false) := by
  obtain ⟨bs0, hl0, ho0⟩ := h.own
  have hg2 := grown_seq (World.grownBy_alloc wx (.cells #[.bool false] 4) (some go)) hg
  have h1 := ho0.ne_boxv h.box rfl
  have h2 := ho0.ne_boxv h.rb rfl
  have h3 := (ho0.lt go rfl).1
  have hb3 := h.box.grown hg2 h1
  have hs := set1B_grown w3 g5 1 (.slice (some ⟨go', 0, none⟩) (n + 1) c')
  have h4 := h.lo
  have h5 := ho.ne_boxv hb3 rfl
  exact ⟨hb3, ⟨(h.r.step hg2 (by simp; omega)).step hs (by simp; omega), heap_setCell_same w3 g5 1 _ _ _ hb3, ⟨bs, hl, ho.kept hs (.inr (fun e => h5 e.symm))⟩, h.lo, (h.rb.grown hg2 h2).grown hs (by simp; omega)⟩, h.rb.grown hg2 h2⟩
theorem lit1B (w : World) (b : Bool) : BR (w.alloc (.cells #[.bool b] 4)) (some ⟨w.heap.size, 0, none⟩) 1 [b] := by
  refine ⟨rfl, by omega, fun _ => ⟨_, 0, rfl, by simp, fun i hi => ?_⟩⟩
  obtain rfl : i = 0 := by omega
  exact cell_at rfl rfl
theorem FD.reset {w wx w3 : World} {R P g5 go n c m : Nat} {s s' : Int} {sh sh' : Bool} (h : FD w R P g5 s sh go n c wx) {bs : List Bool} (hl : bs.length = m) (ho : OwnB w3 (w.heap.size + 1) (.slice (some ⟨wx.heap.size, 0, none⟩) m m) bs) (hg : wx.grownBy w3 none) :
    (BoxF w3 25 g5 (.int .i64 s) (.slice (some ⟨go, 0, none⟩) n c) (.bool sh)) ∧ FD w R P g5 s' sh' wx.heap.size m m (((w3.setCell ⟨g5, 0, none⟩ (.int .i64 s')).setCell ⟨g5, 1, none⟩ (.slice (some ⟨wx.heap.size, 0, none⟩) m m)).setCell ⟨g5, 2, none⟩ (.bool sh')) := by
  have hb3 := h.box.grown hg (by simp)
  have hs := box3_grown w3 g5 (.int .i64 s') (.slice (some ⟨wx.heap.size, 0, none⟩) m m) (.bool sh')
  have h4 := h.lo
  have h5 := ho.ne_boxv hb3 rfl
  refine ⟨hb3, (h.r.step hg (fun x hx => by cases hx)).step hs (by simp; omega), box3_set hb3 _ _ _, ⟨bs, hl, ho.kept hs (.inr (fun e => h5 e.symm))⟩, h.lo, (h.rb.grown hg (by simp)).grown hs (by simp; omega)⟩
structure JD (w : World) (R P g5 : Nat) (s : Int) (sh : Bool) (go n c : Nat) (L : Nat → Bool) (x29 x30 x31 x32 x33 x34 x35 x36 : Value) (wx : World) : Prop where
  h0 : L 0 = true → x29 = .pointer (some ⟨g5, 1, none⟩)
  h1 : L 1 = true → x30 = .slice (some ⟨go, 0, none⟩) n c
  h2 : L 2 = true → x31 = .pointer (some ⟨R, 0, none⟩)
  h3 : L 3 = true → x32 = .pointer (some ⟨g5, 1, none⟩)
  h4 : L 4 = true → x33 = .slice (some ⟨go, 0, none⟩) n c
  h5 : L 5 = true → x34 = .int .i64 (n : Int)
  h6 : L 6 = true → ∃ r : Nat, x35 = .int .i64 r ∧ r < n
  h7 : L 7 = true → ∃ r : Nat, x36 = .pointer (some ⟨go, r, none⟩) ∧ r < n
  s0 : L 6 = false → FD w R P g5 s sh go n c wx
  s1 : FD w R (P + 1) g5 s sh go n c wx
theorem JD.start {w : World} {R P g5 : Nat} {s : Int} {sh : Bool} {go n c : Nat} {wx : World} {x29 x30 x31 x32 x33 x34 x35 x36 : Value} (hs : FD w R P g5 s sh go n c wx) : JD w R P g5 s sh go n c (fun _ => false) x29 x30 x31 x32 x33 x34 x35 x36 wx :=
  ⟨(fun h => by cases h), (fun h => by cases h), (fun h => by cases h), (fun h => by cases h), (fun h => by cases h), (fun h => by cases h), (fun h => by cases h), (fun h => by cases h), fun _ => hs, hs.mono (by omega)⟩
theorem JD.p0 {w : World} {R P g5 : Nat} {s : Int} {sh : Bool} {go n c : Nat} {wx : World} {L : Nat → Bool} {x29 x30 x31 x32 x33 x34 x35 x36 : Value} (h : JD w R P g5 s sh go n c L x29 x30 x31 x32 x33 x34 x35 x36 wx) (hL : L 0 = false) {v : Value} (hv : v = .pointer (some ⟨g5, 1, none⟩))  : JD w R P g5 s sh go n c (upd L 0) (v) x30 x31 x32 x33 x34 x35 x36 wx :=
  ⟨fun _ => hv, fun e => h.h1 (upd_ne e rfl), fun e => h.h2 (upd_ne e rfl), fun e => h.h3 (upd_ne e rfl), fun e => h.h4 (upd_ne e rfl), fun e => h.h5 (upd_ne e rfl), fun e => h.h6 (upd_ne e rfl), fun e => h.h7 (upd_ne e rfl), fun e => h.s0 (upd_f e), h.s1⟩
theorem JD.p1 {w : World} {R P g5 : Nat} {s : Int} {sh : Bool} {go n c : Nat} {wx : World} {L : Nat → Bool} {x29 x30 x31 x32 x33 x34 x35 x36 : Value} (h : JD w R P g5 s sh go n c L x29 x30 x31 x32 x33 x34 x35 x36 wx) (hL : L 1 = false) {v : Value} (hv : v = .slice (some ⟨go, 0, none⟩) n c)  : JD w R P g5 s sh go n c (upd L 1) x29 (v) x31 x32 x33 x34 x35 x36 wx :=
  ⟨fun e => h.h0 (upd_ne e rfl), fun _ => hv, fun e => h.h2 (upd_ne e rfl), fun e => h.h3 (upd_ne e rfl), fun e => h.h4 (upd_ne e rfl), fun e => h.h5 (upd_ne e rfl), fun e => h.h6 (upd_ne e rfl), fun e => h.h7 (upd_ne e rfl), fun e => h.s0 (upd_f e), h.s1⟩
theorem JD.p2 {w : World} {R P g5 : Nat} {s : Int} {sh : Bool} {go n c : Nat} {wx : World} {L : Nat → Bool} {x29 x30 x31 x32 x33 x34 x35 x36 : Value} (h : JD w R P g5 s sh go n c L x29 x30 x31 x32 x33 x34 x35 x36 wx) (hL : L 2 = false) {v : Value} (hv : v = .pointer (some ⟨R, 0, none⟩))  : JD w R P g5 s sh go n c (upd L 2) x29 x30 (v) x32 x33 x34 x35 x36 wx :=
  ⟨fun e => h.h0 (upd_ne e rfl), fun e => h.h1 (upd_ne e rfl), fun _ => hv, fun e => h.h3 (upd_ne e rfl), fun e => h.h4 (upd_ne e rfl), fun e => h.h5 (upd_ne e rfl), fun e => h.h6 (upd_ne e rfl), fun e => h.h7 (upd_ne e rfl), fun e => h.s0 (upd_f e), h.s1⟩
theorem JD.p3 {w : World} {R P g5 : Nat} {s : Int} {sh : Bool} {go n c : Nat} {wx : World} {L : Nat → Bool} {x29 x30 x31 x32 x33 x34 x35 x36 : Value} (h : JD w R P g5 s sh go n c L x29 x30 x31 x32 x33 x34 x35 x36 wx) (hL : L 3 = false) {v : Value} (hv : v = .pointer (some ⟨g5, 1, none⟩))  : JD w R P g5 s sh go n c (upd L 3) x29 x30 x31 (v) x33 x34 x35 x36 wx :=
  ⟨fun e => h.h0 (upd_ne e rfl), fun e => h.h1 (upd_ne e rfl), fun e => h.h2 (upd_ne e rfl), fun _ => hv, fun e => h.h4 (upd_ne e rfl), fun e => h.h5 (upd_ne e rfl), fun e => h.h6 (upd_ne e rfl), fun e => h.h7 (upd_ne e rfl), fun e => h.s0 (upd_f e), h.s1⟩
theorem JD.p4 {w : World} {R P g5 : Nat} {s : Int} {sh : Bool} {go n c : Nat} {wx : World} {L : Nat → Bool} {x29 x30 x31 x32 x33 x34 x35 x36 : Value} (h : JD w R P g5 s sh go n c L x29 x30 x31 x32 x33 x34 x35 x36 wx) (hL : L 4 = false) {v : Value} (hv : v = .slice (some ⟨go, 0, none⟩) n c)  : JD w R P g5 s sh go n c (upd L 4) x29 x30 x31 x32 (v) x34 x35 x36 wx :=
  ⟨fun e => h.h0 (upd_ne e rfl), fun e => h.h1 (upd_ne e rfl), fun e => h.h2 (upd_ne e rfl), fun e => h.h3 (upd_ne e rfl), fun _ => hv, fun e => h.h5 (upd_ne e rfl), fun e => h.h6 (upd_ne e rfl), fun e => h.h7 (upd_ne e rfl), fun e => h.s0 (upd_f e), h.s1⟩
theorem JD.p5 {w : World} {R P g5 : Nat} {s : Int} {sh : Bool} {go n c : Nat} {wx : World} {L : Nat → Bool} {x29 x30 x31 x32 x33 x34 x35 x36 : Value} (h : JD w R P g5 s sh go n c L x29 x30 x31 x32 x33 x34 x35 x36 wx) (hL : L 5 = false) {v : Value} (hv : v = .int .i64 (n : Int))  : JD w R P g5 s sh go n c (upd L 5) x29 x30 x31 x32 x33 (v) x35 x36 wx :=
  ⟨fun e => h.h0 (upd_ne e rfl), fun e => h.h1 (upd_ne e rfl), fun e => h.h2 (upd_ne e rfl), fun e => h.h3 (upd_ne e rfl), fun e => h.h4 (upd_ne e rfl), fun _ => hv, fun e => h.h6 (upd_ne e rfl), fun e => h.h7 (upd_ne e rfl), fun e => h.s0 (upd_f e), h.s1⟩
theorem JD.p7 {w : World} {R P g5 : Nat} {s : Int} {sh : Bool} {go n c : Nat} {wx : World} {L : Nat → Bool} {x29 x30 x31 x32 x33 x34 x35 x36 : Value} (h : JD w R P g5 s sh go n c L x29 x30 x31 x32 x33 x34 x35 x36 wx) (hL : L 7 = false) {v : Value} (hv : ∃ r : Nat, v = .pointer (some ⟨go, r, none⟩) ∧ r < n)  : JD w R P g5 s sh go n c (upd L 7) x29 x30 x31 x32 x33 x34 x35 (v) wx :=
  ⟨fun e => h.h0 (upd_ne e rfl), fun e => h.h1 (upd_ne e rfl), fun e => h.h2 (upd_ne e rfl), fun e => h.h3 (upd_ne e rfl), fun e => h.h4 (upd_ne e rfl), fun e => h.h5 (upd_ne e rfl), fun e => h.h6 (upd_ne e rfl), fun _ => hv, fun e => h.s0 (upd_f e), h.s1⟩
theorem JD.pick {w : World} {R P g5 : Nat} {s : Int} {sh : Bool} {go n c : Nat} {wx : World} {L : Nat → Bool} {x29 x30 x31 x32 x33 x34 x35 x36 : Value} (h : JD w R P g5 s sh go n c L x29 x30 x31 x32 x33 x34 x35 x36 wx) (hL : L 6 = false) {r : Nat} (hr0 : r < n) {wy : World} (hr : RdB wy R (P + 1)) (hg : wx.grownBy wy (some R)) : JD w R P g5 s sh go n c (upd L 6) x29 x30 x31 x32 x33 x34 (.int .i64 (r : Int)) x36 wy :=
  ⟨fun e => h.h0 (upd_ne e rfl), fun e => h.h1 (upd_ne e rfl), fun e => h.h2 (upd_ne e rfl), fun e => h.h3 (upd_ne e rfl), fun e => h.h4 (upd_ne e rfl), fun e => h.h5 (upd_ne e rfl), fun _ => ⟨r, rfl, hr0⟩, fun e => h.h7 (upd_ne e rfl), fun e => by simp [upd] at e, (h.s0 hL).pick hr hg⟩
theorem JD.put {w : World} {R P g5 : Nat} {s : Int} {sh : Bool} {go n c : Nat} {wx : World} {L : Nat → Bool} {x29 x30 x31 x32 x33 x34 x35 x36 : Value} (h : JD w R P g5 s sh go n c L x29 x30 x31 x32 x33 x34 x35 x36 wx) (hL : L 8 = false) (k : Nat) : JD w R P g5 s sh go n c (upd L 8) x29 x30 x31 x32 x33 x34 x35 x36 (wx.setCell ⟨go, k, none⟩ (.bool true)) :=
  ⟨fun e => h.h0 (upd_ne e rfl), fun e => h.h1 (upd_ne e rfl), fun e => h.h2 (upd_ne e rfl), fun e => h.h3 (upd_ne e rfl), fun e => h.h4 (upd_ne e rfl), fun e => h.h5 (upd_ne e rfl), fun e => h.h6 (upd_ne e rfl), fun e => h.h7 (upd_ne e rfl), fun e => (h.s0 (upd_f e)).set k, h.s1.set k⟩
theorem resultsDF : Try.f27.results = #[.cell 4 25] := by kernel_rfl
set_option maxRecDepth 100000 in
set_option maxHeartbeats 8000000 in
theorem l20Field_b (R p : Nat) (w : World) (h : RdB w R p) (hp : p ≤ 80000) :
    Calls Try.prog 27 #[.pointer (some ⟨R, 0, none⟩), .int .i64 9] w (DrawnField w R (p + 30)) := by
  have G0 := hide ((RG.start h).alloc (.cells #[.int .i64 0, .slice none 0 0, .bool false] 25))
  have X0 := hide (show BoxF (w.alloc (.cells #[.int .i64 0, .slice none 0 0, .bool false] 25)) 25 w.heap.size (.int .i64 0) (.slice none 0 0) (.bool false) from heap_alloc_new w _)
  clear h
  go_enter Try.func27, Try.ntmps27
  go_wp2_with fail
  refine calls_named fun W hW => ?_
  rw [hW] at G0 X0
  have hs0 : w.heap.size < W.heap.size := by rw [← hW]; simp
  clear hW
  refine (pick_b R p 4 _ G0.out.rd (by omega) (by omega)).mono ?_
  rintro e w1 ⟨r1, rfl, a1, b1, _, hr, hg⟩
  have c1 := b1 (by omega)
  have G1 := hide (G0.out.pick hr hg)
  have X1 := hide (X0.out.grown hg (by have := G0.out.lo; simp; omega))
  have hs1 := hg.size
  clear hr hg b1
  go_wp2_with fail
  refine (pick_b R _ 2 _ G1.out.rd (by omega) (by omega)).mono ?_
  rintro e w2 ⟨r2, rfl, a2, b2, _, hr, hg⟩
  have c2 := b2 (by omega)
  have G2 := hide (G1.out.pick hr hg)
  have X2 := hide (X1.out.grown hg (by have := G0.out.lo; simp; omega))
  have hs2 := hg.size
  clear hr hg b2 G0 G1 X0 X1
  obtain ⟨sb, hsb⟩ : ∃ b, (r2 == 0) = b := ⟨_, rfl⟩
  obtain ⟨s, hs⟩ : ∃ s, 2 + 2 * r1 = s := ⟨_, rfl⟩
  have hsl : 2 ≤ s ∧ s ≤ 8 := by omega
  obtain ⟨hsl1, hsl2⟩ := hsl
  have hq1 : 0 ≤ s * s := Int.mul_nonneg (by omega) (by omega)
  have hq2 : s * s ≤ 64 := by
    have := Int.mul_le_mul hsl2 hsl2 (by omega) (by omega)
    simpa using this
  obtain ⟨n, hn⟩ := Int.eq_ofNat_of_zero_le hq1
  have hn64 : n ≤ 64 := by omega
  have hn4 : 0 < n := by
    have : 0 < s * s := Int.mul_pos (by omega) (by omega)
    omega
  clear hq1 hq2
  go_wp2_with (refine wpList_make_bools (w.heap.size + 1) n rfl _ _ rfl _ _ rfl rfl (by first | rfl | exact hn) (by first | rfl | exact hn) (by omega) (by simp; omega) ?_; intro w3 hown hb3 hgrow; have D3 := hide (FD.begin G2.out X2.out (by simp) hown hgrow); have X3 := hide D3.out.1; obtain ⟨x0, x1, x2⟩ := X3.out.cells; have x3 := frozen_of_row w3 _ 1 _ _ X3.out; clear hown hgrow hb3)
  refine calls_named fun W hW => ?_
  have D4 := hide D3.out.2
  rw [hW] at D4
  have hs4 : w2.heap.size < W.heap.size := by have := D4.out.box.lt; exact this
  clear hW x0 x1 x2 x3 X3 D3 G2 X2
  refine (pick_b R _ 9 _ D4.out.r.rd (by omega) (by omega)).mono ?_
  rintro e w5 ⟨r3, rfl, a3, b3, _, hr, hg⟩
  have c3 := b3 (by omega)
  obtain ⟨K, rfl⟩ := Int.eq_ofNat_of_zero_le a3
  have hK : K ≤ 8 := by omega
  have D5 := hide (D4.out.pick hr hg)
  clear hr hg b3 a3 c3 D4 hsb hs hn
  generalize w2.heap.size + 1 = go at *
  generalize w2.heap.size = g5 at *
  go_wp2_with fail
  go_loopw [6] (fun kv wr => ∃ q : Nat, kv = .int .i64 q ∧ q ≤ K ∧ Hid (FD w R (p + 3 + (K - q)) g5 s sb go n n wr)) (fun kv _ => (intOf kv).toNat)
  case atStart => exact ⟨K, rfl, by omega, hide (D5.out.mono (by omega))⟩
  case round =>
    clear D5
    obtain ⟨q, rfl, hq, HD⟩ := hrel
    by_cases hq0 : 0 < q
    · have hq0' : (0 : Int) < (q : Int) := by omega
      go_upto_region 6 with fail
      refine wp_frame fun a0 ha0 => ?_
      have HA := Lib.hid ha0
      clear ha0
      refine wp_region_inv (fun L a wx => ∃ x29 x30 x31 x32 x33 x34 x35 x36, a = putL a0 [(29, x29), (30, x30), (31, x31), (32, x32), (33, x33), (34, x34), (35, x35), (36, x36)] ∧ Hid (JD w R (p + 3 + (K - q)) g5 s sb go n n L x29 x30 x31 x32 x33 x34 x35 x36 wx)) (by kernel_rfl) (by kernel_rfl) ?_ ?_ ?_
      · exact ⟨_, _, _, _, _, _, _, _, putL_self a0 [29, 30, 31, 32, 33, 34, 35, 36], hide (JD.start HD.out.drew)⟩
      · refine ⟨?_, ?_, ?_, ?_, ?_, ?_, ?_, ?_, ?_, trivial⟩
        · intro L a wx hL0 hd
          rintro ⟨x29, x30, x31, x32, x33, x34, x35, x36, rfl, HJ⟩
          have hD := hd
          try simp [deps, Region.binds] at hD
          clear hD hd
          rw [← HA.out]
          simp only [putL, List.setIfInBounds_toArray, List.set_cons_succ, List.set_cons_zero]
          go_wp2_with fail
          refine ⟨_, _, _, _, _, _, _, _, ?_, hide (HJ.out.p0 hL0 rfl)⟩
          · try rw [← HA.out]
            try simp only [putL, List.setIfInBounds_toArray, List.set_cons_succ, List.set_cons_zero]
        · intro L a wx hL0 hd
          rintro ⟨x29, x30, x31, x32, x33, x34, x35, x36, rfl, HJ⟩
          have hD := hd
          try simp [deps, Region.binds] at hD
          obtain rfl := HJ.out.h0 (by simp [hD])
          obtain ⟨_, x1, _⟩ := HJ.out.s1.box.cells
          clear hD hd
          rw [← HA.out]
          simp only [putL, List.setIfInBounds_toArray, List.set_cons_succ, List.set_cons_zero]
          go_wp2_with fail
          refine ⟨_, _, _, _, _, _, _, _, ?_, hide (HJ.out.p1 hL0 rfl)⟩
          · try rw [← HA.out]
            try simp only [putL, List.setIfInBounds_toArray, List.set_cons_succ, List.set_cons_zero]
        · intro L a wx hL0 hd
          rintro ⟨x29, x30, x31, x32, x33, x34, x35, x36, rfl, HJ⟩
          have hD := hd
          try simp [deps, Region.binds] at hD
          clear hD hd
          rw [← HA.out]
          simp only [putL, List.setIfInBounds_toArray, List.set_cons_succ, List.set_cons_zero]
          go_wp2_with fail
          refine ⟨_, _, _, _, _, _, _, _, ?_, hide (HJ.out.p2 hL0 rfl)⟩
          · try rw [← HA.out]
            try simp only [putL, List.setIfInBounds_toArray, List.set_cons_succ, List.set_cons_zero]
        · intro L a wx hL0 hd
          rintro ⟨x29, x30, x31, x32, x33, x34, x35, x36, rfl, HJ⟩
          have hD := hd
          try simp [deps, Region.binds] at hD
          clear hD hd
          rw [← HA.out]
          simp only [putL, List.setIfInBounds_toArray, List.set_cons_succ, List.set_cons_zero]
          go_wp2_with fail
          refine ⟨_, _, _, _, _, _, _, _, ?_, hide (HJ.out.p3 hL0 rfl)⟩
          · try rw [← HA.out]
            try simp only [putL, List.setIfInBounds_toArray, List.set_cons_succ, List.set_cons_zero]
        · intro L a wx hL0 hd
          rintro ⟨x29, x30, x31, x32, x33, x34, x35, x36, rfl, HJ⟩
          have hD := hd
          try simp [deps, Region.binds] at hD
          obtain rfl := HJ.out.h3 (by simp [hD])
          obtain ⟨_, x1, _⟩ := HJ.out.s1.box.cells
          clear hD hd
          rw [← HA.out]
          simp only [putL, List.setIfInBounds_toArray, List.set_cons_succ, List.set_cons_zero]
          go_wp2_with fail
          refine ⟨_, _, _, _, _, _, _, _, ?_, hide (HJ.out.p4 hL0 rfl)⟩
          · try rw [← HA.out]
            try simp only [putL, List.setIfInBounds_toArray, List.set_cons_succ, List.set_cons_zero]
        · intro L a wx hL0 hd
          rintro ⟨x29, x30, x31, x32, x33, x34, x35, x36, rfl, HJ⟩
          have hD := hd
          try simp [deps, Region.binds] at hD
          obtain rfl := HJ.out.h4 (by simp [hD])
          clear hD hd
          rw [← HA.out]
          simp only [putL, List.setIfInBounds_toArray, List.set_cons_succ, List.set_cons_zero]
          go_wp2_with fail
          refine ⟨_, _, _, _, _, _, _, _, ?_, hide (HJ.out.p5 hL0 rfl)⟩
          · try rw [← HA.out]
            try simp only [putL, List.setIfInBounds_toArray, List.set_cons_succ, List.set_cons_zero]
        · intro L a wx hL0 hd
          rintro ⟨x29, x30, x31, x32, x33, x34, x35, x36, rfl, HJ⟩
          have hD := hd
          try simp [deps, Region.binds] at hD
          obtain rfl := HJ.out.h2 (by simp [hD])
          obtain rfl := HJ.out.h5 (by simp [hD])
          clear hD hd
          rw [← HA.out]
          simp only [putL, List.setIfInBounds_toArray, List.set_cons_succ, List.set_cons_zero]
          go_wp2_with fail
          refine (pick_b R _ _ _ (HJ.out.s0 hL0).r.rd (by omega) (by omega)).mono ?_
          rintro e w8 ⟨r, rfl, r1, r2, r3, hr, hg⟩
          have r4 := r2 (by omega)
          obtain ⟨q, rfl⟩ := Int.eq_ofNat_of_zero_le r1
          have HJ2 := hide (HJ.out.pick hL0 (r := q) (by omega) hr hg)
          clear hr hg r1 r2 r3 r4
          go_wp2_with fail
          refine ⟨_, _, _, _, _, _, _, _, ?_, hide (HJ2.out)⟩
          · try rw [← HA.out]
            try simp only [putL, List.setIfInBounds_toArray, List.set_cons_succ, List.set_cons_zero]
        · intro L a wx hL0 hd
          rintro ⟨x29, x30, x31, x32, x33, x34, x35, x36, rfl, HJ⟩
          have hD := hd
          try simp [deps, Region.binds] at hD
          obtain rfl := HJ.out.h1 (by simp [hD])
          obtain ⟨q, rfl, hq⟩ := HJ.out.h6 (by simp [hD])
          clear hD hd
          rw [← HA.out]
          simp only [putL, List.setIfInBounds_toArray, List.set_cons_succ, List.set_cons_zero]
          go_wp2_with fail
          refine ⟨_, _, _, _, _, _, _, _, ?_, hide (HJ.out.p7 hL0 ⟨q, rfl, hq⟩)⟩
          · try rw [← HA.out]
            try simp only [putL, List.setIfInBounds_toArray, List.set_cons_succ, List.set_cons_zero]
        · intro L a wx hL0 hd
          rintro ⟨x29, x30, x31, x32, x33, x34, x35, x36, rfl, HJ⟩
          have hD := hd
          try simp [deps, Region.binds] at hD
          obtain ⟨q, rfl, hq⟩ := HJ.out.h7 (by simp [hD])
          obtain ⟨bs, hbl, ho⟩ := HJ.out.s1.own
          have c1 := ho.cellAt hbl q hq
          have c2 := ho.frozenAt hbl q
          have HJ2 := hide (HJ.out.put hL0 q)
          clear ho hbl
          clear hD hd
          rw [← HA.out]
          simp only [putL, List.setIfInBounds_toArray, List.set_cons_succ, List.set_cons_zero]
          go_wp2_with fail
          refine ⟨_, _, _, _, _, _, _, _, ?_, hide (HJ2.out)⟩
          · try rw [← HA.out]
            try simp only [putL, List.setIfInBounds_toArray, List.set_cons_succ, List.set_cons_zero]
      · intro L a wx hall
        rintro ⟨x29, x30, x31, x32, x33, x34, x35, x36, rfl, HJ⟩
        rw [← HA.out]
        simp only [putL, List.setIfInBounds_toArray, List.set_cons_succ, List.set_cons_zero]
        have HE := hide HJ.out.s1
        clear HJ hall
        go_wp2_with fail
        go_roundw
        case rel => exact ⟨q - 1, by go_num, by omega, hide (HE.out.mono (by omega))⟩
        case measure => simp [intOf]; omega
    · have hq0' : ¬ (0 : Int) < (q : Int) := by omega
      have HD6 := hide (HD.out.mono (show p + 3 + (K - q) ≤ p + 11 by omega))
      clear HD
      go_wp2_with fail
      refine (odd_b R _ 9 _ HD6.out.r.rd (by omega) (by omega)).mono ?_
      rintro e w6 ⟨bo, rfl, hr, hg⟩
      have D6 := hide (HD6.out.pick hr hg)
      clear hr hg HD6
      cases bo
      · obtain ⟨x0, x1, x2⟩ := D6.out.box.cells
        obtain ⟨y0, y1, y2⟩ := D6.out.rb.cells
        have z0 := frozen_of_row w6 _ 0 _ _ D6.out.rb
        have z1 := frozen_of_row w6 _ 1 _ _ D6.out.rb
        have z2 := frozen_of_row w6 _ 2 _ _ D6.out.rb
        go_wp2_with fail
        obtain ⟨bs, hbl, ho⟩ := D6.out.own
        exact bodyPost_ret (results_cell_row resultsDF _ _ w.heap.size 25 #[.int .i64 s, .slice (some ⟨go, 0, none⟩) n n, .bool sb] (0, 0) _ rfl (box3_set D6.out.rb _ _ _) Try.underlying25 rfl infoF) rfl (DrawnField.of (D6.out.r.mono (by omega)) ho (by omega) (by omega))
      · go_wp2_with fail
        refine (pick_b R _ 4 _ D6.out.r.rd (by omega) (by omega)).mono ?_
        rintro e w7 ⟨r4, rfl, a4, b4, _, hr, hg⟩
        have c4 := b4 (by omega)
        have D7 := hide (D6.out.pick hr hg)
        clear hr hg b4 D6
        rcases (show r4 = 0 ∨ r4 = 1 ∨ r4 = 2 ∨ r4 = 3 by omega) with rfl | rfl | rfl | rfl
        · obtain ⟨bs, hbl, ho⟩ := D7.out.own
          obtain ⟨x0, x1, x2⟩ := D7.out.box.cells
          have HO := hide ho
          have HBL := Lib.hid hbl
          clear ho hbl
          have hsz7 : w.heap.size + 1 ≤ w7.heap.size := by have := D7.out.rb.lt; omega
          have HLit := hide (lit1B w7 false)
          have HO2 := hide (HO.out.alloc (.cells #[.bool false] 4))
          have HBd := hide (show bs.length + [false].length ≤ 8388608 by rw [HBL.out]; simp; omega)
          go_wp2_with (at_builtin; refine wpList_append_bools HO2.out HLit.out (.tmp 55) (.tmp 56) rfl rfl rfl rfl HBd.out (by simp; omega) ?_; intro v8 w8 ho8 hg8; obtain ⟨go8, c8, rfl⟩ : ∃ g c, v8 = .slice (some ⟨g, 0, none⟩) (n + 1) c := (by rcases ho8.form with ⟨_, e⟩ | ⟨g, c, e, _⟩; (· have := congrArg List.length e; simp at this); (· exact ⟨g, c, by rw [e, List.length_append, HBL.out]; rfl⟩)); have D8 := hide (D7.out.app (by rw [List.length_append, HBL.out]; rfl) ho8 hg8); have HO8 := hide ho8; clear ho8 hg8 x0 x1 x2; obtain ⟨x0, x1, x2⟩ := D8.out.1.cells; have x3 := frozen_of_row w8 _ 1 _ _ D8.out.1; obtain ⟨y0, y1, y2⟩ := D8.out.2.2.cells; have z0 := frozen_of_row w8 _ 0 _ _ D8.out.2.2; have z1 := frozen_of_row w8 _ 1 _ _ D8.out.2.2; have z2 := frozen_of_row w8 _ 2 _ _ D8.out.2.2; have hne := D8.out.2.1.lo)
          obtain ⟨bs8, hbl8, ho8⟩ := D8.out.2.1.own
          exact bodyPost_ret (results_cell_row resultsDF _ _ w.heap.size 25 #[.int .i64 s, .slice (some ⟨go8, 0, none⟩) (n + 1) c8, .bool sb] (0, 0) _ rfl (box3_set D8.out.2.1.rb _ _ _) Try.underlying25 rfl infoF) rfl (DrawnField.of (D8.out.2.1.r.mono (by omega)) ho8 (by omega) (by omega))
        · obtain ⟨y0, y1, y2⟩ := D7.out.rb.cells
          have z0 := frozen_of_row w7 _ 0 _ _ D7.out.rb
          have z1 := frozen_of_row w7 _ 1 _ _ D7.out.rb
          have z2 := frozen_of_row w7 _ 2 _ _ D7.out.rb
          go_wp2_with fail
          exact bodyPost_ret (results_cell_row resultsDF _ _ w.heap.size 25 #[.int .i64 0, .slice none 0 0, .bool false] (0, 0) _ rfl (box3_set D7.out.rb _ _ _) Try.underlying25 rfl infoF) rfl (DrawnField.of (D7.out.r.mono (by omega)) (OwnB.nil_ _ _) (by omega) (by omega))
        · have hsz7 : w.heap.size + 1 ≤ w7.heap.size := by have := D7.out.rb.lt; omega
          go_wp2_with (refine wpList_make_bools (w.heap.size + 1) 9 rfl _ _ rfl _ _ rfl rfl rfl rfl (by omega) hsz7 ?_; intro w8 hown hb8 hg8; have HR8 := hide (D7.out.rb.grown hg8 (by simp)); have G8 := hide (D7.out.r.step hg8 (fun x hx => by cases hx)); have HO8 := hide hown; clear hown hb8 hg8; obtain ⟨y0, y1, y2⟩ := HR8.out.cells; have z0 := frozen_of_row w8 _ 0 _ _ HR8.out; have z1 := frozen_of_row w8 _ 1 _ _ HR8.out; have z2 := frozen_of_row w8 _ 2 _ _ HR8.out)
          exact bodyPost_ret (results_cell_row resultsDF _ _ w.heap.size 25 #[.int .i64 3, .slice (some ⟨w7.heap.size, 0, none⟩) 9 9, .bool false] (0, 0) _ rfl (box3_set HR8.out _ _ _) Try.underlying25 rfl infoF) rfl (DrawnField.of (G8.out.mono (by omega)) HO8.out (by omega) (by omega))
        · have hsz7 : w.heap.size + 1 ≤ w7.heap.size := by have := D7.out.rb.lt; omega
          go_wp2_with (refine wpList_make_bools (w.heap.size + 1) 36 rfl _ _ rfl _ _ rfl rfl rfl rfl (by omega) hsz7 ?_; intro w8 hown hb8 hg8; have D8 := hide (D7.out.reset (s' := 6) (sh' := false) (by simp) hown hg8); clear hown hb8 hg8; obtain ⟨x0, x1, x2⟩ := D8.out.1.cells; have z0 := frozen_of_row w8 _ 0 _ _ D8.out.1; have z1 := frozen_of_row w8 _ 1 _ _ D8.out.1; have z2 := frozen_of_row w8 _ 2 _ _ D8.out.1)
          have D9 := hide D8.out.2
          clear D8 x0 x1 x2 z0 z1 z2
          go_loopw [7] (fun kv wr => ∃ q : Nat, kv = .int .i64 q ∧ q ≤ 13 ∧ Hid (FD w R (p + 30) g5 6 false w7.heap.size 36 36 wr)) (fun kv _ => 13 - (intOf kv).toNat)
          case atStart => exact ⟨0, rfl, by omega, hide (D9.out.mono (by omega))⟩
          case round =>
            clear D9
            obtain ⟨q, rfl, hq, HD⟩ := hrel
            obtain ⟨bs, hbl, ho⟩ := HD.out.own
            obtain ⟨x0, x1, x2⟩ := HD.out.box.cells
            by_cases hq0 : q ≤ 12
            · have y1 := ho.cellAt hbl q (by omega)
              have y2 := ho.frozenAt hbl q
              have HE := hide (HD.out.set q)
              clear ho hbl
              go_wp2_with fail
              go_roundw
              case rel => exact ⟨q + 1, by go_num, by omega, HE⟩
              case measure => simp [intOf]; omega
            · obtain ⟨y0, y1, y2⟩ := HD.out.rb.cells
              have z0 := frozen_of_row wr _ 0 _ _ HD.out.rb
              have z1 := frozen_of_row wr _ 1 _ _ HD.out.rb
              have z2 := frozen_of_row wr _ 2 _ _ HD.out.rb
              have HO := hide ho
              clear ho hbl
              go_wp2_with fail
              exact bodyPost_ret (results_cell_row resultsDF _ _ w.heap.size 25 #[.int .i64 6, .slice (some ⟨w7.heap.size, 0, none⟩) 36 36, .bool false] (0, 0) _ rfl (box3_set HD.out.rb _ _ _) Try.underlying25 rfl infoF) rfl (DrawnField.of HD.out.r HO.out (by omega) (by omega))
/-- a field drawn for a law -/
def TopField (w : World) (e : Ending) (w' : World) : Prop :=
  ∃ (s : Int) (A : Option Addr) (n c : Nat) (sh : Bool) (bs : List Bool), e = .returned (.agg #[.int .i64 s, .slice A n c, .bool sh]) ∧ (Lit.int .i64 s).wf = true ∧ n ≤ 100 ∧ BR w' A n bs ∧ Below w.heap.size w w'
theorem wf_100 {s : Int} (h : 0 ≤ s ∧ s ≤ 100) : (Lit.int .i64 s).wf = true := by
  simp [Lit.wf, IntKind.min, IntKind.max, IntKind.signed, IntKind.bits]; omega
theorem resultsDrBallsMany : Try.f7.results = #[.cell 2 25] := by kernel_rfl
set_option maxHeartbeats 4000000 in
theorem drawBallsMany_any (A : Option Addr) (n c : Nat) (zs : List Int) (w : World) (h : IRk .u8 w A n zs) (hz : ∀ z ∈ zs, (Lit.int .u8 z).wf = true) (hc : n ≤ c) :
    Calls Try.prog 7 #[.slice A n c] w (TopField w) := by
  have H := hide h
  have HZ := hide hz
  have X0 := hide (show BoxF (w.alloc (.cells #[.int .i64 0, .slice none 0 0, .bool false] 25)) 25 w.heap.size (.int .i64 0) (.slice none 0 0) (.bool false) from heap_alloc_new w _)
  clear h hz
  go_enter Try.func7, Try.ntmps7
  go_wp2_with fail
  refine calls_named fun W hW => ?_
  have hbW : Below w.heap.size w W := by rw [← hW]; exact (Below.refl _ w).alloc (Nat.le_refl _) _
  have hsW : W.heap.size = w.heap.size + 1 := by rw [← hW]; simp
  rw [hW] at X0
  refine (open_b A n c zs W (H.out.below hbW) HZ.out hc).mono ?_
  rintro e w2 ⟨R, rfl, hR, hrd, hb2⟩
  have HB := hide (bseq hbW hb2)
  have HRd := hide hrd
  have X1 := hide (X0.out.below hb2)
  have hRs : w.heap.size + 1 ≤ R := by omega
  clear hW hbW hrd hb2 X0 hR hsW
  go_wp2_with fail
  refine (l20Field_b R 0 w2 HRd.out (by omega)).mono ?_
  rintro e w3 ⟨s, A3, n3, c3, sh, bs, rfl, hs, hn3, ⟨hbr, hab⟩, hrg⟩
  have HS := hide (wf_100 hs)
  have HBR := hide hbr
  have X2 := hide (X1.out.grown hrg.gr (by simp; omega))
  have HB3 := hide (HB.out.grown hrg.gr HB.out.size (fun k hk => by simp at hk; omega))
  obtain ⟨y0, y1, y2⟩ := X2.out.cells
  have z0 := frozen_of_row w3 _ 0 _ _ X2.out
  have z1 := frozen_of_row w3 _ 1 _ _ X2.out
  have z2 := frozen_of_row w3 _ 2 _ _ X2.out
  have HNE := Lib.hid (show ∀ b o, A3 = some ⟨b, o, none⟩ → b < w3.heap.size → some b ≠ some w.heap.size from fun b o e hb => by
    have := hab b o e
    have := X1.out.lt
    simp
    omega)
  clear hbr hrg hs hab
  go_wp2_with fail
  have hg3 := box3_grown w3 w.heap.size (.int .i64 s) (.slice A3 n3 c3) (.bool sh)
  refine bodyPost_ret (results_cell_row resultsDrBallsMany _ _ w.heap.size 25 #[.int .i64 s, .slice A3 n3 c3, .bool sh] (0, 0) _ rfl (box3_set X2.out _ _ _) Try.underlying25 rfl infoF) rfl ⟨s, A3, n3, c3, sh, bs, rfl, HS.out, hn3, HBR.out.grown hg3 HNE.out, ?_⟩
  exact HB3.out.grown hg3 HB3.out.size (fun k hk => by simp at hk; omega)
theorem resultsDrFieldBack : Try.f21.results = #[.cell 2 25] := by kernel_rfl
set_option maxHeartbeats 4000000 in
theorem drawFieldBack_any (A : Option Addr) (n c : Nat) (zs : List Int) (w : World) (h : IRk .u8 w A n zs) (hz : ∀ z ∈ zs, (Lit.int .u8 z).wf = true) (hc : n ≤ c) :
    Calls Try.prog 21 #[.slice A n c] w (TopField w) := by
  have H := hide h
  have HZ := hide hz
  have X0 := hide (show BoxF (w.alloc (.cells #[.int .i64 0, .slice none 0 0, .bool false] 25)) 25 w.heap.size (.int .i64 0) (.slice none 0 0) (.bool false) from heap_alloc_new w _)
  clear h hz
  go_enter Try.func21, Try.ntmps21
  go_wp2_with fail
  refine calls_named fun W hW => ?_
  have hbW : Below w.heap.size w W := by rw [← hW]; exact (Below.refl _ w).alloc (Nat.le_refl _) _
  have hsW : W.heap.size = w.heap.size + 1 := by rw [← hW]; simp
  rw [hW] at X0
  refine (open_b A n c zs W (H.out.below hbW) HZ.out hc).mono ?_
  rintro e w2 ⟨R, rfl, hR, hrd, hb2⟩
  have HB := hide (bseq hbW hb2)
  have HRd := hide hrd
  have X1 := hide (X0.out.below hb2)
  have hRs : w.heap.size + 1 ≤ R := by omega
  clear hW hbW hrd hb2 X0 hR hsW
  go_wp2_with fail
  refine (l20Field_b R 0 w2 HRd.out (by omega)).mono ?_
  rintro e w3 ⟨s, A3, n3, c3, sh, bs, rfl, hs, hn3, ⟨hbr, hab⟩, hrg⟩
  have HS := hide (wf_100 hs)
  have HBR := hide hbr
  have X2 := hide (X1.out.grown hrg.gr (by simp; omega))
  have HB3 := hide (HB.out.grown hrg.gr HB.out.size (fun k hk => by simp at hk; omega))
  obtain ⟨y0, y1, y2⟩ := X2.out.cells
  have z0 := frozen_of_row w3 _ 0 _ _ X2.out
  have z1 := frozen_of_row w3 _ 1 _ _ X2.out
  have z2 := frozen_of_row w3 _ 2 _ _ X2.out
  have HNE := Lib.hid (show ∀ b o, A3 = some ⟨b, o, none⟩ → b < w3.heap.size → some b ≠ some w.heap.size from fun b o e hb => by
    have := hab b o e
    have := X1.out.lt
    simp
    omega)
  clear hbr hrg hs hab
  go_wp2_with fail
  have hg3 := box3_grown w3 w.heap.size (.int .i64 s) (.slice A3 n3 c3) (.bool sh)
  refine bodyPost_ret (results_cell_row resultsDrFieldBack _ _ w.heap.size 25 #[.int .i64 s, .slice A3 n3 c3, .bool sh] (0, 0) _ rfl (box3_set X2.out _ _ _) Try.underlying25 rfl infoF) rfl ⟨s, A3, n3, c3, sh, bs, rfl, HS.out, hn3, HBR.out.grown hg3 HNE.out, ?_⟩
  exact HB3.out.grown hg3 HB3.out.size (fun k hk => by simp at hk; omega)
theorem resultsDrFieldStep : Try.f25.results = #[.cell 2 25] := by kernel_rfl
set_option maxHeartbeats 4000000 in
theorem drawFieldStep_any (A : Option Addr) (n c : Nat) (zs : List Int) (w : World) (h : IRk .u8 w A n zs) (hz : ∀ z ∈ zs, (Lit.int .u8 z).wf = true) (hc : n ≤ c) :
    Calls Try.prog 25 #[.slice A n c] w (TopField w) := by
  have H := hide h
  have HZ := hide hz
  have X0 := hide (show BoxF (w.alloc (.cells #[.int .i64 0, .slice none 0 0, .bool false] 25)) 25 w.heap.size (.int .i64 0) (.slice none 0 0) (.bool false) from heap_alloc_new w _)
  clear h hz
  go_enter Try.func25, Try.ntmps25
  go_wp2_with fail
  refine calls_named fun W hW => ?_
  have hbW : Below w.heap.size w W := by rw [← hW]; exact (Below.refl _ w).alloc (Nat.le_refl _) _
  have hsW : W.heap.size = w.heap.size + 1 := by rw [← hW]; simp
  rw [hW] at X0
  refine (open_b A n c zs W (H.out.below hbW) HZ.out hc).mono ?_
  rintro e w2 ⟨R, rfl, hR, hrd, hb2⟩
  have HB := hide (bseq hbW hb2)
  have HRd := hide hrd
  have X1 := hide (X0.out.below hb2)
  have hRs : w.heap.size + 1 ≤ R := by omega
  clear hW hbW hrd hb2 X0 hR hsW
  go_wp2_with fail
  refine (l20Field_b R 0 w2 HRd.out (by omega)).mono ?_
  rintro e w3 ⟨s, A3, n3, c3, sh, bs, rfl, hs, hn3, ⟨hbr, hab⟩, hrg⟩
  have HS := hide (wf_100 hs)
  have HBR := hide hbr
  have X2 := hide (X1.out.grown hrg.gr (by simp; omega))
  have HB3 := hide (HB.out.grown hrg.gr HB.out.size (fun k hk => by simp at hk; omega))
  obtain ⟨y0, y1, y2⟩ := X2.out.cells
  have z0 := frozen_of_row w3 _ 0 _ _ X2.out
  have z1 := frozen_of_row w3 _ 1 _ _ X2.out
  have z2 := frozen_of_row w3 _ 2 _ _ X2.out
  have HNE := Lib.hid (show ∀ b o, A3 = some ⟨b, o, none⟩ → b < w3.heap.size → some b ≠ some w.heap.size from fun b o e hb => by
    have := hab b o e
    have := X1.out.lt
    simp
    omega)
  clear hbr hrg hs hab
  go_wp2_with fail
  have hg3 := box3_grown w3 w.heap.size (.int .i64 s) (.slice A3 n3 c3) (.bool sh)
  refine bodyPost_ret (results_cell_row resultsDrFieldStep _ _ w.heap.size 25 #[.int .i64 s, .slice A3 n3 c3, .bool sh] (0, 0) _ rfl (box3_set X2.out _ _ _) Try.underlying25 rfl infoF) rfl ⟨s, A3, n3, c3, sh, bs, rfl, HS.out, hn3, HBR.out.grown hg3 HNE.out, ?_⟩
  exact HB3.out.grown hg3 HB3.out.size (fun k hk => by simp at hk; omega)
end Go.Proofs.Ytmakpjcjccgalaa
