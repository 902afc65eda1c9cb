/-
  The field turned: impl.Field.moved and FieldTurn.
  No condition.
-/
import Derived.Test.YtmakpjcjccgalaaFieldBox
namespace Go.Proofs.Ytmakpjcjccgalaa
open Go.RowKit Go.Sort base
/-- the cells below i have been moved -/
def movedB (s : Nat) (bs : List Bool) (i : Nat) : List Bool := tabB (s * s) fun k => decide (tcome s k < i) && bth bs (tcome s k)
theorem movedB_zero (s : Nat) (bs : List Bool) : movedB s bs 0 = tabB (s * s) (fun _ => false) := by unfold movedB; congr 1
theorem movedB_len (s : Nat) (bs : List Bool) (i : Nat) : (movedB s bs i).length = s * s := tabB_len _ _
theorem movedB_end {s : Nat} {bs : List Bool} (hs : sOk s 0) : movedB s bs (s * s) = turnB s bs := by
  unfold movedB turnB tabB
  refine List.map_congr_left fun k hk => ?_
  have := (turns_ hs (k := k) (by simpa using hk)).2.1
  simp [this]
theorem movedB_step {s i : Nat} {bs : List Bool} (hs : sOk s 0) (hi : i < s * s) : movedB s bs (i + 1) = if bth bs i = true then (movedB s bs i).set (tgo s i) true else movedB s bs i := by
  obtain ⟨h1, _, _, h4, _⟩ := turns_ hs hi
  apply bth_ext
  · split <;> simp [movedB_len]
  intro k hk
  rw [movedB_len] at hk
  obtain ⟨_, _, g3, _⟩ := turns_ hs hk
  have key : bth (movedB s bs (i + 1)) k = (bth (movedB s bs i) k || (decide (k = tgo s i) && bth bs i)) := by
    rw [movedB, movedB, tabB_at hk, tabB_at hk]
    by_cases e : k = tgo s i
    · subst e
      rw [h4]
      simp
    · have : tcome s k ≠ i := fun e2 => e (by rw [← e2, g3])
      simp only [e, decide_false, Bool.false_and, Bool.or_false]
      congr 1
      rw [decide_eq_decide]
      omega
  rw [key]
  split
  · rename_i hb
    rw [bth_set _ _ _ _ (by rw [movedB_len]; exact h1), hb]
    by_cases e : tgo s i = k
    · subst e; simp
    · rw [if_neg e]
      have : decide (k = tgo s i) = false := by rw [decide_eq_false_iff_not]; exact fun e2 => e e2.symm
      rw [this]; simp
  · rename_i hb
    have : bth bs i = false := by simpa using hb
    rw [this]; simp
theorem tgo_cell {s i : Nat} (hs : 0 < s) (hi : i < s * s) : cellZ s ((s : Int) - 1 - ((i / s : Nat) : Int)) ((i % s : Nat) : Int) = tgo s i := by
  have h1 : i / s < s := Nat.div_lt_of_lt_mul hi
  have h2 : i % s < s := Nat.mod_lt _ hs
  have h3 : ((s : Int) - 1 - ((i / s : Nat) : Int)).toNat = s - 1 - i / s := by omega
  unfold cellZ cellN tgo
  rw [h3, Int.toNat_natCast, Nat.mod_eq_of_lt h2, Nat.mod_eq_of_lt (Nat.lt_of_le_of_lt (Nat.sub_le _ _) (Nat.sub_lt hs (by omega)))]
theorem resultsT1 : Try.f35.results = #[.cell 3 47] := by kernel_rfl
set_option maxHeartbeats 1000000 in
theorem turn1_any (s x y : Int) (bf : Nat) (w : World) (hf : w.cell? ⟨bf, 0, none⟩ = some (.int .i64 s)) (hs : 2 ≤ s ∧ s ≤ 8) (hx : 0 ≤ x ∧ x ≤ 100) (hy : 0 ≤ y ∧ y ≤ 100) :
    Calls Try.prog 35 #[.agg #[.int .i64 x, .int .i64 y], .pointer (some ⟨bf, 0, none⟩)] w fun e w' => e = .returned (.agg #[.int .i64 (s - 1 - y), .int .i64 x]) ∧ Below w.heap.size w w' := by
  obtain ⟨x0, x1⟩ := hx
  obtain ⟨y0, y1⟩ := hy
  obtain ⟨s0, s1⟩ := hs
  have hlt : bf < w.heap.size := World.block_lt_of_cell? _ _ hf
  go_enter Try.func35, Try.ntmps35
  go_wp2_with fail
  refine bodyPost_ret (results_cell_row resultsT1 _ _ (w.heap.size + 1) 47 #[.int .i64 (s - 1 - y), .int .i64 x] (0, 0) _ rfl ?_ Try.underlying47 rfl infoP) rfl ⟨rfl, by go_grown⟩
  have := heap_alloc_new (w.alloc (.cells #[.int .i64 x, .int .i64 y] 47)) (.cells #[.int .i64 (s - 1 - y), .int .i64 x] 47)
  rw [World.size_alloc] at this
  exact this
structure JM (w : World) (s : Int) (A : Option Addr) (n c : Nat) (sh : Bool) (bs : List Bool) (L : Nat → Bool) (x8 x9 x10 x11 x12 x13 x14 x15 x16 x5 : Value) (wx : World) : Prop where
  h0 : L 0 = true → x8 = .pointer (some ⟨w.heap.size, 0, none⟩)
  h1 : L 1 = true → x9 = .int .i64 s
  h2 : L 2 = true → x10 = .pointer (some ⟨w.heap.size, 1, none⟩)
  h3 : L 3 = true → x11 = .slice A n c
  h4 : L 4 = true → x12 = .int .i64 (n : Int)
  h5 : L 5 = true → ∃ g, x13 = .slice (some ⟨g, 0, none⟩) n n ∧ OwnB wx (w.heap.size + 2) (.slice (some ⟨g, 0, none⟩) n n) (List.replicate n false)
  h6 : L 6 = true → x14 = .pointer (some ⟨w.heap.size, 2, none⟩)
  h7 : L 7 = true → x15 = .bool sh
  h8 : L 8 = true → ∃ g, x16 = .agg #[.int .i64 s, .slice (some ⟨g, 0, none⟩) n n, .bool sh] ∧ OwnB wx (w.heap.size + 2) (.slice (some ⟨g, 0, none⟩) n n) (List.replicate n false)
  h9 : L 9 = true → ∃ g, x5 = .pointer (some ⟨g, 0, none⟩) ∧ w.heap.size + 2 ≤ g ∧ (L 10 = false → wx.heap[g]? = some (.cells #[.int .i64 0, .slice none 0 0, .bool false] 25 (0, 0)))
  tb : TB w s A n c sh bs wx
  c10 : L 10 = true → ∀ k, k < 10 → L k = true
  fin : L 10 = true → ∃ g go, x5 = .pointer (some ⟨g, 0, none⟩) ∧ w.heap.size + 2 ≤ g ∧ wx.heap[g]? = some (.cells #[.int .i64 s, .slice (some ⟨go, 0, none⟩) n n, .bool sh] 25 (0, 0)) ∧ OwnB wx (w.heap.size + 2) (.slice (some ⟨go, 0, none⟩) n n) (List.replicate n false)
theorem JM.start {w : World} {s : Int} {A : Option Addr} {n c : Nat} {sh : Bool} {bs : List Bool} {wx : World} {x8 x9 x10 x11 x12 x13 x14 x15 x16 x5 : Value} (hs : TB w s A n c sh bs wx) : JM w s A n c sh bs (fun _ => false) x8 x9 x10 x11 x12 x13 x14 x15 x16 x5 wx :=
  ⟨(fun h => by cases h), (fun h => by cases h), (fun h => by cases h), (fun h => by cases h), (fun h => by cases h), (fun h => by cases h), (fun h => by cases h), (fun h => by cases h), (fun h => by cases h), (fun h => by cases h), hs, (fun h => by cases h), (fun h => by cases h)⟩
theorem JM.p0 {w : World} {s : Int} {A : Option Addr} {n c : Nat} {sh : Bool} {bs : List Bool} {wx : World} {L : Nat → Bool} {x8 x9 x10 x11 x12 x13 x14 x15 x16 x5 : Value} (h : JM w s A n c sh bs L x8 x9 x10 x11 x12 x13 x14 x15 x16 x5 wx) (hL : L 0 = false) {v : Value} (hv : v = .pointer (some ⟨w.heap.size, 0, none⟩))  : JM w s A n c sh bs (upd L 0) (v) x9 x10 x11 x12 x13 x14 x15 x16 x5 wx :=
  ⟨fun _ => hv, fun e => h.h1 (upd_ne e rfl), fun e => h.h2 (upd_ne e rfl), fun e => h.h3 (upd_ne e rfl), fun e => h.h4 (upd_ne e rfl), fun e => h.h5 (upd_ne e rfl), fun e => h.h6 (upd_ne e rfl), fun e => h.h7 (upd_ne e rfl), fun e => h.h8 (upd_ne e rfl), fun e => (h.h9 (upd_ne e rfl)).imp fun _ h1 => ⟨h1.1, h1.2.1, fun e2 => h1.2.2 (upd_f e2)⟩, h.tb, fun e k hk => by have := h.c10 (upd_ne e rfl) k hk; simp [upd, this], fun e => absurd (h.c10 (upd_ne e rfl) 0 (by omega)) (by simp [hL])⟩
theorem JM.p1 {w : World} {s : Int} {A : Option Addr} {n c : Nat} {sh : Bool} {bs : List Bool} {wx : World} {L : Nat → Bool} {x8 x9 x10 x11 x12 x13 x14 x15 x16 x5 : Value} (h : JM w s A n c sh bs L x8 x9 x10 x11 x12 x13 x14 x15 x16 x5 wx) (hL : L 1 = false) {v : Value} (hv : v = .int .i64 s)  : JM w s A n c sh bs (upd L 1) x8 (v) x10 x11 x12 x13 x14 x15 x16 x5 wx :=
  ⟨fun e => h.h0 (upd_ne e rfl), fun _ => hv, fun e => h.h2 (upd_ne e rfl), fun e => h.h3 (upd_ne e rfl), fun e => h.h4 (upd_ne e rfl), fun e => h.h5 (upd_ne e rfl), fun e => h.h6 (upd_ne e rfl), fun e => h.h7 (upd_ne e rfl), fun e => h.h8 (upd_ne e rfl), fun e => (h.h9 (upd_ne e rfl)).imp fun _ h1 => ⟨h1.1, h1.2.1, fun e2 => h1.2.2 (upd_f e2)⟩, h.tb, fun e k hk => by have := h.c10 (upd_ne e rfl) k hk; simp [upd, this], fun e => absurd (h.c10 (upd_ne e rfl) 1 (by omega)) (by simp [hL])⟩
theorem JM.p2 {w : World} {s : Int} {A : Option Addr} {n c : Nat} {sh : Bool} {bs : List Bool} {wx : World} {L : Nat → Bool} {x8 x9 x10 x11 x12 x13 x14 x15 x16 x5 : Value} (h : JM w s A n c sh bs L x8 x9 x10 x11 x12 x13 x14 x15 x16 x5 wx) (hL : L 2 = false) {v : Value} (hv : v = .pointer (some ⟨w.heap.size, 1, none⟩))  : JM w s A n c sh bs (upd L 2) x8 x9 (v) x11 x12 x13 x14 x15 x16 x5 wx :=
  ⟨fun e => h.h0 (upd_ne e rfl), fun e => h.h1 (upd_ne e rfl), fun _ => hv, fun e => h.h3 (upd_ne e rfl), fun e => h.h4 (upd_ne e rfl), fun e => h.h5 (upd_ne e rfl), fun e => h.h6 (upd_ne e rfl), fun e => h.h7 (upd_ne e rfl), fun e => h.h8 (upd_ne e rfl), fun e => (h.h9 (upd_ne e rfl)).imp fun _ h1 => ⟨h1.1, h1.2.1, fun e2 => h1.2.2 (upd_f e2)⟩, h.tb, fun e k hk => by have := h.c10 (upd_ne e rfl) k hk; simp [upd, this], fun e => absurd (h.c10 (upd_ne e rfl) 2 (by omega)) (by simp [hL])⟩
theorem JM.p3 {w : World} {s : Int} {A : Option Addr} {n c : Nat} {sh : Bool} {bs : List Bool} {wx : World} {L : Nat → Bool} {x8 x9 x10 x11 x12 x13 x14 x15 x16 x5 : Value} (h : JM w s A n c sh bs L x8 x9 x10 x11 x12 x13 x14 x15 x16 x5 wx) (hL : L 3 = false) {v : Value} (hv : v = .slice A n c)  : JM w s A n c sh bs (upd L 3) x8 x9 x10 (v) x12 x13 x14 x15 x16 x5 wx :=
  ⟨fun e => h.h0 (upd_ne e rfl), fun e => h.h1 (upd_ne e rfl), fun e => h.h2 (upd_ne e rfl), fun _ => hv, fun e => h.h4 (upd_ne e rfl), fun e => h.h5 (upd_ne e rfl), fun e => h.h6 (upd_ne e rfl), fun e => h.h7 (upd_ne e rfl), fun e => h.h8 (upd_ne e rfl), fun e => (h.h9 (upd_ne e rfl)).imp fun _ h1 => ⟨h1.1, h1.2.1, fun e2 => h1.2.2 (upd_f e2)⟩, h.tb, fun e k hk => by have := h.c10 (upd_ne e rfl) k hk; simp [upd, this], fun e => absurd (h.c10 (upd_ne e rfl) 3 (by omega)) (by simp [hL])⟩
theorem JM.p4 {w : World} {s : Int} {A : Option Addr} {n c : Nat} {sh : Bool} {bs : List Bool} {wx : World} {L : Nat → Bool} {x8 x9 x10 x11 x12 x13 x14 x15 x16 x5 : Value} (h : JM w s A n c sh bs L x8 x9 x10 x11 x12 x13 x14 x15 x16 x5 wx) (hL : L 4 = false) {v : Value} (hv : v = .int .i64 (n : Int))  : JM w s A n c sh bs (upd L 4) x8 x9 x10 x11 (v) x13 x14 x15 x16 x5 wx :=
  ⟨fun e => h.h0 (upd_ne e rfl), fun e => h.h1 (upd_ne e rfl), fun e => h.h2 (upd_ne e rfl), fun e => h.h3 (upd_ne e rfl), fun _ => hv, fun e => h.h5 (upd_ne e rfl), fun e => h.h6 (upd_ne e rfl), fun e => h.h7 (upd_ne e rfl), fun e => h.h8 (upd_ne e rfl), fun e => (h.h9 (upd_ne e rfl)).imp fun _ h1 => ⟨h1.1, h1.2.1, fun e2 => h1.2.2 (upd_f e2)⟩, h.tb, fun e k hk => by have := h.c10 (upd_ne e rfl) k hk; simp [upd, this], fun e => absurd (h.c10 (upd_ne e rfl) 4 (by omega)) (by simp [hL])⟩
theorem JM.p6 {w : World} {s : Int} {A : Option Addr} {n c : Nat} {sh : Bool} {bs : List Bool} {wx : World} {L : Nat → Bool} {x8 x9 x10 x11 x12 x13 x14 x15 x16 x5 : Value} (h : JM w s A n c sh bs L x8 x9 x10 x11 x12 x13 x14 x15 x16 x5 wx) (hL : L 6 = false) {v : Value} (hv : v = .pointer (some ⟨w.heap.size, 2, none⟩))  : JM w s A n c sh bs (upd L 6) x8 x9 x10 x11 x12 x13 (v) x15 x16 x5 wx :=
  ⟨fun e => h.h0 (upd_ne e rfl), fun e => h.h1 (upd_ne e rfl), fun e => h.h2 (upd_ne e rfl), fun e => h.h3 (upd_ne e rfl), fun e => h.h4 (upd_ne e rfl), fun e => h.h5 (upd_ne e rfl), fun _ => hv, fun e => h.h7 (upd_ne e rfl), fun e => h.h8 (upd_ne e rfl), fun e => (h.h9 (upd_ne e rfl)).imp fun _ h1 => ⟨h1.1, h1.2.1, fun e2 => h1.2.2 (upd_f e2)⟩, h.tb, fun e k hk => by have := h.c10 (upd_ne e rfl) k hk; simp [upd, this], fun e => absurd (h.c10 (upd_ne e rfl) 6 (by omega)) (by simp [hL])⟩
theorem JM.p7 {w : World} {s : Int} {A : Option Addr} {n c : Nat} {sh : Bool} {bs : List Bool} {wx : World} {L : Nat → Bool} {x8 x9 x10 x11 x12 x13 x14 x15 x16 x5 : Value} (h : JM w s A n c sh bs L x8 x9 x10 x11 x12 x13 x14 x15 x16 x5 wx) (hL : L 7 = false) {v : Value} (hv : v = .bool sh)  : JM w s A n c sh bs (upd L 7) x8 x9 x10 x11 x12 x13 x14 (v) x16 x5 wx :=
  ⟨fun e => h.h0 (upd_ne e rfl), fun e => h.h1 (upd_ne e rfl), fun e => h.h2 (upd_ne e rfl), fun e => h.h3 (upd_ne e rfl), fun e => h.h4 (upd_ne e rfl), fun e => h.h5 (upd_ne e rfl), fun e => h.h6 (upd_ne e rfl), fun _ => hv, fun e => h.h8 (upd_ne e rfl), fun e => (h.h9 (upd_ne e rfl)).imp fun _ h1 => ⟨h1.1, h1.2.1, fun e2 => h1.2.2 (upd_f e2)⟩, h.tb, fun e k hk => by have := h.c10 (upd_ne e rfl) k hk; simp [upd, this], fun e => absurd (h.c10 (upd_ne e rfl) 7 (by omega)) (by simp [hL])⟩
theorem JM.p8 {w : World} {s : Int} {A : Option Addr} {n c : Nat} {sh : Bool} {bs : List Bool} {wx : World} {L : Nat → Bool} {x8 x9 x10 x11 x12 x13 x14 x15 x16 x5 : Value} (h : JM w s A n c sh bs L x8 x9 x10 x11 x12 x13 x14 x15 x16 x5 wx) (hL : L 8 = false) {v : Value} (hv : ∃ g, v = .agg #[.int .i64 s, .slice (some ⟨g, 0, none⟩) n n, .bool sh] ∧ OwnB wx (w.heap.size + 2) (.slice (some ⟨g, 0, none⟩) n n) (List.replicate n false))  : JM w s A n c sh bs (upd L 8) x8 x9 x10 x11 x12 x13 x14 x15 (v) x5 wx :=
  ⟨fun e => h.h0 (upd_ne e rfl), fun e => h.h1 (upd_ne e rfl), fun e => h.h2 (upd_ne e rfl), fun e => h.h3 (upd_ne e rfl), fun e => h.h4 (upd_ne e rfl), fun e => h.h5 (upd_ne e rfl), fun e => h.h6 (upd_ne e rfl), fun e => h.h7 (upd_ne e rfl), fun _ => hv, fun e => (h.h9 (upd_ne e rfl)).imp fun _ h1 => ⟨h1.1, h1.2.1, fun e2 => h1.2.2 (upd_f e2)⟩, h.tb, fun e k hk => by have := h.c10 (upd_ne e rfl) k hk; simp [upd, this], fun e => absurd (h.c10 (upd_ne e rfl) 8 (by omega)) (by simp [hL])⟩
theorem JM.lay {w : World} {s : Int} {A : Option Addr} {n c : Nat} {sh : Bool} {bs : List Bool} {wx : World} {L : Nat → Bool} {x8 x9 x10 x11 x12 x13 x14 x15 x16 x5 : Value} (h : JM w s A n c sh bs L x8 x9 x10 x11 x12 x13 x14 x15 x16 x5 wx) (hL : L 5 = false) {go : Nat} {wy : World} (hb : Below wx.heap.size wx wy) (ho : OwnB wy (w.heap.size + 2) (.slice (some ⟨go, 0, none⟩) n n) (List.replicate n false)) : JM w s A n c sh bs (upd L 5) x8 x9 x10 x11 x12 (.slice (some ⟨go, 0, none⟩) n n) x14 x15 x16 x5 wy :=
  ⟨fun e => h.h0 (upd_ne e rfl), fun e => h.h1 (upd_ne e rfl), fun e => h.h2 (upd_ne e rfl), fun e => h.h3 (upd_ne e rfl), fun e => h.h4 (upd_ne e rfl), fun _ => ⟨go, rfl, ho⟩, fun e => h.h6 (upd_ne e rfl), fun e => h.h7 (upd_ne e rfl), fun e => let ⟨g, h1, h2⟩ := h.h8 (upd_ne e rfl); ⟨g, h1, h2.below hb⟩, fun e => let ⟨g, h1, h2, h3⟩ := h.h9 (upd_ne e rfl); ⟨g, h1, h2, fun e2 => (hb.block g (Array.getElem?_eq_some_iff.1 (h3 (upd_f e2))).1).trans (h3 (upd_f e2))⟩, h.tb.below hb, fun e k hk => by have := h.c10 (upd_ne e rfl) k hk; simp [upd, this], fun e => absurd (h.c10 (upd_ne e rfl) 5 (by omega)) (by simp [hL])⟩
theorem JM.new {w : World} {s : Int} {A : Option Addr} {n c : Nat} {sh : Bool} {bs : List Bool} {wx : World} {L : Nat → Bool} {x8 x9 x10 x11 x12 x13 x14 x15 x16 x5 : Value} (h : JM w s A n c sh bs L x8 x9 x10 x11 x12 x13 x14 x15 x16 x5 wx) (hL : L 9 = false)  : JM w s A n c sh bs (upd L 9) x8 x9 x10 x11 x12 x13 x14 x15 x16 (.pointer (some ⟨wx.heap.size, 0, none⟩)) (wx.alloc (.cells #[.int .i64 0, .slice none 0 0, .bool false] 25)) :=
  ⟨fun e => h.h0 (upd_ne e rfl), fun e => h.h1 (upd_ne e rfl), fun e => h.h2 (upd_ne e rfl), fun e => h.h3 (upd_ne e rfl), fun e => h.h4 (upd_ne e rfl), fun e => let ⟨g, h1, h2⟩ := h.h5 (upd_ne e rfl); ⟨g, h1, h2.alloc _⟩, fun e => h.h6 (upd_ne e rfl), fun e => h.h7 (upd_ne e rfl), fun e => let ⟨g, h1, h2⟩ := h.h8 (upd_ne e rfl); ⟨g, h1, h2.alloc _⟩, fun _ => ⟨_, rfl, h.tb.sz, fun _ => heap_alloc_new wx _⟩, h.tb.below ((Below.refl _ wx).alloc (Nat.le_refl _) _), fun e k hk => by have := h.c10 (upd_ne e rfl) k hk; simp [upd, this], fun e => absurd (h.c10 (upd_ne e rfl) 9 (by omega)) (by simp [hL])⟩
theorem JM.put {w : World} {s : Int} {A : Option Addr} {n c : Nat} {sh : Bool} {bs : List Bool} {wx : World} {L : Nat → Bool} {x8 x9 x10 x11 x12 x13 x14 x15 x16 x5 : Value} (h : JM w s A n c sh bs L x8 x9 x10 x11 x12 x13 x14 x15 x16 x5 wx) (hL : L 10 = false) {g go : Nat} (hx : x5 = .pointer (some ⟨g, 0, none⟩)) (hlo : w.heap.size + 2 ≤ g) (hb : wx.heap[g]? = some (.cells #[.int .i64 0, .slice none 0 0, .bool false] 25 (0, 0))) (hw : BR w A n bs) (ho : OwnB wx (w.heap.size + 2) (.slice (some ⟨go, 0, none⟩) n n) (List.replicate n false)) (hall : ∀ k, k < 10 → L k = true) : JM w s A n c sh bs (upd L 10) x8 x9 x10 x11 x12 x13 x14 x15 x16 x5 (((wx.setCell ⟨g, 0, none⟩ (.int .i64 s)).setCell ⟨g, 1, none⟩ (.slice (some ⟨go, 0, none⟩) n n)).setCell ⟨g, 2, none⟩ (.bool sh)) :=
  ⟨fun e => h.h0 (upd_ne e rfl), fun e => h.h1 (upd_ne e rfl), fun e => h.h2 (upd_ne e rfl), fun e => h.h3 (upd_ne e rfl), fun e => h.h4 (upd_ne e rfl), fun e => let ⟨g5, h1, h2⟩ := h.h5 (upd_ne e rfl); ⟨g5, h1, h2.keep3 hb _ _ _⟩, fun e => h.h6 (upd_ne e rfl), fun e => h.h7 (upd_ne e rfl), fun e => let ⟨g5, h1, h2⟩ := h.h8 (upd_ne e rfl); ⟨g5, h1, h2.keep3 hb _ _ _⟩, fun e => let ⟨g5, h1, h2, _⟩ := h.h9 (upd_ne e rfl); ⟨g5, h1, h2, fun e2 => by simp [upd] at e2⟩, h.tb.step (box3_grown wx g _ _ _) (by simpa using hlo) hw, fun _ j hj => by simp [upd, hall j hj], fun _ => ⟨g, go, hx, hlo, box3_set hb _ _ _, ho.keep3 hb _ _ _⟩⟩
theorem resultsMv : Try.f34.results = #[.cell 4 25] := by kernel_rfl
set_option maxRecDepth 100000 in
set_option maxHeartbeats 8000000 in
theorem moved_any (s bf : Nat) (A : Option Addr) (n c : Nat) (sh : Bool) (bs : List Bool) (w : World) (hs : sOk s 0) (hn : n = s * s) (hb : BR w A n bs) (hf : w.cell? ⟨bf, 0, none⟩ = some (.int .i64 s)) :
    Calls Try.prog 34 #[.agg #[.int .i64 s, .slice A n c, .bool sh], .func (.func 35) #[] #[.pointer (some ⟨bf, 0, none⟩)]] w (RField w s sh (turnB s bs)) := by
  have hs0 : 2 ≤ s ∧ s ≤ 8 := by obtain ⟨h, _⟩ := hs; omega
  have HS := hide hs
  have HN := Lib.hid hn
  have hn64 : n ≤ 64 := by obtain ⟨h | h | h | h, _⟩ := hs <;> (subst h; omega)
  have hn0 : 0 < n := by rw [hn]; exact Nat.mul_pos (by omega) (by omega)
  have HB := hide hb
  have HFc := Lib.hid hf
  have T0 := hide (TB.start (s := s) (c := c) (sh := sh) hb)
  clear hb hs hn hf
  go_enter Try.func34, Try.ntmps34
  go_upto_region 1 with fail
  refine wp_named fun W hW => ?_
  rw [hW] at T0
  clear hW
  go_cut [5] from 8 to 17 (fun x5 wx => Hid (TB w s A n c sh bs wx ∧ ∃ g go, x5 = .pointer (some ⟨g, 0, none⟩) ∧ OB w g go n s n sh (List.replicate n false) wx))
  case first =>
    refine wp_frame fun a0 ha0 => ?_
    have HA := Lib.hid ha0
    clear ha0
    refine wp_region_inv (fun L a wx => ∃ x8 x9 x10 x11 x12 x13 x14 x15 x16 x5, a = putL a0 [(8, x8), (9, x9), (10, x10), (11, x11), (12, x12), (13, x13), (14, x14), (15, x15), (16, x16), (5, x5)] ∧ Hid (JM w s A n c sh bs L x8 x9 x10 x11 x12 x13 x14 x15 x16 x5 wx)) (by kernel_rfl) (by kernel_rfl) ?_ ?_ ?_
    · exact ⟨_, _, _, _, _, _, _, _, _, _, putL_self a0 [8, 9, 10, 11, 12, 13, 14, 15, 16, 5], hide (JM.start (show TB w s A n c sh bs W.drew from T0.out.below (below_drewN (Below.refl _ W) 1)))⟩
    · refine ⟨?_, ?_, ?_, ?_, ?_, ?_, ?_, ?_, ?_, ?_, ?_, trivial⟩
      · intro L a wx hL0 hd
        rintro ⟨x8, x9, x10, x11, x12, x13, x14, x15, x16, x5, rfl, HJ⟩
        have hD := hd
        try simp [deps, Region.binds] at hD
        clear hD hd
        rw [← HA.out]
        simp only [putL, List.setIfInBounds_toArray, List.set_cons_succ, List.set_cons_zero]
        go_wp2_with fail
        refine ⟨_, _, _, _, _, _, _, _, _, _, ?_, hide (HJ.out.p0 hL0 rfl)⟩
        · try rw [← HA.out]
          try simp only [putL, List.setIfInBounds_toArray, List.set_cons_succ, List.set_cons_zero]
      · intro L a wx hL0 hd
        rintro ⟨x8, x9, x10, x11, x12, x13, x14, x15, x16, x5, rfl, HJ⟩
        have hD := hd
        try simp [deps, Region.binds] at hD
        obtain rfl := HJ.out.h0 (by simp [hD])
        have c0 := HJ.out.tb.f0
        clear hD hd
        rw [← HA.out]
        simp only [putL, List.setIfInBounds_toArray, List.set_cons_succ, List.set_cons_zero]
        go_wp2_with fail
        refine ⟨_, _, _, _, _, _, _, _, _, _, ?_, hide (HJ.out.p1 hL0 rfl)⟩
        · try rw [← HA.out]
          try simp only [putL, List.setIfInBounds_toArray, List.set_cons_succ, List.set_cons_zero]
      · intro L a wx hL0 hd
        rintro ⟨x8, x9, x10, x11, x12, x13, x14, x15, x16, x5, rfl, HJ⟩
        have hD := hd
        try simp [deps, Region.binds] at hD
        clear hD hd
        rw [← HA.out]
        simp only [putL, List.setIfInBounds_toArray, List.set_cons_succ, List.set_cons_zero]
        go_wp2_with fail
        refine ⟨_, _, _, _, _, _, _, _, _, _, ?_, hide (HJ.out.p2 hL0 rfl)⟩
        · try rw [← HA.out]
          try simp only [putL, List.setIfInBounds_toArray, List.set_cons_succ, List.set_cons_zero]
      · intro L a wx hL0 hd
        rintro ⟨x8, x9, x10, x11, x12, x13, x14, x15, x16, x5, rfl, HJ⟩
        have hD := hd
        try simp [deps, Region.binds] at hD
        obtain rfl := HJ.out.h2 (by simp [hD])
        have c0 := HJ.out.tb.f1
        clear hD hd
        rw [← HA.out]
        simp only [putL, List.setIfInBounds_toArray, List.set_cons_succ, List.set_cons_zero]
        go_wp2_with fail
        refine ⟨_, _, _, _, _, _, _, _, _, _, ?_, hide (HJ.out.p3 hL0 rfl)⟩
        · try rw [← HA.out]
          try simp only [putL, List.setIfInBounds_toArray, List.set_cons_succ, List.set_cons_zero]
      · intro L a wx hL0 hd
        rintro ⟨x8, x9, x10, x11, x12, x13, x14, x15, x16, x5, rfl, HJ⟩
        have hD := hd
        try simp [deps, Region.binds] at hD
        obtain rfl := HJ.out.h3 (by simp [hD])
        clear hD hd
        rw [← HA.out]
        simp only [putL, List.setIfInBounds_toArray, List.set_cons_succ, List.set_cons_zero]
        go_wp2_with fail
        refine ⟨_, _, _, _, _, _, _, _, _, _, ?_, hide (HJ.out.p4 hL0 rfl)⟩
        · try rw [← HA.out]
          try simp only [putL, List.setIfInBounds_toArray, List.set_cons_succ, List.set_cons_zero]
      · intro L a wx hL0 hd
        rintro ⟨x8, x9, x10, x11, x12, x13, x14, x15, x16, x5, rfl, HJ⟩
        have hD := hd
        try simp [deps, Region.binds] at hD
        obtain rfl := HJ.out.h4 (by simp [hD])
        clear hD hd
        rw [← HA.out]
        simp only [putL, List.setIfInBounds_toArray, List.set_cons_succ, List.set_cons_zero]
        refine wpList_make_bools wx.heap.size n rfl _ _ rfl _ _ rfl rfl rfl rfl (by omega) (Nat.le_refl _) ?_; intro w8 ho8' hb8 hg8; have ho8 := ho8'.base_le HJ.out.tb.sz; clear ho8'
        have HJ2 := hide (HJ.out.lay hL0 hb8 ho8)
        clear ho8 hb8 hg8
        go_wp2_with fail
        refine ⟨_, _, _, _, _, _, _, _, _, _, ?_, hide (HJ2.out)⟩
        · try rw [← HA.out]
          try simp only [putL, List.setIfInBounds_toArray, List.set_cons_succ, List.set_cons_zero]
      · intro L a wx hL0 hd
        rintro ⟨x8, x9, x10, x11, x12, x13, x14, x15, x16, x5, rfl, HJ⟩
        have hD := hd
        try simp [deps, Region.binds] at hD
        clear hD hd
        rw [← HA.out]
        simp only [putL, List.setIfInBounds_toArray, List.set_cons_succ, List.set_cons_zero]
        go_wp2_with fail
        refine ⟨_, _, _, _, _, _, _, _, _, _, ?_, hide (HJ.out.p6 hL0 rfl)⟩
        · try rw [← HA.out]
          try simp only [putL, List.setIfInBounds_toArray, List.set_cons_succ, List.set_cons_zero]
      · intro L a wx hL0 hd
        rintro ⟨x8, x9, x10, x11, x12, x13, x14, x15, x16, x5, rfl, HJ⟩
        have hD := hd
        try simp [deps, Region.binds] at hD
        obtain rfl := HJ.out.h6 (by simp [hD])
        have c0 := HJ.out.tb.f2
        clear hD hd
        rw [← HA.out]
        simp only [putL, List.setIfInBounds_toArray, List.set_cons_succ, List.set_cons_zero]
        go_wp2_with fail
        refine ⟨_, _, _, _, _, _, _, _, _, _, ?_, hide (HJ.out.p7 hL0 rfl)⟩
        · try rw [← HA.out]
          try simp only [putL, List.setIfInBounds_toArray, List.set_cons_succ, List.set_cons_zero]
      · intro L a wx hL0 hd
        rintro ⟨x8, x9, x10, x11, x12, x13, x14, x15, x16, x5, rfl, HJ⟩
        have hD := hd
        try simp [deps, Region.binds] at hD
        obtain rfl := HJ.out.h1 (by simp [hD])
        obtain ⟨go, rfl, ho⟩ := HJ.out.h5 (by simp [hD])
        obtain rfl := HJ.out.h7 (by simp [hD])
        have HO := hide ho
        clear ho
        clear hD hd
        rw [← HA.out]
        simp only [putL, List.setIfInBounds_toArray, List.set_cons_succ, List.set_cons_zero]
        go_wp2_with fail
        refine ⟨_, _, _, _, _, _, _, _, _, _, ?_, hide (HJ.out.p8 hL0 ⟨go, rfl, HO.out⟩)⟩
        · try rw [← HA.out]
          try simp only [putL, List.setIfInBounds_toArray, List.set_cons_succ, List.set_cons_zero]
      · intro L a wx hL0 hd
        rintro ⟨x8, x9, x10, x11, x12, x13, x14, x15, x16, x5, rfl, HJ⟩
        have hD := hd
        try simp [deps, Region.binds] at hD
        clear hD hd
        rw [← HA.out]
        simp only [putL, List.setIfInBounds_toArray, List.set_cons_succ, List.set_cons_zero]
        go_wp2_with fail
        refine ⟨_, _, _, _, _, _, _, _, _, _, ?_, hide (HJ.out.new hL0)⟩
        · try rw [← HA.out]
          try simp only [putL, List.setIfInBounds_toArray, List.set_cons_succ, List.set_cons_zero]
      · intro L a wx hL0 hd
        rintro ⟨x8, x9, x10, x11, x12, x13, x14, x15, x16, x5, rfl, HJ⟩
        have hD := hd
        try simp [deps, Region.binds] at hD
        obtain ⟨go, rfl, ho⟩ := HJ.out.h8 (by simp [hD])
        have hL9 : L 9 = true := (by simp [hD])
        obtain ⟨g, rfl, hg, hbx⟩ := HJ.out.h9 hL9
        have hb := hbx hL0
        have HJ2 := hide (HJ.out.put hL0 rfl hg hb HB.out ho (fun k hk => by rcases (show k = 0 ∨ k = 1 ∨ k = 2 ∨ k = 3 ∨ k = 4 ∨ k = 5 ∨ k = 6 ∨ k = 7 ∨ k = 8 ∨ k = 9 by omega) with rfl | rfl | rfl | rfl | rfl | rfl | rfl | rfl | rfl | rfl <;> simp [hD]))
        have r0 : wx.cell? ⟨g, 0, none⟩ = some (.int .i64 0) := by rw [cell_of_row wx _ 0 _ _ (0, 0) hb]; rfl
        have r1 : wx.cell? ⟨g, 1, none⟩ = some (.slice none 0 0) := by rw [cell_of_row wx _ 1 _ _ (0, 0) hb]; rfl
        have r2 : wx.cell? ⟨g, 2, none⟩ = some (.bool false) := by rw [cell_of_row wx _ 2 _ _ (0, 0) hb]; rfl
        have q0 := frozen_of_row wx _ 0 _ _ hb
        have q1 := frozen_of_row wx _ 1 _ _ hb
        have q2 := frozen_of_row wx _ 2 _ _ hb
        clear ho hbx hb hL9
        clear hD hd
        rw [← HA.out]
        simp only [putL, List.setIfInBounds_toArray, List.set_cons_succ, List.set_cons_zero]
        go_wp2_with fail
        refine ⟨_, _, _, _, _, _, _, _, _, _, ?_, hide (HJ2.out)⟩
        · try rw [← HA.out]
          try simp only [putL, List.setIfInBounds_toArray, List.set_cons_succ, List.set_cons_zero]
    · intro L a wx hall
      rintro ⟨x8, x9, x10, x11, x12, x13, x14, x15, x16, x5, rfl, HJ⟩
      rw [← HA.out]
      simp only [putL, List.setIfInBounds_toArray, List.set_cons_succ, List.set_cons_zero]
      have HE := hide (HJ.out.fin (hall 10 (by decide)))
      obtain ⟨g, go, rfl, h1, h2, h3⟩ := HE.out
      have HF := hide (show TB w s A n c sh bs wx ∧ ∃ g' go, Value.pointer (some ⟨g, 0, none⟩) = .pointer (some ⟨g', 0, none⟩) ∧ OB w g' go n s n sh (List.replicate n false) wx from ⟨HJ.out.tb, g, go, rfl, h1, h2, h3⟩)
      clear h1 h2 h3 HE
      go_wp2_with fail
      go_meet
      exact HF
  case rest =>
    obtain ⟨hT, g, go, rfl, hO⟩ := hcut.out
    have S0 := hide (show SS w s A n c sh bs g go n (movedB s bs 0) _ from ⟨hT, by
      rw [movedB_zero]
      have e : List.replicate n false = tabB (s * s) (fun _ => false) := by
        rw [HN.out]
        apply List.ext_getElem (by simp [tabB_len])
        intro i h1 h2
        simp [tabB]
      rw [← e]; exact hO, by rw [movedB_len, HN.out], HB.out⟩)
    clear hT hO hcut T0
    obtain ⟨f0, f1, f2, _⟩ := S0.out.t
    go_wp2_with fail
    clear f0 f1 f2
    go_loopw [20] (fun iv wr => ∃ i : Nat, iv = .int .i64 i ∧ i ≤ n ∧ Hid (SS w s A n c sh bs g go n (movedB s bs i) wr)) (fun iv _ => n - (intOf iv).toNat)
    case atStart => exact ⟨0, rfl, by omega, S0.out⟩
    case round =>
      clear S0
      obtain ⟨i, rfl, hi, HT⟩ := hrel
      by_cases hlt : i < n
      · have HM := Lib.hid (movedB_step (bs := bs) HS.out (by rw [← HN.out]; exact hlt))
        obtain ⟨b, o, rfl, hbl, hcc⟩ := HT.out.t.br.at_ hn0
        have hc := hcc i hlt
        clear hcc
        cases hv : bth bs i
        · rw [hv] at hc
          have HV := Lib.hid hv
          clear hv
          go_wp2_with fail
          go_roundw
          case rel => exact ⟨i + 1, by go_num, by omega, by rw [HM.out, HV.out]; simpa using HT⟩
          case measure => simp [intOf]; omega
        · rw [hv] at hc
          have HV := Lib.hid hv
          clear hv
          have HG := Lib.hid (tgo_cell (s := s) (i := i) (by omega) (by rw [← HN.out]; exact hlt))
          have hgl : tgo s i < n := by rw [HN.out]; exact (turns_ HS.out (by rw [← HN.out]; exact hlt)).1
          have hi1 : i / s < s := Nat.div_lt_of_lt_mul (by rw [← HN.out]; exact hlt)
          have hi2 : i % s < s := Nat.mod_lt _ (by omega)
          have hm : Int.tmod (i : Int) (s : Int) = ((i % s : Nat) : Int) := by rw [Int.tmod_eq_emod_of_nonneg (by omega)]; rfl
          have hd : Int.tdiv (i : Int) (s : Int) = ((i / s : Nat) : Int) := by rw [Int.tdiv_eq_ediv_of_nonneg (by omega)]; rfl
          have hs00 : ¬ (s : Int) = 0 := by omega
          obtain ⟨_, m1, _⟩ := HT.out.cells
          have m0 := HT.out.t.f0
          have mf : wr.cell? ⟨bf, 0, none⟩ = some (.int .i64 s) := (HT.out.t.low.cell (p := ⟨bf, 0, none⟩) (World.block_lt_of_cell? _ _ HFc.out)).trans HFc.out
          generalize i / s = yi at *
          generalize i % s = xi at *
          generalize tgo s i = cz at *
          have k0 := cell_regrown m0
          have k1 := cell_regrown m1
          have k2 := cell_regrown mf
          clear m0 m1 mf
          go_wp2_with fail
          refine wp_region_below_tail 17 (by kernel_rfl) (by kernel_rfl) ?_
          simp only [List.take_succ_cons, List.take_zero, List.drop_succ_cons, List.drop_zero]
          repeat (go_big_quiet_step ((first | (go_at_call 35; exact Calls.regrown_of (turn1_any _ _ _ bf _ (k2 _ _) (by omega) (by omega) (by omega))) | (go_at_call 49; exact below_of (show _ = Value.int .i64 ((cz : Nat) : Int) by rw [← HG.out]) (fun W' => placeIn_z s _ _ W' HS.out.1 (by omega) (by omega))))))
          refine wpQuiet_nil ?_
          intro p
          obtain ⟨w3, hw3⟩ : ∃ w3, grow (redrawn wr p.d) p.os = w3 := ⟨_, rfl⟩
          have HT3 := hide (HT.out.below (show Below wr.heap.size wr w3 by rw [← hw3]; exact below_regrown wr p.d p.os))
          rw [hw3]
          have r1 := HT3.out.o.own.cellAt HT3.out.len cz hgl
          have r2 := HT3.out.o.own.frozenAt HT3.out.len cz
          have HT4 := hide (HT3.out.set cz true)
          clear k0 k1 k2 hw3 hm hd hs00
          go_wp2_with fail
          go_roundw
          case rel => exact ⟨i + 1, by go_num, by omega, by rw [HM.out, HV.out]; simpa using HT4⟩
          case measure => simp [intOf]; omega
      · obtain rfl : i = n := by omega
        have HE := Lib.hid (show movedB s bs i = turnB s bs by rw [HN.out]; exact movedB_end HS.out)
        obtain ⟨r0, r1, r2⟩ := HT.out.cells
        obtain ⟨⟨m0, m1, m2⟩, q0, q1, q2⟩ := HT.out.t.cells
        have hsz := HT.out.t.sz
        go_wp2_with fail
        have hg3 := box3_grown wr (w.heap.size + 1) (.int .i64 s) (.slice (some ⟨go, 0, none⟩) i i) (.bool sh)
        refine bodyPost_ret (results_cell_row resultsMv _ _ (w.heap.size + 1) 25 #[.int .i64 s, .slice (some ⟨go, 0, none⟩) i i, .bool sh] (0, 0) _ rfl (box3_set HT.out.t.rb _ _ _) Try.underlying25 rfl infoF) rfl ⟨go, i, i, rfl, ?_, HT.out.t.low3 _ _ _⟩
        have h1 := HT.out.o.golo
        have := HT.out.o.own.kept hg3 (.inr (by simp [Value.ownBlock]; omega))
        rw [HE.out] at this
        exact this.base_le (by omega)
def outK (s : Int) (sh : Bool) (bs : List Bool) : Bool := if fldOk s bs then sh else false
def turnL (s : Int) (bs : List Bool) : List Bool := if fldOk s bs then turnB s.toNat bs else []
theorem resFT : Try.f14.results = #[.cell 2 25] := by kernel_rfl
set_option maxHeartbeats 4000000 in
theorem turns_any (s : Int) (A : Option Addr) (n c : Nat) (sh : Bool) (bs : List Bool) (w : World) (hb : BR w A n bs) (hn : n ≤ 1048576) (hs : (Lit.int .i64 s).wf = true) :
    Calls Try.prog 14 #[.agg #[.int .i64 s, .slice A n c, .bool sh]] w (RF w (outS s bs) (outK s sh bs) (turnL s bs)) := by
  cases hv : fldOk s bs
  · have HO := Lib.hid (show outS s bs = 0 ∧ outK s sh bs = false ∧ turnL s bs = [] by unfold outS outK turnL; rw [hv]; exact ⟨rfl, rfl, rfl⟩)
    have HV := Lib.hid hv
    have T0 := hide (TB.start (s := s) (c := c) (sh := sh) hb)
    have HS := Lib.hid hs
    clear hb hv hs
    go_enter Try.func14, Try.ntmps14
    go_wp2_with fail
    refine calls_named fun W hW => ?_
    rw [hW] at T0
    clear hW
    refine (fieldValid_any s A n c sh bs W T0.out.br hn HS.out).mono ?_
    rintro e w2 ⟨rfl, hb2⟩
    rw [HV.out]
    have T2 := hide (T0.out.below hb2)
    obtain ⟨⟨r0, r1, r2⟩, q0, q1, q2⟩ := T2.out.cells
    clear hb2 T0
    go_wp2_with fail
    refine bodyPost_ret (results_cell_row resFT _ _ (w.heap.size + 1) 25 #[.int .i64 0, .slice none 0 0, .bool false] (0, 0) _ rfl (box3_set T2.out.rb _ _ _) Try.underlying25 rfl infoF) rfl ?_
    obtain ⟨o1, o2, o3⟩ := HO.out
    rw [o1, o2, o3]
    exact ⟨none, 0, 0, rfl, OwnB.nil_ _ _, T2.out.low3 _ _ _⟩
  · obtain ⟨t, rfl, ht, hl, _⟩ := fldOk_out hv
    have HO := Lib.hid (show outS (t : Int) bs = t ∧ outK (t : Int) sh bs = sh ∧ turnL (t : Int) bs = turnB t bs by unfold outS outK turnL; rw [hv]; exact ⟨rfl, rfl, rfl⟩)
    have HV := Lib.hid hv
    have T0 := hide (TB.start (s := (t : Int)) (c := c) (sh := sh) hb)
    have HS := Lib.hid hs
    have HN := Lib.hid (show n = t * t by rw [← hb.len, hl])
    have HT := Lib.hid ht
    clear hb hv hs hl ht
    go_enter Try.func14, Try.ntmps14
    go_wp2_with fail
    refine calls_named fun W hW => ?_
    rw [hW] at T0
    clear hW
    refine (fieldValid_any t A n c sh bs W T0.out.br hn HS.out).mono ?_
    rintro e w2 ⟨rfl, hb2⟩
    rw [HV.out]
    have T2 := hide (T0.out.below hb2)
    obtain ⟨f0, f1, f2, _, _, _, hsz⟩ := T2.out
    clear hb2 T0
    go_wp2_with fail
    refine (moved_any t w.heap.size A n c sh bs w2 ⟨HT.out, .inl rfl⟩ HN.out T2.out.br f0).mono ?_
    rintro e w3 ⟨g, m, k, rfl, ho, hb3⟩
    have T3 := hide (T2.out.below hb3)
    have HOw := hide ho
    obtain ⟨⟨r0, r1, r2⟩, q0, q1, q2⟩ := T3.out.cells
    clear ho hb3 f0 f1 f2
    go_wp2_with fail
    have hg := box3_grown w3 (w.heap.size + 1) (.int .i64 t) (.slice (some ⟨g, 0, none⟩) m k) (.bool sh)
    refine bodyPost_ret (results_cell_row resFT _ _ (w.heap.size + 1) 25 #[.int .i64 t, .slice (some ⟨g, 0, none⟩) m k, .bool sh] (0, 0) _ rfl (box3_set T3.out.rb _ _ _) Try.underlying25 rfl infoF) rfl ?_
    obtain ⟨o1, o2, o3⟩ := HO.out
    rw [o1, o2, o3]
    refine ⟨some ⟨g, 0, none⟩, m, k, rfl, ?_, T3.out.low3 _ _ _⟩
    refine (HOw.out.kept hg (.inr fun e => ?_)).base_le (by omega)
    have := (HOw.out.lt g rfl).1
    simp [Value.ownBlock] at e
    omega
end Go.Proofs.Ytmakpjcjccgalaa
