/-
  The program's parse and ProgramValid.
  No condition.
-/
import Derived.Test.YtacdagdhkmcbiaaIRec
namespace Go.Proofs.Ytacdagdhkmcbiaa
open Go.RowKit Go.Sort base
theorem below_row {B : Nat} {a b c : World} {row : Option Nat} (h : Below B a b) (k : b.grownBy c row) (hr : ∀ x, row = some x → B ≤ x) (hB : B ≤ b.heap.size) : Below B a c :=
  ⟨k.os.trans h.os, k.tape.trans h.tape, k.output.trans h.output, Nat.le_trans h.size k.size, fun x hx => (k.block x (by omega) (fun e => by have := hr x e.symm; omega)).trans (h.block x hx)⟩
theorem parsed_at {ks : List Int} (hk : ∀ k ∈ ks, kindOk k) (m : Nat) (hm : ks.length < m) : (pu m (ks ++ [-1]) (-1) 0).isSome = stacked ks := by
  have h := pu_says m ks [] hm hk ⟨by simp, by simp⟩
  have hc : closer [] = -1 := rfl
  rw [hc, List.length_nil] at h
  rw [Bool.eq_iff_iff]
  unfold stacked
  rw [beq_iff_eq]
  cases hr : pu m (ks ++ [-1]) (-1) 0 with
  | none =>
    rw [hr] at h
    have := h.1 rfl
    unfold acc at this
    simp [this]
  | some l =>
    rw [hr] at h
    have := (h.2 l rfl).1
    unfold acc at this
    simp [this]
theorem kinds_ok {gs : List G4} (h : gs.all lineOk = true) : ∀ k ∈ kindsOf gs, kindOk k := by
  intro k hk
  obtain ⟨g, hg, rfl⟩ := List.mem_map.1 hk
  exact lineOk_kind (List.all_eq_true.1 h g hg)
theorem fresh_end (w : World) : GR (w.alloc (.cells #[.int .i64 (-1), .int .i64 0, .int .i64 0, .int .i64 0] 32)) (some ⟨w.heap.size, 0, none⟩) 1 [(-1, 0, 0, 0)] :=
  ⟨rfl, by decide, fun _ => ⟨w.heap.size, 0, rfl, by simp, fun i hi => by
    obtain rfl : i = 0 := by omega
    exact ⟨cell_at rfl rfl, cell_at rfl rfl, cell_at rfl rfl, cell_at rfl rfl⟩⟩⟩
/-- the two boxes of parse's results -/
structure RB (w : World) (v0 v1 : Value) (wr : World) : Prop where
  b0 : wr.heap[w.heap.size]? = some (.cells #[v0] 41 (0, 0))
  b1 : wr.heap[w.heap.size + 1]? = some (.cells #[v1] 4 (0, 0))
  gr : w.grownBy wr none
  sz : w.heap.size + 2 ≤ wr.heap.size
theorem RB.start (w : World) : RB w (.slice none 0 0) (.bool false) ((w.alloc (.cells #[.slice none 0 0] 41)).alloc (.cells #[.bool false] 4)) := by
  have hb : Below w.heap.size w ((w.alloc (.cells #[.slice none 0 0] 41)).alloc (.cells #[.bool false] 4)) := by go_grown
  refine ⟨block_alloc (heap_alloc_new w _) _, ?_, ⟨hb.os, hb.tape, hb.output, hb.size, fun k hk _ => hb.block k hk⟩, by simp⟩
  have := heap_alloc_new (w.alloc (.cells #[.slice none 0 0] 41)) (.cells #[.bool false] 4)
  rw [World.size_alloc] at this
  exact this
theorem RB.row {w wr wy : World} {v0 v1 : Value} {row : Option Nat} (h : RB w v0 v1 wr) (hg : wr.grownBy wy row) (hr : ∀ x, row = some x → w.heap.size + 2 ≤ x) : RB w v0 v1 wy := by
  have h1 := h.sz
  exact ⟨(hg.block _ (by omega) (fun e => by have := hr _ e.symm; omega)).trans h.b0, (hg.block _ (by omega) (fun e => by have := hr _ e.symm; omega)).trans h.b1, grown_far h.gr hg (fun x e => by have := hr x e; omega), by have := hg.size; omega⟩
theorem RB.below {w wr wy : World} {v0 v1 : Value} (h : RB w v0 v1 wr) (hb : Below wr.heap.size wr wy) : RB w v0 v1 wy :=
  h.row (row := none) ⟨hb.os, hb.tape, hb.output, hb.size, fun k hk _ => hb.block k hk⟩ (fun x e => by cases e)
theorem RB.set0 {w wr : World} {v0 v1 : Value} (h : RB w v0 v1 wr) (v : Value) : RB w v v1 (wr.setCell ⟨w.heap.size, 0, none⟩ v) := by
  have h1 := h.sz
  have hg := set1_grown wr w.heap.size 0 v
  exact ⟨heap_setCell_same wr _ 0 _ _ _ h.b0, (hg.block _ (by omega) (by simp)).trans h.b1, grown_far h.gr hg (by simp), by have := hg.size; omega⟩
theorem RB.set1 {w wr : World} {v0 v1 : Value} (h : RB w v0 v1 wr) (v : Value) : RB w v0 v (wr.setCell ⟨w.heap.size + 1, 0, none⟩ v) := by
  have h1 := h.sz
  have hg := set1_grown wr (w.heap.size + 1) 0 v
  exact ⟨(hg.block _ (by omega) (by simp)).trans h.b0, heap_setCell_same wr _ 0 _ _ _ h.b1, grown_far h.gr hg (by simp), by have := hg.size; omega⟩
theorem RB.cells {w wr : World} {v0 v1 : Value} (h : RB w v0 v1 wr) : wr.cell? ⟨w.heap.size, 0, none⟩ = some v0 ∧ wr.cell? ⟨w.heap.size + 1, 0, none⟩ = some v1 ∧ wr.frozen? ⟨w.heap.size, 0, none⟩ = false ∧ wr.frozen? ⟨w.heap.size + 1, 0, none⟩ = false :=
  ⟨by rw [cell_of_row wr _ 0 _ _ (0, 0) h.b0]; rfl, by rw [cell_of_row wr _ 0 _ _ (0, 0) h.b1]; rfl, frozen_of_row wr _ 0 _ _ h.b0, frozen_of_row wr _ 0 _ _ h.b1⟩
theorem RB.out {w wr : World} {v0 v1 : Value} (h : RB w v0 v1 wr) : Below w.heap.size w wr := ⟨h.gr.os, h.gr.tape, h.gr.output, h.gr.size, fun k hk => h.gr.block k hk (by simp)⟩
theorem parse_results {w W : World} {v0 v1 : Value} (tmps : Array Value) (h : RB w v0 v1 W) (h2 : tmps.getD 2 undef = .pointer (some ⟨w.heap.size, 0, none⟩)) (h3 : tmps.getD 3 undef = .pointer (some ⟨w.heap.size + 1, 0, none⟩)) :
    (results Try.f15 tmps).run Try.prog W = .ok (.tuple #[v0, v1]) W := by
  obtain ⟨c0, c1, _, _⟩ := h.cells
  have h2' : tmps[2]?.getD undef = .pointer (some ⟨w.heap.size, 0, none⟩) := by simpa using h2
  have h3' : tmps[3]?.getD undef = .pointer (some ⟨w.heap.size + 1, 0, none⟩) := by simpa using h3
  simp [results, Try.results15, asAddr, h2', h3', go_sem, c0, c1]
set_option maxHeartbeats 4000000 in
theorem parse_any (A : Option Addr) (n c : Nat) (gs : List G4) (w : World) (h : GR w A n gs) :
    Calls Try.prog 15 #[.slice A n c] w fun e w' => (∃ A' n' c', e = .returned (.tuple #[.slice A' n' c', .bool (progQ gs)])) ∧ Below w.heap.size w w' := by
  have hmf : ∀ (fn : Fn) (first cap : Array Value) (w : World), (Instr.makeFunc fn first cap).run Try.prog w = .ok (.func fn first cap) w := fun _ _ _ _ => rfl
  have H := hide h
  have HL := Lib.hid h.len
  have hmax := h.max
  clear h
  by_cases hn : 16 < n
  · have HR := Lib.hid (show progQ gs = false by unfold progQ; rw [HL.out, decide_eq_false (by omega)]; rfl)
    have hn' : (16 : Int) < (n : Int) := by omega
    go_enter_defers Try.func15, Try.ntmps15
    go_wp2_with fail
    refine ⟨_, parse_results _ (RB.start w) rfl rfl, ⟨_, _, _, by rw [HR.out]⟩, (RB.start w).out⟩
  · have hn' : ¬ (16 : Int) < (n : Int) := by omega
    go_enter_defers Try.func15, Try.ntmps15
    go_wp2_with fail
    refine calls_named fun W hW => ?_
    have hRB : RB w (.slice none 0 0) (.bool false) W := by rw [← hW]; exact RB.start w
    have HRB := hide hRB
    clear hRB hW
    refine (containsLine_any A n c gs W (H.out.below HRB.out.out)).mono ?_
    rintro e w1 ⟨rfl, hb1⟩
    have HRB1 := hide (HRB.out.below hb1)
    clear hb1 HRB
    cases hall : gs.any badLine
    · have HAll := Lib.hid (show gs.all lineOk = true by have := any_bad gs; rw [hall] at this; simpa using this.symm)
      go_wp2_with fail
      refine (clone_any A n c gs w1 (H.out.below HRB1.out.out) (by omega)).mono ?_
      rintro e w2 ⟨⟨V, rfl, ho⟩, hb2⟩
      have HO := hide (ho.alloc (.cells #[.int .i64 (-1), .int .i64 0, .int .i64 0, .int .i64 0] 32))
      have HRB2 := hide ((HRB1.out.below hb2).below ((Below.refl _ w2).alloc (Nat.le_refl _) (.cells #[.int .i64 (-1), .int .i64 0, .int .i64 0, .int .i64 0] 32)))
      have HF := hide (fresh_end w2)
      have hs1 := HRB1.out.sz
      have hs2 : w1.heap.size ≤ w2.heap.size := hb2.size
      obtain ⟨gs', hgs'⟩ : ∃ x, x = gs ++ [((-1 : Int), (0 : Int), (0 : Int), (0 : Int))] := ⟨_, rfl⟩
      have HGs := Lib.hid hgs'
      clear ho hb2 hgs'
      go_wp2_with (at_builtin; refine wpList_append_gates HO.out HF.out (.tmp 14) (.tmp 16) rfl rfl rfl rfl (by rw [HL.out]; simp; omega) (by simp; omega) ?_; intro v6 w6 ho6 hg6; rw [← HGs.out] at ho6; have HRB6 := hide (HRB2.out.row hg6 (fun x e => by have := (HO.out.lt x e).1; omega)); rcases ho6.gr with ⟨A6, c6, rfl, hG6⟩; have HG6 := hide hG6; clear ho6 hg6 hG6)
      have HLen := Lib.hid (show gs'.length = n + 1 by rw [HGs.out, List.length_append, HL.out]; rfl)
      refine calls_named fun W7 hW7 => ?_
      have hps : PS w6.heap.size A6 gs'.length c6 gs' 0 0 W7 := by
        rw [← hW7]
        refine ⟨heap_alloc_new w6 _, HG6.out.below ((Below.refl _ w6).alloc (Nat.le_refl _) _), fun b o e => ?_⟩
        obtain ⟨b', o', e', hl, _⟩ := HG6.out.at_ (by rw [HLen.out]; omega)
        rw [e] at e'
        simp at e'
        omega
      have hrb : RB w (.slice none 0 0) (.bool false) W7 := by rw [← hW7]; exact HRB6.out.below ((Below.refl _ w6).alloc (Nat.le_refl _) _)
      have hs6 := HRB6.out.sz
      have HRB7 := hide hrb
      have HE := Lib.hid (parsed_at (kinds_ok HAll.out) (n + 2) (by unfold kindsOf; rw [List.length_map, HL.out]; omega))
      have hkd : (kindsOf gs').drop 0 = kindsOf gs ++ [-1] := by rw [HGs.out]; unfold kindsOf; simp
      refine (until_any (n + 2) w6.heap.size A6 gs'.length c6 gs' 0 0 (-1) W7 hps (by rw [HLen.out]; omega) (by omega) (by rw [HLen.out]; omega) (by omega) (by omega) ⟨by omega, by omega⟩).mono ?_
      rintro e w8 hp
      rw [hkd] at hp
      have HQ := Lib.hid (show progQ gs = stacked (kindsOf gs) by unfold progQ; rw [HAll.out, HL.out, decide_eq_true (by omega)]; rfl)
      clear hW7 hps hrb hkd
      cases hr : pu (n + 2) (kindsOf gs ++ [-1]) (-1) 0 with
      | none =>
        rw [hr] at hp
        obtain ⟨rfl, _, hg8⟩ := hp
        have hR : progQ gs = false := by rw [HQ.out, ← HE.out, hr]; rfl
        have HRB8 := hide (HRB7.out.row hg8 (fun x e => by simp at e; omega))
        obtain ⟨c0, c1, z0, z1⟩ := HRB8.out.cells
        refine leaves_cons (f := 24) (args := #[.pointer (some ⟨w.heap.size, 0, none⟩), .pointer (some ⟨w.heap.size + 1, 0, none⟩)]) (by simp) (by simp [go_sem]) ?_
        refine (rec_left _ _ _ _ w8 c0 c1 z0 z1 (by omega)).mono ?_
        rintro e u' w9 ⟨rfl, rfl, rfl⟩
        have hRB9 := ((HRB8.out.set0 (.slice none 0 0)).set1 (.bool false)).below ((Below.refl _ _).alloc (Nat.le_refl _) (.cells #[] 52))
        exact ⟨_, parse_results _ hRB9 rfl rfl, ⟨_, _, _, by rw [hR]⟩, hRB9.out⟩
      | some l =>
        rw [hr] at hp
        obtain ⟨⟨A8, n8, c8, rfl⟩, _, hg8⟩ := hp
        have HR := Lib.hid (show progQ gs = true by rw [HQ.out, ← HE.out, hr]; rfl)
        have HRB8 := hide (HRB7.out.row hg8 (fun x e => by simp at e; omega))
        obtain ⟨c0, c1, z0, z1⟩ := HRB8.out.cells
        clear hg8 hr
        go_wp2_with fail
        have hRB9 := (HRB8.out.set0 (.slice A8 n8 c8)).set1 (.bool true)
        refine leaves_cons (f := 24) (args := #[.pointer (some ⟨w.heap.size, 0, none⟩), .pointer (some ⟨w.heap.size + 1, 0, none⟩)]) (by simp) (by simp [go_sem]) ?_
        refine (rec_idle _ _ _).mono ?_
        rintro e u' w9 ⟨rfl, rfl, rfl⟩
        exact ⟨_, parse_results _ hRB9 rfl rfl, ⟨_, _, _, by rw [HR.out]⟩, hRB9.out⟩
    · have HR := Lib.hid (show progQ gs = false by unfold progQ; rw [show gs.all lineOk = false by have := any_bad gs; rw [hall] at this; simpa using this.symm]; simp)
      obtain ⟨c0, c1, z0, z1⟩ := HRB1.out.cells
      go_wp2_with fail
      refine ⟨_, parse_results _ ((HRB1.out.set0 (.slice none 0 0)).set1 (.bool false)) rfl rfl, ⟨_, _, _, by rw [HR.out]⟩, ((HRB1.out.set0 (.slice none 0 0)).set1 (.bool false)).out⟩
theorem programValid_any (A : Option Addr) (n c : Nat) (gs : List G4) (w : World) (h : GR w A n gs) :
    Calls Try.prog 8 #[.slice A n c] w fun e w' => e = .returned (.bool (progQ gs)) ∧ Below w.heap.size w w' := by
  have HP := hide (parse_any A n c gs w h)
  clear h
  go_enter Try.func8, Try.ntmps8
  go_wp2_with fail
  refine HP.out.mono ?_
  rintro e w1 ⟨⟨A', n', c', rfl⟩, hb1⟩
  have HB := hide hb1
  clear hb1
  go_wp2_with fail
  go_ret
  exact ⟨rfl, HB.out⟩
end Go.Proofs.Ytacdagdhkmcbiaa
