/-
  The parser of the program: part, by the contract of until.
  No condition.
-/
import Derived.Test.YtacdagdhkmcbiaaIPart
namespace Go.Proofs.Ytacdagdhkmcbiaa
open Go.RowKit Go.Sort base
theorem PT.row {w wr : World} {P N c at_ d : Nat} {A : Option Addr} {gs : List G4} {k0 k1 k2 k3 : Int} {v4 v5 : Value} (h : PT w P A N c gs at_ d k0 k1 k2 k3 v4 v5 wr) :
    wr.cell? ⟨w.heap.size + 1 + 1 + 1, 0, none⟩ = some (.int .i64 k0) ∧ wr.cell? ⟨w.heap.size + 1 + 1 + 1, 1, none⟩ = some (.int .i64 k1) ∧ wr.cell? ⟨w.heap.size + 1 + 1 + 1, 2, none⟩ = some (.int .i64 k2) ∧ wr.cell? ⟨w.heap.size + 1 + 1 + 1, 3, none⟩ = some (.int .i64 k3) ∧ wr.cell? ⟨w.heap.size + 1 + 1 + 1, 4, none⟩ = some (v4) ∧ wr.cell? ⟨w.heap.size + 1 + 1 + 1, 5, none⟩ = some (v5) ∧ wr.cell? ⟨w.heap.size + 1 + 1 + 1, 6, none⟩ = some (.int .i64 0) ∧ wr.cell? ⟨w.heap.size + 1 + 1 + 1, 7, none⟩ = some (.int .i64 0) ∧ wr.cell? ⟨w.heap.size + 1 + 1 + 1, 8, none⟩ = some (.int .i64 0) ∧ wr.cell? ⟨w.heap.size + 1 + 1 + 1, 9, none⟩ = some (.int .i64 0) :=
  ⟨by show wr.cell? ⟨w.heap.size + 3, 0, none⟩ = _; rw [cell_of_row wr _ 0 _ _ (0, 0) h.bb]; rfl, by show wr.cell? ⟨w.heap.size + 3, 1, none⟩ = _; rw [cell_of_row wr _ 1 _ _ (0, 0) h.bb]; rfl, by show wr.cell? ⟨w.heap.size + 3, 2, none⟩ = _; rw [cell_of_row wr _ 2 _ _ (0, 0) h.bb]; rfl, by show wr.cell? ⟨w.heap.size + 3, 3, none⟩ = _; rw [cell_of_row wr _ 3 _ _ (0, 0) h.bb]; rfl, by show wr.cell? ⟨w.heap.size + 3, 4, none⟩ = _; rw [cell_of_row wr _ 4 _ _ (0, 0) h.bb]; rfl, by show wr.cell? ⟨w.heap.size + 3, 5, none⟩ = _; rw [cell_of_row wr _ 5 _ _ (0, 0) h.bb]; rfl, by show wr.cell? ⟨w.heap.size + 3, 6, none⟩ = _; rw [cell_of_row wr _ 6 _ _ (0, 0) h.bb]; rfl, by show wr.cell? ⟨w.heap.size + 3, 7, none⟩ = _; rw [cell_of_row wr _ 7 _ _ (0, 0) h.bb]; rfl, by show wr.cell? ⟨w.heap.size + 3, 8, none⟩ = _; rw [cell_of_row wr _ 8 _ _ (0, 0) h.bb]; rfl, by show wr.cell? ⟨w.heap.size + 3, 9, none⟩ = _; rw [cell_of_row wr _ 9 _ _ (0, 0) h.bb]; rfl⟩
theorem PT.box {w wr : World} {P N c at_ d : Nat} {A : Option Addr} {gs : List G4} {k0 k1 k2 k3 : Int} {v4 v5 : Value} (h : PT w P A N c gs at_ d k0 k1 k2 k3 v4 v5 wr) :
    wr.cell? ⟨w.heap.size + 1 + 1, 0, none⟩ = some (.int .i64 0) ∧ wr.cell? ⟨w.heap.size + 1 + 1, 1, none⟩ = some (.int .i64 0) ∧ wr.cell? ⟨w.heap.size + 1 + 1, 2, none⟩ = some (.int .i64 0) ∧ wr.cell? ⟨w.heap.size + 1 + 1, 3, none⟩ = some (.int .i64 0) ∧ wr.cell? ⟨w.heap.size + 1 + 1, 4, none⟩ = some (.slice none 0 0) ∧ wr.cell? ⟨w.heap.size + 1 + 1, 5, none⟩ = some (.slice none 0 0) ∧ wr.cell? ⟨w.heap.size + 1 + 1, 6, none⟩ = some (.int .i64 0) ∧ wr.cell? ⟨w.heap.size + 1 + 1, 7, none⟩ = some (.int .i64 0) ∧ wr.cell? ⟨w.heap.size + 1 + 1, 8, none⟩ = some (.int .i64 0) ∧ wr.cell? ⟨w.heap.size + 1 + 1, 9, none⟩ = some (.int .i64 0) :=
  ⟨by show wr.cell? ⟨w.heap.size + 2, 0, none⟩ = _; rw [cell_of_row wr _ 0 _ _ (0, 0) h.br]; rfl, by show wr.cell? ⟨w.heap.size + 2, 1, none⟩ = _; rw [cell_of_row wr _ 1 _ _ (0, 0) h.br]; rfl, by show wr.cell? ⟨w.heap.size + 2, 2, none⟩ = _; rw [cell_of_row wr _ 2 _ _ (0, 0) h.br]; rfl, by show wr.cell? ⟨w.heap.size + 2, 3, none⟩ = _; rw [cell_of_row wr _ 3 _ _ (0, 0) h.br]; rfl, by show wr.cell? ⟨w.heap.size + 2, 4, none⟩ = _; rw [cell_of_row wr _ 4 _ _ (0, 0) h.br]; rfl, by show wr.cell? ⟨w.heap.size + 2, 5, none⟩ = _; rw [cell_of_row wr _ 5 _ _ (0, 0) h.br]; rfl, by show wr.cell? ⟨w.heap.size + 2, 6, none⟩ = _; rw [cell_of_row wr _ 6 _ _ (0, 0) h.br]; rfl, by show wr.cell? ⟨w.heap.size + 2, 7, none⟩ = _; rw [cell_of_row wr _ 7 _ _ (0, 0) h.br]; rfl, by show wr.cell? ⟨w.heap.size + 2, 8, none⟩ = _; rw [cell_of_row wr _ 8 _ _ (0, 0) h.br]; rfl, by show wr.cell? ⟨w.heap.size + 2, 9, none⟩ = _; rw [cell_of_row wr _ 9 _ _ (0, 0) h.br]; rfl⟩
theorem PT.free {w wr : World} {P N c at_ d : Nat} {A : Option Addr} {gs : List G4} {k0 k1 k2 k3 : Int} {v4 v5 : Value} (h : PT w P A N c gs at_ d k0 k1 k2 k3 v4 v5 wr) :
    (∀ i, wr.frozen? ⟨w.heap.size + 1 + 1 + 1, i, none⟩ = false) ∧ ∀ i, wr.frozen? ⟨w.heap.size + 1 + 1, i, none⟩ = false :=
  ⟨fun i => frozen_of_row wr _ i _ _ h.bb, fun i => frozen_of_row wr _ i _ _ h.br⟩
theorem setRow_grown (w : World) (g : Nat) (cs : Array Value) : w.grownBy (w.setRow g cs) (some g) :=
  ⟨rfl, rfl, rfl, by simp, fun k _ hne => setRow_other w g k cs (fun e => hne (by rw [e]))⟩
theorem PT.finish {w wr : World} {P N c at_ d : Nat} {A : Option Addr} {gs : List G4} {k0 k1 k2 k3 : Int} {v4 v5 : Value} (h : PT w P A N c gs at_ d k0 k1 k2 k3 v4 v5 wr) (hA : ∀ b o, A = some ⟨b, o, none⟩ → 0 < N → b < w.heap.size) (q : Nat) (y0 y1 y2 y3 : Int) (W : World)
    (hW : (((((wr.drewN q).setCell ⟨w.heap.size + 1 + 1 + 1, 6, none⟩ (.int .i64 y0)).setCell ⟨w.heap.size + 1 + 1 + 1, 7, none⟩ (.int .i64 y1)).setCell ⟨w.heap.size + 1 + 1 + 1, 8, none⟩ (.int .i64 y2)).setCell ⟨w.heap.size + 1 + 1 + 1, 9, none⟩ (.int .i64 y3)) = W) :
    W.heap[w.heap.size + 1 + 1 + 1]? = some (.cells #[.int .i64 k0, .int .i64 k1, .int .i64 k2, .int .i64 k3, v4, v5, .int .i64 y0, .int .i64 y1, .int .i64 y2, .int .i64 y3] 69 (0, 0)) ∧
    W.heap[w.heap.size + 1 + 1]? = some (.cells #[.int .i64 0, .int .i64 0, .int .i64 0, .int .i64 0, .slice none 0 0, .slice none 0 0, .int .i64 0, .int .i64 0, .int .i64 0, .int .i64 0] 69 (0, 0)) ∧
    ∀ cs, (W.setRow (w.heap.size + 1 + 1) cs).cell? ⟨w.heap.size, 0, none⟩ = some (.pointer (some ⟨P, 0, none⟩)) ∧ PS P A N c gs at_ d (W.setRow (w.heap.size + 1 + 1) cs) ∧ w.grownBy (W.setRow (w.heap.size + 1 + 1) cs) (some P) ∧ (W.setRow (w.heap.size + 1 + 1) cs).heap[w.heap.size + 1 + 1]? = some (.cells cs 69 (0, 0)) := by
  have h1 := h.sz
  have h2 := h.Pl
  have hb : Below wr.heap.size wr (wr.drewN q) := below_drewN (Below.refl _ wr) q
  have hg0 : wr.grownBy (wr.drewN q) (some P) := ⟨hb.os, hb.tape, hb.output, hb.size, fun k hk _ => hb.block k hk⟩
  have hD := h.call hg0 (h.ps.below hb)
  generalize wr.drewN q = w0 at *
  have h3 := hD.sz
  have hg := grown_seq (grown_seq (grown_seq (set1_grown w0 (w.heap.size + 3) 6 (.int .i64 y0)) (set1_grown _ (w.heap.size + 3) 7 (.int .i64 y1))) (set1_grown _ (w.heap.size + 3) 8 (.int .i64 y2))) (set1_grown _ (w.heap.size + 3) 9 (.int .i64 y3))
  have hrow := heap_setCell_same _ _ 9 _ _ (.int .i64 y3) (heap_setCell_same _ _ 8 _ _ (.int .i64 y2) (heap_setCell_same _ _ 7 _ _ (.int .i64 y1) (heap_setCell_same w0 _ 6 _ _ (.int .i64 y0) hD.bb)))
  rw [show w.heap.size + 1 + 1 + 1 = w.heap.size + 3 from rfl] at hW ⊢
  rw [show w.heap.size + 1 + 1 = w.heap.size + 2 from rfl]
  rw [hW] at hg hrow
  have hbr : W.heap[w.heap.size + 2]? = _ := (hg.block _ (by omega) (by simp)).trans hD.br
  refine ⟨hrow, hbr, fun cs => ?_⟩
  have hs := hg.size
  have hg2 := setRow_grown W (w.heap.size + 2) cs
  have hps : PS P A N c gs at_ d W := hD.ps.grown0 hg (by simp; omega) (fun b o e h0 => by have := hA b o e h0; simp; omega)
  refine ⟨?_, hps.grown0 hg2 (by simp; omega) (fun b o e h0 => by have := hA b o e h0; simp; omega), grown_far (grown_far hD.gr hg (by simp)) hg2 (by simp), setRow_heap W _ _ cs _ _ hbr⟩
  rw [cell_setRow_other W _ cs _ (by simp), cell_of_row W _ 0 _ _ (0, 0) ((hg.block _ (by omega) (by simp)).trans hD.bp)]
  rfl
theorem infoK : (Try.prog.info? 69).map (·.size) = some 10 := by kernel_rfl
theorem resultsPart : Try.f35.results = #[.cell 4 69] := by kernel_rfl
set_option maxHeartbeats 4000000 in
theorem part_left (P : Nat) (A : Option Addr) (N c : Nat) (gs : List G4) (at_ : Nat) (g : G4) (w : World) (hps : PS P A N c gs at_ 3 w) (hat : at_ ≤ N) :
    Calls Try.prog 35 #[.pointer (some ⟨P, 0, none⟩), .agg #[.int .i64 g.1, .int .i64 g.2.1, .int .i64 g.2.2.1, .int .i64 g.2.2.2]] w (Left P A N c gs 3 w) := by
  have hmf : ∀ (fn : Fn) (first cap : Array Value) (w : World), (Instr.makeFunc fn first cap).run Try.prog w = .ok (.func fn first cap) w := fun _ _ _ _ => rfl
  obtain ⟨k0, k1, k2, k3⟩ := g
  have HPS := hide hps
  obtain ⟨c0, c1, c2, f1, f2⟩ := hps.cells
  have hPl := hps.lt
  have c2' : w.cell? ⟨P, 2, none⟩ = some (.int .i64 3) := by rw [c2]; rfl
  have q1 : P < w.heap.size + 1 := by omega
  have q2 : P < w.heap.size + 1 + 1 := by omega
  have q3 : P < w.heap.size + 1 + 1 + 1 := by omega
  clear hps c2
  go_enter_defers Try.func35, Try.ntmps35
  go_wp2_with fail
  have hb : ∀ w0 : World, Below w0.heap.size w0 (((w0.alloc (.cells #[.pointer (some ⟨P, 0, none⟩)] 53)).alloc (.cells #[.int .i64 k0, .int .i64 k1, .int .i64 k2, .int .i64 k3] 32)).alloc (.cells #[.int .i64 0, .int .i64 0, .int .i64 0, .int .i64 0, .slice none 0 0, .slice none 0 0, .int .i64 0, .int .i64 0, .int .i64 0, .int .i64 0] 69)) := by intro w0; go_grown
  refine ⟨rfl, ⟨at_, 4, hat, by omega, by omega, (HPS.out.setDeep 4).below (hb _)⟩, grown_seq (set1_grown w P 2 (.int .i64 4)) ⟨(hb _).os, (hb _).tape, (hb _).output, (hb _).size, fun k hk _ => (hb _).block k hk⟩⟩
set_option maxHeartbeats 4000000 in
theorem part_four {m : Nat} (hU : UC m) (P : Nat) (A : Option Addr) (N c : Nat) (gs : List G4) (at_ deep : Nat) (k1 k2 k3 : Int) (w : World) (hps : PS P A N c gs at_ deep w) (hN : N ≤ 100) (hat : at_ ≤ N) (h0 : 0 < at_) (hfu : N - at_ < m) (hm : m ≤ 900) (hd : deep < 3) :
    Calls Try.prog 35 #[.pointer (some ⟨P, 0, none⟩), .agg #[.int .i64 4, .int .i64 k1, .int .i64 k2, .int .i64 k3]] w (PPost P A N c gs at_ deep (pu m ((kindsOf gs).drop at_) 5 (deep + 1)) w) := by
  have hmf : ∀ (fn : Fn) (first cap : Array Value) (w : World), (Instr.makeFunc fn first cap).run Try.prog w = .ok (.func fn first cap) w := fun _ _ _ _ => rfl
  have HPS := hide hps
  have HA := hide (show ∀ b o, A = some ⟨b, o, none⟩ → 0 < N → b < w.heap.size from fun b o e hn => by obtain ⟨b', o', e', hl, _⟩ := hps.gr.at_ hn; rw [e] at e'; simp at e'; omega)
  obtain ⟨c0, c1, c2, f1, f2⟩ := hps.cells
  have hPl := hps.lt
  have q1 : P < w.heap.size + 1 := by omega
  have q2 : P < w.heap.size + 1 + 1 := by omega
  have q3 : P < w.heap.size + 1 + 1 + 1 := by omega
  have HU := hide hU
  clear hps hU
  go_enter_defers Try.func35, Try.ntmps35
  go_wp2_with fail
  refine calls_named fun W hW => ?_
  have hT : PT w P A N c gs at_ (deep + 1) 4 k1 k2 k3 (.slice none 0 0) (.slice none 0 0) W := by rw [← hW]; exact PT.start HPS.out (deep + 1)
  have HT := hide hT
  clear hT hW
  refine (HU.out P A N c gs at_ (deep + 1) 5 W HT.out.ps hN hat hfu hm (by omega) (by omega)).mono ?_
  rintro e w1 hp
  cases hr : pu m ((kindsOf gs).drop at_) 5 (deep + 1) with
  | none =>
    rw [hr] at hp
    obtain ⟨rfl, ⟨a, d, p1, p2, p3, p4⟩, hg⟩ := hp
    have HT1 := hide (HT.out.call hg p4)
    obtain ⟨d', rfl⟩ : ∃ d', d = d' + 1 := ⟨d - 1, by omega⟩
    refine leaves_cons (f := 37) (args := #[.pointer (some ⟨w.heap.size, 0, none⟩)]) (by simp) (by simp [go_sem]) ?_
    refine (part1_any w.heap.size P d' _ w1 HT1.out.cells.1 HT1.out.ps.cells.2.2.1 HT1.out.ps.cells.2.2.2.2 (by omega)).mono ?_
    rintro e u' w2 ⟨rfl, rfl, rfl⟩
    simp only [Leaves, settle, leftChain]
    exact ⟨rfl, ⟨a, d', p1, by omega, by omega, p4.setDeep d'⟩, grown_seq HT1.out.gr (set1_grown _ _ _ _)⟩
  | some l =>
    rw [hr] at hp
    obtain ⟨⟨A', n', c', rfl⟩, ⟨k, q1, q2, rfl, hps4⟩, hg4⟩ := hp
    have HT1 := hide (HT.out.call hg4 hps4)
    clear hg4 hps4 HT
    obtain ⟨z0, z4, z5, zf⟩ := HT1.out.cells
    have z4' : w1.cell? ⟨w.heap.size + 1 + 1 + 1, 4, none⟩ = some (.slice none 0 0) := z4
    have zf4 : w1.frozen? ⟨w.heap.size + 1 + 1 + 1, 4, none⟩ = false := zf 4
    clear z4 z5 zf
    go_wp2_with fail
    refine wp_named fun W2 hW2 => ?_
    have hT2 := HT1.out.set4 HA.out (.slice A' n' c')
    obtain ⟨j, rfl⟩ : ∃ j, k = j + 1 := ⟨k - 1, by omega⟩
    have HT2 : Hid (PT w P A N c gs (j + 1) (deep + 1) 4 k1 k2 k3 (.slice A' n' c') (.slice none 0 0) W2) := by rw [← hW2]; exact hide hT2
    clear hT2 hW2 HT1 z0 z4' zf4
    obtain ⟨z0, _, _, zf⟩ := HT2.out.cells
    obtain ⟨c0, c1, c2, f1, f2⟩ := HT2.out.ps.cells
    obtain ⟨b, o, rfl, hbl, hcc⟩ := HT2.out.ps.gr.at_ (by omega)
    obtain ⟨⟨y0, y1, y2, y3⟩, hg⟩ : ∃ g, gth gs j = g := ⟨_, rfl⟩
    have hG := hcc j (by omega)
    rw [hg] at hG
    obtain ⟨r0, r1, r2, r3⟩ := hG
    have hjl : (j : Int) < (N : Int) := by omega
    clear hcc hg
    refine wp_region_drew_tail 12 (by kernel_rfl) (by kernel_rfl) ?_
    simp only [List.take_succ_cons, List.take_zero, List.drop_succ_cons, List.drop_zero]
    repeat (go_big_quiet_step ((fail)))
    refine wpQuiet_nil ?_
    intro wd hwd
    obtain ⟨q, hq⟩ := hwd
    subst hq
    obtain ⟨d0, d1, d2, d3, d4, d5, d6, d7, d8, d9⟩ := HT2.out.row
    obtain ⟨fz, fb⟩ := HT2.out.free
    have fz6 := fz 6
    have fz7 := fz 7
    have fz8 := fz 8
    have fz9 := fz 9
    clear zf fz fb z0 c0 c1 c2 r0 r1 r2 r3 f1 f2
    go_upto_region 11 with fail
    refine wp_named fun W3 hW3 => ?_
    obtain ⟨e1, e2, e3⟩ := HT2.out.finish HA.out q y0 y1 y2 y3 W3 hW3
    have HE3 := hide e3
    have HPl := hide HT2.out.Pl
    clear hW3 HT2 d0 d1 d2 d3 d4 d5 d6 d7 d8 d9 fz6 fz7 fz8 fz9 e3
    go_wp2_with (first | refine wpList_load_row rfl _ _ rfl _ rfl _ _ _ _ e1 Try.underlying69 rfl infoK ?_ | refine wpList_store_row rfl _ _ _ rfl _ _ rfl rfl _ _ e2 infoK (by kernel_rfl) (by simp [Value.oneCell']) ?_)
    obtain ⟨x1, x2, x3, x4⟩ := HE3.out #[.int .i64 4, .int .i64 k1, .int .i64 k2, .int .i64 k3, .slice A' n' c', .slice none 0 0, .int .i64 y0, .int .i64 y1, .int .i64 y2, .int .i64 y3]
    generalize W3.setRow _ _ = W4 at *
    refine leaves_cons (f := 37) (args := #[.pointer (some ⟨w.heap.size, 0, none⟩)]) (by simp) (by simp [go_sem]) ?_
    refine (part1_any w.heap.size P deep _ W4 x1 x2.cells.2.2.1 x2.cells.2.2.2.2 (by omega)).mono ?_
    rintro e u' w2 ⟨rfl, rfl, rfl⟩
    refine ⟨_, results_cell_row resultsPart _ _ (w.heap.size + 1 + 1) 69 _ (0, 0) _ rfl ((heap_setCell_other _ _ _ _ (by simp; have := HPl.out; omega)).trans x4) Try.underlying69 rfl infoK, ?_⟩
    rw [hr]
    exact ⟨⟨_, _, _, _, _, _, _, _, _, _, rfl, by intro u hu; simp only [List.mem_cons, List.not_mem_nil, or_false] at hu; rcases hu with rfl | rfl | rfl | rfl | rfl | rfl | rfl | rfl | rfl | rfl <;> rfl⟩, ⟨j + 1, q1, q2, rfl, x2.setDeep deep⟩, grown_seq x3 (set1_grown _ _ _ _)⟩
set_option maxHeartbeats 4000000 in
theorem part_six {m : Nat} (hU : UC m) (P : Nat) (A : Option Addr) (N c : Nat) (gs : List G4) (at_ deep : Nat) (k1 k2 k3 : Int) (w : World) (hps : PS P A N c gs at_ deep w) (hN : N ≤ 100) (hat : at_ ≤ N) (h0 : 0 < at_) (hfu : N - at_ < m) (hm : m ≤ 900) (hd : deep < 3) :
    Calls Try.prog 35 #[.pointer (some ⟨P, 0, none⟩), .agg #[.int .i64 6, .int .i64 k1, .int .i64 k2, .int .i64 k3]] w (PPost P A N c gs at_ deep ((pu m ((kindsOf gs).drop at_) 7 (deep + 1)).bind fun r => pu m r 8 (deep + 1)) w) := by
  have hmf : ∀ (fn : Fn) (first cap : Array Value) (w : World), (Instr.makeFunc fn first cap).run Try.prog w = .ok (.func fn first cap) w := fun _ _ _ _ => rfl
  have HPS := hide hps
  have HA := hide (show ∀ b o, A = some ⟨b, o, none⟩ → 0 < N → b < w.heap.size from fun b o e hn => by obtain ⟨b', o', e', hl, _⟩ := hps.gr.at_ hn; rw [e] at e'; simp at e'; omega)
  obtain ⟨c0, c1, c2, f1, f2⟩ := hps.cells
  have hPl := hps.lt
  have q1 : P < w.heap.size + 1 := by omega
  have q2 : P < w.heap.size + 1 + 1 := by omega
  have q3 : P < w.heap.size + 1 + 1 + 1 := by omega
  have HU := hide hU
  clear hps hU
  go_enter_defers Try.func35, Try.ntmps35
  go_wp2_with fail
  refine calls_named fun W hW => ?_
  have hT : PT w P A N c gs at_ (deep + 1) 6 k1 k2 k3 (.slice none 0 0) (.slice none 0 0) W := by rw [← hW]; exact PT.start HPS.out (deep + 1)
  have HT := hide hT
  clear hT hW
  refine (HU.out P A N c gs at_ (deep + 1) 7 W HT.out.ps hN hat hfu hm (by omega) (by omega)).mono ?_
  rintro e w1 hp
  cases hr : pu m ((kindsOf gs).drop at_) 7 (deep + 1) with
  | none =>
    rw [hr] at hp
    obtain ⟨rfl, ⟨a, d, p1, p2, p3, p4⟩, hg⟩ := hp
    have HT1 := hide (HT.out.call hg p4)
    obtain ⟨d', rfl⟩ : ∃ d', d = d' + 1 := ⟨d - 1, by omega⟩
    refine leaves_cons (f := 37) (args := #[.pointer (some ⟨w.heap.size, 0, none⟩)]) (by simp) (by simp [go_sem]) ?_
    refine (part1_any w.heap.size P d' _ w1 HT1.out.cells.1 HT1.out.ps.cells.2.2.1 HT1.out.ps.cells.2.2.2.2 (by omega)).mono ?_
    rintro e u' w2 ⟨rfl, rfl, rfl⟩
    simp only [Leaves, settle, leftChain]
    rw [hr]
    exact ⟨rfl, ⟨a, d', p1, by omega, by omega, p4.setDeep d'⟩, grown_seq HT1.out.gr (set1_grown _ _ _ _)⟩
  | some l =>
    rw [hr] at hp
    obtain ⟨⟨A', n', c', rfl⟩, ⟨k, q1, q2, rfl, hps4⟩, hg4⟩ := hp
    have HT1 := hide (HT.out.call hg4 hps4)
    clear hg4 hps4 HT
    obtain ⟨z0, z4, z5, zf⟩ := HT1.out.cells
    have z4' : w1.cell? ⟨w.heap.size + 1 + 1 + 1, 4, none⟩ = some (.slice none 0 0) := z4
    have zf4 : w1.frozen? ⟨w.heap.size + 1 + 1 + 1, 4, none⟩ = false := zf 4
    clear z4 z5 zf
    go_wp2_with fail
    refine calls_named fun W5 hW5 => ?_
    have hT5 := HT1.out.set4 HA.out (.slice A' n' c')
    have HT5 : Hid (PT w P A N c gs k (deep + 1) 6 k1 k2 k3 (.slice A' n' c') (.slice none 0 0) W5) := by rw [← hW5]; exact hide hT5
    clear hT5 hW5 HT1 z0 z4' zf4
    refine (HU.out P A N c gs k (deep + 1) 8 W5 HT5.out.ps hN (by omega) (by omega) hm (by omega) (by omega)).mono ?_
    rintro e w6 hp
    cases hr6 : pu m ((kindsOf gs).drop k) 8 (deep + 1) with
    | none =>
      rw [hr6] at hp
      obtain ⟨rfl, ⟨a, d, p1, p2, p3, p4⟩, hg⟩ := hp
      have HT1 := hide (HT5.out.call hg p4)
      obtain ⟨d', rfl⟩ : ∃ d', d = d' + 1 := ⟨d - 1, by omega⟩
      refine leaves_cons (f := 37) (args := #[.pointer (some ⟨w.heap.size, 0, none⟩)]) (by simp) (by simp [go_sem]) ?_
      refine (part1_any w.heap.size P d' _ w6 HT1.out.cells.1 HT1.out.ps.cells.2.2.1 HT1.out.ps.cells.2.2.2.2 (by omega)).mono ?_
      rintro e u' w2 ⟨rfl, rfl, rfl⟩
      simp only [Leaves, settle, leftChain]
      have hr7 : ((some ((kindsOf gs).drop k)).bind fun r => pu m r 8 (deep + 1)) = none := hr6
      rw [hr, hr7]
      exact ⟨rfl, ⟨a, d', p1, by omega, by omega, p4.setDeep d'⟩, grown_seq HT1.out.gr (set1_grown _ _ _ _)⟩
    | some l6 =>
      rw [hr6] at hp
      obtain ⟨⟨A6, n6, c6, rfl⟩, ⟨k6, q3, q4, rfl, hps4⟩, hg4⟩ := hp
      have HT1 := hide (HT5.out.call hg4 hps4)
      have HR := Lib.hid (show ((pu m ((kindsOf gs).drop at_) 7 (deep + 1)).bind fun r => pu m r 8 (deep + 1)) = some ((kindsOf gs).drop k6) by rw [hr]; exact hr6)
      clear hg4 hps4 HT5
      obtain ⟨z0, z4, z5, zf⟩ := HT1.out.cells
      have z5' : w6.cell? ⟨w.heap.size + 1 + 1 + 1, 5, none⟩ = some (.slice none 0 0) := z5
      have zf5 : w6.frozen? ⟨w.heap.size + 1 + 1 + 1, 5, none⟩ = false := zf 5
      have q5 : at_ < k6 := by omega
      clear z4 z5 zf hr hr6
      go_wp2_with fail
      refine wp_named fun W2 hW2 => ?_
      have hT2 := HT1.out.set5 HA.out (.slice A6 n6 c6)
      obtain ⟨j, rfl⟩ : ∃ j, k6 = j + 1 := ⟨k6 - 1, by omega⟩
      have HT2 : Hid (PT w P A N c gs (j + 1) (deep + 1) 6 k1 k2 k3 (.slice A' n' c') (.slice A6 n6 c6) W2) := by rw [← hW2]; exact hide hT2
      clear hT2 hW2 HT1 z0 z5' zf5
      obtain ⟨z0, _, _, zf⟩ := HT2.out.cells
      obtain ⟨c0, c1, c2, f1, f2⟩ := HT2.out.ps.cells
      obtain ⟨b, o, rfl, hbl, hcc⟩ := HT2.out.ps.gr.at_ (by omega)
      obtain ⟨⟨y0, y1, y2, y3⟩, hg⟩ : ∃ g, gth gs j = g := ⟨_, rfl⟩
      have hG := hcc j (by omega)
      rw [hg] at hG
      obtain ⟨r0, r1, r2, r3⟩ := hG
      have hjl : (j : Int) < (N : Int) := by omega
      clear hcc hg
      refine wp_region_drew_tail 12 (by kernel_rfl) (by kernel_rfl) ?_
      simp only [List.take_succ_cons, List.take_zero, List.drop_succ_cons, List.drop_zero]
      repeat (go_big_quiet_step ((fail)))
      refine wpQuiet_nil ?_
      intro wd hwd
      obtain ⟨q, hq⟩ := hwd
      subst hq
      obtain ⟨d0, d1, d2, d3, d4, d5, d6, d7, d8, d9⟩ := HT2.out.row
      obtain ⟨fz, fb⟩ := HT2.out.free
      have fz6 := fz 6
      have fz7 := fz 7
      have fz8 := fz 8
      have fz9 := fz 9
      clear zf fz fb z0 c0 c1 c2 r0 r1 r2 r3 f1 f2
      go_upto_region 11 with fail
      refine wp_named fun W3 hW3 => ?_
      obtain ⟨e1, e2, e3⟩ := HT2.out.finish HA.out q y0 y1 y2 y3 W3 hW3
      have HE3 := hide e3
      have HPl := hide HT2.out.Pl
      clear hW3 HT2 d0 d1 d2 d3 d4 d5 d6 d7 d8 d9 fz6 fz7 fz8 fz9 e3
      go_wp2_with (first | refine wpList_load_row rfl _ _ rfl _ rfl _ _ _ _ e1 Try.underlying69 rfl infoK ?_ | refine wpList_store_row rfl _ _ _ rfl _ _ rfl rfl _ _ e2 infoK (by kernel_rfl) (by simp [Value.oneCell']) ?_)
      obtain ⟨x1, x2, x3, x4⟩ := HE3.out #[.int .i64 6, .int .i64 k1, .int .i64 k2, .int .i64 k3, .slice A' n' c', .slice A6 n6 c6, .int .i64 y0, .int .i64 y1, .int .i64 y2, .int .i64 y3]
      generalize W3.setRow _ _ = W4 at *
      refine leaves_cons (f := 37) (args := #[.pointer (some ⟨w.heap.size, 0, none⟩)]) (by simp) (by simp [go_sem]) ?_
      refine (part1_any w.heap.size P deep _ W4 x1 x2.cells.2.2.1 x2.cells.2.2.2.2 (by omega)).mono ?_
      rintro e u' w2 ⟨rfl, rfl, rfl⟩
      refine ⟨_, results_cell_row resultsPart _ _ (w.heap.size + 1 + 1) 69 _ (0, 0) _ rfl ((heap_setCell_other _ _ _ _ (by simp; have := HPl.out; omega)).trans x4) Try.underlying69 rfl infoK, ?_⟩
      rw [HR.out]
      exact ⟨⟨_, _, _, _, _, _, _, _, _, _, rfl, by intro u hu; simp only [List.mem_cons, List.not_mem_nil, or_false] at hu; rcases hu with rfl | rfl | rfl | rfl | rfl | rfl | rfl | rfl | rfl | rfl <;> rfl⟩, ⟨j + 1, q3, q5, rfl, x2.setDeep deep⟩, grown_seq x3 (set1_grown _ _ _ _)⟩

/-- part, by the contract of until -/
theorem part_of {m : Nat} (hU : UC m) : PC m := by
  intro P A N c gs at_ deep g w hps hN hat h0 hfu hm hd hk
  obtain ⟨k0, k1, k2, k3⟩ := g
  unfold pp
  by_cases h3 : 3 ≤ deep
  · obtain rfl : deep = 3 := by omega
    rw [if_pos (by omega)]
    exact part_left P A N c gs at_ (k0, k1, k2, k3) w hps hat
  · rw [if_neg h3]
    rcases hk with rfl | rfl
    · rw [if_pos rfl]
      exact part_four hU P A N c gs at_ deep k1 k2 k3 w hps hN hat h0 hfu hm (by omega)
    · rw [if_neg (show ¬ (6 : Int) = 4 by decide)]
      exact part_six hU P A N c gs at_ deep k1 k2 k3 w hps hN hat h0 hfu hm (by omega)
/-- both, at any fuel -/
theorem until_any (n : Nat) : UC n := by
  induction n using Nat.strongRecOn with
  | ind n ih => exact until_of n fun m hm => part_of (ih m hm)
end Go.Proofs.Ytacdagdhkmcbiaa
