/-
  Formulas: lists of steps in memory; handed over and compared.
  No condition.
-/
import Derived.Test.YtpklpebngholcaaWord
namespace Go.Proofs.Ytpklpebngholcaa
open Go.RowKit Go.Sort base
theorem calls_named {P : Program} {f : FuncId} {args : Array Value} {W : World} {Q : Ending → World → Prop} (h : ∀ wr, W = wr → Calls P f args wr Q) : Calls P f args W Q := h _ rfl
theorem post_named {P : Program} {f : Func} {Q : Ending → World → Prop} {x : Exit} {a : Act} {W : World} (h : ∀ wr, W = wr → bodyPost P f Q x a wr) : bodyPost P f Q x a W := h _ rfl
abbrev S3 := Int × Int × Int
def sth (fs : List S3) (i : Nat) : S3 := fs.getD i (0, 0, 0)
theorem sth_lt {fs : List S3} {k : Nat} (h : k < fs.length) : sth fs k = fs[k] := by simp [sth, h]
theorem take_succ_sth {fs : List S3} {k : Nat} (h : k < fs.length) : fs.take (k + 1) = fs.take k ++ [sth fs k] := by
  rw [List.take_succ_eq_append_getElem h, sth_lt h]
theorem sth_mem {fs : List S3} {k : Nat} (h : k < fs.length) : sth fs k ∈ fs := by rw [sth_lt h]; exact List.getElem_mem h
/-- a step that lies at a place of a block -/
def SAt (w : World) (b q : Nat) (s : S3) : Prop :=
  w.cell? ⟨b, q, none⟩ = some (.int .i64 s.1) ∧ w.cell? ⟨b, q + 1, none⟩ = some (.int .i64 s.2.1) ∧ w.cell? ⟨b, q + 2, none⟩ = some (.int .i64 s.2.2)
/-- A slice '.slice A n c' reads as the steps fs: nil, empty or not. -/
structure SR (w : World) (A : Option Addr) (n : Nat) (fs : List S3) : Prop where
  len : fs.length = n
  max : n ≤ 9223372036854775807
  at_ : 0 < n → ∃ b o, A = some ⟨b, o, none⟩ ∧ b < w.heap.size ∧ ∀ i, i < n → SAt w b (o + i * 3) (sth fs i)
theorem SR.keep {w w' : World} {A : Option Addr} {n : Nat} {fs : List S3} (h : SR w A n fs) (hs : w.heap.size ≤ w'.heap.size) (hk : ∀ p : Addr, p.block < w.heap.size → w'.cell? p = w.cell? p) : SR w' A n fs :=
  ⟨h.len, h.max, fun hn => by
    obtain ⟨b, o, e, hb, hc⟩ := h.at_ hn
    exact ⟨b, o, e, by omega, fun i hi => ⟨(hk _ hb).trans (hc i hi).1, (hk _ hb).trans (hc i hi).2.1, (hk _ hb).trans (hc i hi).2.2⟩⟩⟩
theorem SR.below {w w' : World} {A : Option Addr} {n : Nat} {fs : List S3} (h : SR w A n fs) (hb : Below w.heap.size w w') : SR w' A n fs := h.keep hb.size fun _ hp => hb.cell hp
theorem step_info : (Try.prog.info? 44).map (fun i => (i.zero, i.size, i.bytes)) = some (some (.agg #[.int .i64 0, .int .i64 0, .int .i64 0]), 3, 24) := by kernel_rfl
theorem laid_set {w : World} {g : Nat} {cur : Array Value} {t : TypeId} (h : w.heap[g]? = some (.cells cur t (0, 0))) (i : Nat) (v : Value) : (w.setCell ⟨g, i, none⟩ v).heap[g]? = some (.cells (cur.setIfInBounds i v) t (0, 0)) := heap_setCell_same w g i _ _ _ h
theorem laid_cell {w : World} {g : Nat} {cur : Array Value} {t : TypeId} (h : w.heap[g]? = some (.cells cur t (0, 0))) {i : Nat} (hi : i < cur.size) : ∃ v, w.cell? ⟨g, i, none⟩ = some v := ⟨cur[i], by rw [cell_of_row w g i cur t (0, 0) h]; simp [hi]⟩
/-- the steps that lie in a block, the first j of them known -/
def LaidS (w : World) (g n : Nat) (fs : List S3) (j : Nat) : Prop := (∃ cur, w.heap[g]? = some (.cells cur 44 (0, 0)) ∧ cur.size = 3 * n) ∧ ∀ i, i < j → SAt w g (i * 3) (sth fs i)
theorem SAt.put {w : World} {g q : Nat} {x0 x1 x2 : Value} (c0 : w.cell? ⟨g, q, none⟩ = some x0) (c1 : w.cell? ⟨g, q + 1, none⟩ = some x1) (c2 : w.cell? ⟨g, q + 2, none⟩ = some x2) (k a b : Int) :
    SAt (((w.setCell ⟨g, q, none⟩ (.int .i64 k)).setCell ⟨g, q + 1, none⟩ (.int .i64 a)).setCell ⟨g, q + 2, none⟩ (.int .i64 b)) g q (k, a, b) := by
  refine ⟨?_, ?_, ?_⟩
  · rw [World.cell?_setCell_other _ _ _ _ (by simp), World.cell?_setCell_other _ _ _ _ (by simp)]
    exact World.cell?_setCell_same _ _ _ c0
  · rw [World.cell?_setCell_other _ _ _ _ (by simp)]
    exact World.cell?_setCell_same _ _ _ (by rw [World.cell?_setCell_other _ _ _ _ (by simp)]; exact c1)
  · exact World.cell?_setCell_same _ _ _ (by rw [World.cell?_setCell_other _ _ _ _ (by simp), World.cell?_setCell_other _ _ _ _ (by simp)]; exact c2)
theorem SAt.far {w : World} {g q q' : Nat} {s : S3} {v : Value} (h : SAt w g q s) (hq : q' < q ∨ q + 3 ≤ q') : SAt (w.setCell ⟨g, q', none⟩ v) g q s := by
  obtain ⟨h0, h1, h2⟩ := h
  refine ⟨?_, ?_, ?_⟩ <;> (rw [World.cell?_setCell_other _ _ _ _ (by simp; try omega)]; assumption)
theorem LaidS.put {w : World} {g n j : Nat} {fs : List S3} {k a b : Int} (h : LaidS w g n fs j) (hj : j < n) (hg : sth fs j = (k, a, b)) :
    LaidS (((w.setCell ⟨g, j * 3, none⟩ (.int .i64 k)).setCell ⟨g, j * 3 + 1, none⟩ (.int .i64 a)).setCell ⟨g, j * 3 + 2, none⟩ (.int .i64 b)) g n fs (j + 1) := by
  obtain ⟨⟨cur, hc, hs⟩, hi⟩ := h
  refine ⟨⟨_, laid_set (laid_set (laid_set hc _ _) _ _) _ _, by simpa using hs⟩, fun i hij => ?_⟩
  by_cases e : i = j
  · subst e
    rw [hg]
    obtain ⟨x0, c0⟩ := laid_cell hc (i := i * 3) (by omega)
    obtain ⟨x1, c1⟩ := laid_cell hc (i := i * 3 + 1) (by omega)
    obtain ⟨x2, c2⟩ := laid_cell hc (i := i * 3 + 2) (by omega)
    exact SAt.put c0 c1 c2 k a b
  · have := hi i (by omega)
    exact ((this.far (by omega)).far (by omega)).far (by omega)
theorem LaidS.below {w w' : World} {g n j : Nat} {fs : List S3} (h : LaidS w g n fs j) (hb : Below w.heap.size w w') : LaidS w' g n fs j := by
  obtain ⟨⟨cur, hc, hs⟩, hi⟩ := h
  have hlt : g < w.heap.size := (Array.getElem?_eq_some_iff.1 hc).1
  refine ⟨⟨cur, (hb.block g hlt).trans hc, hs⟩, fun i hij => ?_⟩
  obtain ⟨h0, h1, h2⟩ := hi i hij
  exact ⟨(hb.cell (p := ⟨g, _, none⟩) hlt).trans h0, (hb.cell (p := ⟨g, _, none⟩) hlt).trans h1, (hb.cell (p := ⟨g, _, none⟩) hlt).trans h2⟩
theorem LaidS.sr {w : World} {g n : Nat} {fs : List S3} (h : LaidS w g n fs n) (hl : fs.length = n) (hn : n ≤ 4194304) : SR w (some ⟨g, 0, none⟩) n fs := by
  obtain ⟨⟨cur, hc, hs⟩, hi⟩ := h
  refine ⟨hl, by omega, fun _ => ⟨g, 0, rfl, (Array.getElem?_eq_some_iff.1 hc).1, fun i hi' => ?_⟩⟩
  rw [Nat.zero_add]
  exact hi i hi'
theorem LaidS.frozen {w : World} {g n j : Nat} {fs : List S3} (h : LaidS w g n fs j) (i : Nat) : w.frozen? ⟨g, i, none⟩ = false := by
  obtain ⟨⟨cur, hc, hs⟩, hi⟩ := h
  exact frozen_of_row w g i cur _ hc
set_option maxHeartbeats 400000 in
theorem szStepS_any (A : Option Addr) (n c : Nat) (left : Int) (w : World) (hl : 0 ≤ left ∧ left ≤ 1048576) (hn : n ≤ 9223372036854775807) :
    Calls Try.prog 7 #[.slice A n c, .int .i64 left] w fun e w' => e = .returned (.int .i64 (if left < n then -1 else left - n)) ∧ w = w' := by
  obtain ⟨h1, h2⟩ := hl
  by_cases h : left < n
  · have h' : left - (n : Int) < 0 := by omega
    go_enter Try.func7, Try.ntmps7
    go_wp2_with fail
    go_ret
    exact ⟨rfl, rfl⟩
  · have h' : ¬ left - (n : Int) < 0 := by omega
    have h'' : n ≤ 1048576 := by omega
    go_enter Try.func7, Try.ntmps7
    go_wp2_with fail
    go_ret
    exact ⟨rfl, rfl⟩
set_option maxHeartbeats 400000 in
theorem toStep_any (k a b : Int) (w : World) :
    Calls Try.prog 24 #[.agg #[.int .i64 k, .int .i64 a, .int .i64 b]] w fun e w' => e = .returned (.agg #[.int .i64 k, .int .i64 a, .int .i64 b]) ∧ Below w.heap.size w w' := by
  go_enter Try.func24, Try.ntmps24
  go_wp2_with fail
  refine post_named fun w1 hw1 => ?_
  have d0 : w1.cell? ⟨w.heap.size + 1, 0, none⟩ = some (.int .i64 k) := by rw [← hw1]; exact cell_old (cell_at rfl (by simp))
  have d1 : w1.cell? ⟨w.heap.size + 1, 1, none⟩ = some (.int .i64 a) := by rw [← hw1]; exact cell_old (cell_at rfl (by simp))
  have d2 : w1.cell? ⟨w.heap.size + 1, 2, none⟩ = some (.int .i64 b) := by rw [← hw1]; exact cell_old (cell_at rfl (by simp))
  have hb : Below w.heap.size w w1 := by rw [← hw1]; go_grown
  clear hw1
  refine bodyPost_ret (v := .agg #[.int .i64 k, .int .i64 a, .int .i64 b]) (by simp [results, Try.results24, go_sem, d0, d1, d2]) rfl ⟨rfl, hb⟩
set_option maxHeartbeats 4000000 in
theorem toStepS_any (A : Option Addr) (n c : Nat) (fs : List S3) (w : World) (h : SR w A n fs) (hn : n ≤ 1048576) :
    Calls Try.prog 9 #[.slice A n c] w fun e w' => (∃ g, e = .returned (.slice (some ⟨g, 0, none⟩) n n) ∧ w.heap.size ≤ g ∧ LaidS w' g n fs n) ∧ Below w.heap.size w w' := by
  obtain ⟨i0, hi, hz0, hz1, hz2⟩ := info_parts step_info
  have HR0 := hide h
  have HLen := Lib.hid h.len
  clear h
  go_enter Try.func9, Try.ntmps9
  go_wp2_with (at_make; refine wpList_make_full _ rfl _ _ 25 rfl w.heap.size 44 i0 _ 3 Try.underlying25 hi hz0 hz1 _ _ _ _ n rfl rfl rfl rfl (by rw [hz2]; omega) (by unfold maxLen; omega) (Nat.le_refl _) ?_; intro w1 hown hgrow)
  have hb1 : Below w.heap.size w w1 := (Below.refl _ _).grown hgrow (Nat.le_refl _) (by simp)
  have HLd : Hid (LaidS w1 w.heap.size n fs 0) := by
    rcases hown.2 with ⟨h1, _⟩ | ⟨g', cap, cur, h1, hb, hg, hn', hm, hs, ht⟩
    · cases h1
    · simp only [Value.slice.injEq, Option.some.injEq, Addr.mk.injEq, and_true, true_and] at h1
      obtain ⟨rfl, rfl⟩ := h1
      exact ⟨⟨cur, hg, by rw [hs]; omega⟩, fun i hi => absurd hi (by omega)⟩
  have HB1 := hide hb1
  have HS1 := hide hb1.size
  clear hgrow hi hz0 hz1 hz2 hown hb1
  go_wp2_with fail
  go_loopw [4] (fun iv wr => ∃ j : Nat, j ≤ n ∧ iv = .int .i64 j ∧ Hid (LaidS wr w.heap.size n fs j) ∧ Hid (Below w.heap.size w wr)) (fun iv _ => n - (intOf iv).toNat)
  case atStart => exact ⟨0, by omega, rfl, HLd.out, HB1.out⟩
  case round =>
    obtain ⟨j, hj, rfl, HL, HB⟩ := hrel
    have HR := hide (HR0.out.below HB.out)
    by_cases hlt : j < n
    · obtain ⟨b, o, rfl, hbl, hcc⟩ := HR.out.at_ (by omega)
      obtain ⟨⟨k, a, b'⟩, hg⟩ : ∃ s, sth fs j = s := ⟨_, rfl⟩
      have HG := Lib.hid hg
      obtain ⟨g0, g1, g2⟩ := hcc j hlt
      rw [hg] at g0 g1 g2
      simp only at g0 g1 g2
      clear hcc hg
      go_wp2_with fail
      refine (toStep_any k a b' _).mono ?_
      rintro e w2 ⟨rfl, hb2⟩
      have HL2 := hide (HL.out.below hb2)
      have HB2 := hide (bseq HB.out hb2)
      have hs2 := HB2.out.size
      clear hb2 g0 g1 g2
      obtain ⟨⟨cur, hc, hs⟩, _⟩ := HL2.out
      obtain ⟨x0, c0⟩ := laid_cell hc (i := j * 3) (by omega)
      obtain ⟨x1, c1⟩ := laid_cell hc (i := j * 3 + 1) (by omega)
      obtain ⟨x2, c2⟩ := laid_cell hc (i := j * 3 + 2) (by omega)
      have f0 := fun i => HL2.out.frozen i
      clear hc hs
      go_wp2_with fail
      go_roundw
      case rel =>
        refine ⟨j + 1, by omega, by go_num, HL2.out.put hlt HG.out, ?_⟩
        exact ((HB2.out.setCell (Nat.le_refl _) _).setCell (Nat.le_refl _) _).setCell (Nat.le_refl _) _
      case measure => simp [intOf]; omega
    · obtain rfl : j = n := by omega
      go_wp2_with fail
      go_ret
      exact ⟨⟨_, rfl, Nat.le_refl _, HL.out⟩, HB.out⟩
set_option maxHeartbeats 400000 in
theorem eqStep_same (k a b : Int) (w : World) :
    Calls Try.prog 27 #[.agg #[.int .i64 k, .int .i64 a, .int .i64 b], .agg #[.int .i64 k, .int .i64 a, .int .i64 b]] w fun e w' => e = .returned (.bool true) ∧ Below w.heap.size w w' := by
  have e0 : (k != k) = false := by simp
  have e1 : (a != a) = false := by simp
  have e2 : (b != b) = false := by simp
  go_enter Try.func27, Try.ntmps27
  go_wp2_with fail
  go_ret
  exact ⟨rfl, by go_grown⟩
set_option maxHeartbeats 4000000 in
theorem eqStepS_same (A B : Option Addr) (n c d : Nat) (fs : List S3) (w : World) (hx : SR w A n fs) (hy : SR w B n fs) :
    Calls Try.prog 11 #[.slice A n c, .slice B n d] w fun e w' => e = .returned (.bool true) ∧ Below w.heap.size w w' := by
  have HX0 := hide hx
  have HY0 := hide hy
  have hmax := hx.max
  have hnn : ((n : Int) != (n : Int)) = false := by simp
  clear hx hy
  go_enter Try.func11, Try.ntmps11
  go_wp2_with fail
  go_loopw [5] (fun iv wr => ∃ j : Nat, j ≤ n ∧ iv = .int .i64 j ∧ Hid (Below w.heap.size w wr)) (fun iv _ => n - (intOf iv).toNat)
  case atStart => exact ⟨0, by omega, rfl, Below.refl _ _⟩
  case round =>
    obtain ⟨j, hj, rfl, HB⟩ := hrel
    have HX := hide (HX0.out.below HB.out)
    have HY := hide (HY0.out.below HB.out)
    by_cases hlt : j < n
    · obtain ⟨b, o, rfl, hbl, hcc⟩ := HX.out.at_ (by omega)
      obtain ⟨b', o', rfl, hbl', hcc'⟩ := HY.out.at_ (by omega)
      obtain ⟨⟨k, a, b2⟩, hg⟩ : ∃ s, sth fs j = s := ⟨_, rfl⟩
      obtain ⟨g0, g1, g2⟩ := hcc j hlt
      obtain ⟨q0, q1, q2⟩ := hcc' j hlt
      rw [hg] at g0 g1 g2 q0 q1 q2
      simp only at g0 g1 g2 q0 q1 q2
      clear hcc hcc' hg
      have k0 := cell_regrown g0
      have k1 := cell_regrown g1
      have k2 := cell_regrown g2
      have l0 := cell_regrown q0
      have l1 := cell_regrown q1
      have l2 := cell_regrown q2
      clear g0 g1 g2 q0 q1 q2
      go_wp2_with fail
      refine wp_region_below (by kernel_rfl) (by kernel_rfl) ?_
      repeat (go_big_quiet_step ((go_at_call 27; exact below_of rfl (fun W => eqStep_same _ _ _ W))))
      refine wpQuiet_nil ?_
      intro p
      obtain ⟨w3, hw3⟩ : ∃ w3, grow (redrawn wr p.d) p.os = w3 := ⟨_, rfl⟩
      have hb3 : Below wr.heap.size wr w3 := by rw [← hw3]; exact below_regrown wr p.d p.os
      rw [hw3]
      have HB3 := hide (bseq HB.out hb3)
      clear hw3 hb3 k0 k1 k2 l0 l1 l2
      go_wp2_with fail
      go_roundw
      case rel => exact ⟨j + 1, by omega, by go_num, HB3.out⟩
      case measure => simp [intOf]; omega
    · obtain rfl : j = n := by omega
      go_wp2_with fail
      go_ret
      exact ⟨rfl, HB.out⟩
set_option maxHeartbeats 4000000 in
theorem markStepS_any (g n c : Nat) (fs : List S3) (k : Int) (w : World) (h : LaidS w g n fs n) (hn : n ≤ 1048576) (hk : 0 ≤ k ∧ k ≤ 1000000) :
    Calls Try.prog 15 #[.slice (some ⟨g, 0, none⟩) n c, .int .i64 k] w fun e w' => e = .returned (.int .i64 (k + 3 * n)) ∧ w.grownBy w' (some g) := by
  obtain ⟨hk1, hk2⟩ := hk
  obtain ⟨⟨cur0, hcur0, hsz0⟩, _⟩ := h
  have H0 := hide (show ∃ cur, w.heap[g]? = some (.cells cur 44 (0, 0)) ∧ cur.size = 3 * n from ⟨cur0, hcur0, hsz0⟩)
  clear hcur0 hsz0
  go_enter Try.func15, Try.ntmps15
  go_wp2_with fail
  go_loopw [1, 5] (fun kv iv wr => ∃ j : Nat, j ≤ n ∧ iv = .int .i64 j ∧ kv = .int .i64 (k + 3 * j) ∧ Hid (∃ cur, wr.heap[g]? = some (.cells cur 44 (0, 0)) ∧ cur.size = 3 * n) ∧ Hid (w.grownBy wr (some g))) (fun _ iv _ => n - (intOf iv).toNat)
  case atStart => exact ⟨0, by omega, rfl, by simp, H0, World.grownBy.refl _ _⟩
  case round =>
    obtain ⟨j, hj, rfl, rfl, HC, HG⟩ := hrel
    by_cases hlt : j < n
    · obtain ⟨cur, hc, hs⟩ := HC.out
      have HC1 := hide hc
      obtain ⟨x0, c0⟩ := laid_cell hc (i := j * 3) (by omega)
      obtain ⟨x1, c1⟩ := laid_cell hc (i := j * 3 + 1) (by omega)
      obtain ⟨x2, c2⟩ := laid_cell hc (i := j * 3 + 2) (by omega)
      have f0 : ∀ i, wr.frozen? ⟨g, i, none⟩ = false := fun i => frozen_of_row wr g i cur _ hc
      clear hc
      go_wp2_with fail
      go_roundw
      case rel =>
        refine ⟨j + 1, by omega, by go_num, by go_num, ⟨_, laid_set (laid_set (laid_set HC1.out _ _) _ _) _ _, by simpa using hs⟩, ?_⟩
        exact grown_seq HG.out ⟨rfl, rfl, rfl, by simp [World.setCell], fun i _ hne => by
          rw [heap_setCell_other _ ⟨g, _, none⟩ i _ (fun e => hne (by simp [e])), heap_setCell_other _ ⟨g, _, none⟩ i _ (fun e => hne (by simp [e])), heap_setCell_other _ ⟨g, _, none⟩ i _ (fun e => hne (by simp [e]))]⟩
      case measure => simp [intOf]; omega
    · obtain rfl : j = n := by omega
      go_wp2_with fail
      go_ret
      exact ⟨rfl, HG.out⟩
end Go.Proofs.Ytpklpebngholcaa
