/-
  A step of the program: which cells a square gives a ball; impl.Field.step.
  No condition.
-/
import Derived.Test.YtmakpjcjccgalaaSquare
namespace Go.Proofs.Ytmakpjcjccgalaa
open Go.RowKit Go.Sort base
theorem setTs_at (k : Nat) : ∀ (ks : List Nat) (ns : List Bool), (∀ q ∈ ks, q < ns.length) → bth (setTs ns ks) k = (bth ns k || decide (k ∈ ks))
  | [], ns, _ => by simp [setTs]
  | q :: ks, ns, h => by
    have ih := setTs_at k ks (ns.set q true) (fun r hr => by rw [List.length_set]; exact h r (List.mem_cons_of_mem _ hr))
    have e : setTs ns (q :: ks) = setTs (ns.set q true) ks := rfl
    rw [e, ih, bth_set _ _ _ _ (h q (by simp))]
    by_cases hk : q = k
    · subst hk; simp
    · rw [if_neg hk]
      have : decide (k ∈ q :: ks) = decide (k ∈ ks) := by rw [decide_eq_decide, List.mem_cons]; exact ⟨fun h => h.resolve_left (fun e => hk e.symm), .inr⟩
      rw [this]
theorem atC_j (s x y j : Nat) : atC s (ballAt x y j) = cl s x y j := by
  unfold ballAt cl atC; split <;> rfl
theorem opp_0 (s x y : Nat) : oppC s (ballAt x y 0) = cellN s (x + 1) (y + 1) := rfl
theorem opp_1 (s x y : Nat) : oppC s (ballAt x y 1) = cellN s x (y + 1) := by
  show cellN s ((x : Int) + 1 + -1).toNat ((y : Int) + 1).toNat = _
  rw [show ((x : Int) + 1 + -1).toNat = x by omega, show ((y : Int) + 1).toNat = y + 1 by omega]
theorem opp_2 (s x y : Nat) : oppC s (ballAt x y 2) = cellN s (x + 1) y := by
  show cellN s ((x : Int) + 1).toNat ((y : Int) + 1 + -1).toNat = _
  rw [show ((y : Int) + 1 + -1).toNat = y by omega, show ((x : Int) + 1).toNat = x + 1 by omega]
theorem opp_3 (s x y : Nat) : oppC s (ballAt x y 3) = cellN s x y := by
  show cellN s ((x : Int) + 1 + -1).toNat ((y : Int) + 1 + -1).toNat = _
  rw [show ((y : Int) + 1 + -1).toNat = y by omega, show ((x : Int) + 1 + -1).toNat = x by omega]
theorem hor_0 (s x y : Nat) : horC s (ballAt x y 0) = cellN s (x + 1) y := rfl
theorem hor_1 (s x y : Nat) : horC s (ballAt x y 1) = cellN s x y := by
  show cellN s ((x : Int) + 1 + -1).toNat (y : Int).toNat = _
  rw [show ((x : Int) + 1 + -1).toNat = x by omega, Int.toNat_natCast]
theorem hor_2 (s x y : Nat) : horC s (ballAt x y 2) = cellN s (x + 1) (y + 1) := rfl
theorem hor_3 (s x y : Nat) : horC s (ballAt x y 3) = cellN s x (y + 1) := by
  show cellN s ((x : Int) + 1 + -1).toNat ((y : Int) + 1).toNat = _
  rw [show ((x : Int) + 1 + -1).toNat = x by omega, show ((y : Int) + 1).toNat = y + 1 by omega]
theorem oppQ_03 (x y : Nat) : oppQ (ballAt x y 0) (ballAt x y 3) = true := by simp [oppQ, ballAt]
theorem oppQ_12 (x y : Nat) : oppQ (ballAt x y 1) (ballAt x y 2) = true := by simp [oppQ, ballAt]; omega
theorem oppQ_01 (x y : Nat) : oppQ (ballAt x y 0) (ballAt x y 1) = false := by simp [oppQ, ballAt]; omega
theorem oppQ_02 (x y : Nat) : oppQ (ballAt x y 0) (ballAt x y 2) = false := by simp [oppQ, ballAt]; omega
theorem oppQ_13 (x y : Nat) : oppQ (ballAt x y 1) (ballAt x y 3) = false := by simp [oppQ, ballAt]; omega
theorem oppQ_23 (x y : Nat) : oppQ (ballAt x y 2) (ballAt x y 3) = false := by simp [oppQ, ballAt]; omega
theorem square_marks {s h x y : Nat} {bs : List Bool} (hs : sOk s h) (hx : x < s) (hy : y < s) (hx2 : x % 2 = h) (hy2 : y % 2 = h) (k : Nat) :
    (k ∈ cellsOf s (bls s x y bs 4)) ↔ (k = cellN s x y ∧ stepAt s h bs (cellN s x y) = true) ∨ (k = cellN s (x + 1) y ∧ stepAt s h bs (cellN s (x + 1) y) = true) ∨ (k = cellN s x (y + 1) ∧ stepAt s h bs (cellN s x (y + 1)) = true) ∨ (k = cellN s (x + 1) (y + 1) ∧ stepAt s h bs (cellN s (x + 1) (y + 1)) = true) := by
  obtain ⟨v0, v1, v2, v3⟩ := square_vals (bs := bs) hs hx hy hx2 hy2
  rw [v0, v1, v2, v3]
  simp only [bls, cl]
  generalize bth bs (cellN s x y) = a
  generalize bth bs (cellN s (x + 1) y) = b
  generalize bth bs (cellN s x (y + 1)) = c
  generalize bth bs (cellN s (x + 1) (y + 1)) = d
  have e0 := atC_j s x y 0
  have e1 := atC_j s x y 1
  have e2 := atC_j s x y 2
  have e3 := atC_j s x y 3
  simp only [cl] at e0 e1 e2 e3
  cases a <;> cases b <;> cases c <;> cases d <;>
    simp [cellsOf, gth, tq, bn, opp_0, opp_1, opp_2, opp_3, hor_0, hor_1, hor_2, hor_3, oppQ_03, oppQ_12, oppQ_01, oppQ_02, oppQ_13, oppQ_23, e0, e1, e2, e3]
theorem square_fill {s h x y : Nat} {bs : List Bool} (hs : sOk s h) (hx : x < s) (hy : y < s) (hx2 : x % 2 = h) (hy2 : y % 2 = h) :
    setTs (fill s h bs (fun _ => false) (y * s + x)) (cellsOf s (bls s x y bs 4)) = fill s h bs (fun _ => false) (y * s + (x + 2)) := by
  have hm := square_marks (bs := bs) hs hx hy hx2 hy2
  have hs0 : 0 < s := by omega
  have hlt : ∀ q ∈ cellsOf s (bls s x y bs 4), q < (fill s h bs (fun _ => false) (y * s + x)).length := fun q hq => by
    rw [fill_len]
    rcases (hm q).1 hq with ⟨rfl, _⟩ | ⟨rfl, _⟩ | ⟨rfl, _⟩ | ⟨rfl, _⟩ <;> exact cellN_lt _ _ _ hs0
  refine fill_square hs hx hy hx2 hy2 (by rw [setTs_len, fill_len]) fun k hk => ?_
  rw [setTs_at k _ _ hlt]
  by_cases hq : k = cellN s x y ∨ k = cellN s (x + 1) y ∨ k = cellN s x (y + 1) ∨ k = cellN s (x + 1) (y + 1)
  · rw [if_pos hq]
    have hr := ((corner_ hs hx hy hx2 hy2).2 k hk).1.2 hq
    rw [fill, tabB_at hk, if_neg (by omega), Bool.false_or]
    rw [Bool.eq_iff_iff, decide_eq_true_iff, hm k]
    constructor
    · rintro (⟨rfl, h⟩ | ⟨rfl, h⟩ | ⟨rfl, h⟩ | ⟨rfl, h⟩) <;> exact h
    · intro h
      rcases hq with rfl | rfl | rfl | rfl
      · exact .inl ⟨rfl, h⟩
      · exact .inr (.inl ⟨rfl, h⟩)
      · exact .inr (.inr (.inl ⟨rfl, h⟩))
      · exact .inr (.inr (.inr ⟨rfl, h⟩))
  · rw [if_neg hq]
    have : decide (k ∈ cellsOf s (bls s x y bs 4)) = false := by
      rw [decide_eq_false_iff_not, hm k]
      rintro (⟨h, _⟩ | ⟨h, _⟩ | ⟨h, _⟩ | ⟨h, _⟩)
      · exact hq (.inl h)
      · exact hq (.inr (.inl h))
      · exact hq (.inr (.inr (.inl h)))
      · exact hq (.inr (.inr (.inr h)))
    rw [this, Bool.or_false]
/-- a field that a call returns, of new memory -/
def RField (w : World) (s : Int) (sh : Bool) (bs : List Bool) (e : Ending) (w' : World) : Prop :=
  ∃ g n k, e = .returned (.agg #[.int .i64 s, .slice (some ⟨g, 0, none⟩) n k, .bool sh]) ∧ OwnB w' w.heap.size (.slice (some ⟨g, 0, none⟩) n k) bs ∧ Below w.heap.size w w'
theorem box3_set {w : World} {b : Nat} {x0 x1 x2 : Value} {t : TypeId} (h : w.heap[b]? = some (.cells #[x0, x1, x2] t (0, 0))) (y0 y1 y2 : Value) :
    (((w.setCell ⟨b, 0, none⟩ y0).setCell ⟨b, 1, none⟩ y1).setCell ⟨b, 2, none⟩ y2).heap[b]? = some (.cells #[y0, y1, y2] t (0, 0)) := by
  have h1 := heap_setCell_same w b 0 _ _ y0 h
  have h2 := heap_setCell_same _ b 1 _ _ y1 h1
  have h3 := heap_setCell_same _ b 2 _ _ y2 h2
  exact h3
theorem box3_grown (w : World) (b : Nat) (y0 y1 y2 : Value) : w.grownBy (((w.setCell ⟨b, 0, none⟩ y0).setCell ⟨b, 1, none⟩ y1).setCell ⟨b, 2, none⟩ y2) (some b) := by
  have key : ∀ (w : World) i y, w.grownBy (w.setCell ⟨b, i, none⟩ y) (some b) := fun w i y => ⟨rfl, rfl, rfl, by simp [World.setCell], fun k _ hne => heap_setCell_other w ⟨b, i, none⟩ k _ (fun e => hne (by simp [e]))⟩
  exact grown_seq (grown_seq (key _ _ _) (key _ _ _)) (key _ _ _)
structure ST (w : World) (s : Int) (A : Option Addr) (n c : Nat) (sh : Bool) (bs ns : List Bool) (wr : World) : Prop where
  fb : wr.cell? ⟨w.heap.size, 0, none⟩ = some (.int .i64 s) ∧ wr.cell? ⟨w.heap.size, 1, none⟩ = some (.slice A n c) ∧ wr.cell? ⟨w.heap.size, 2, none⟩ = some (.bool sh)
  rb : wr.heap[w.heap.size + 1]? = some (.cells #[.int .i64 0, .slice none 0 0, .bool false] 25 (0, 0))
  br : BR wr A n bs
  brw : BR w A n bs
  nx : OwnB wr (w.heap.size + 2) (.slice (some ⟨w.heap.size + 2, 0, none⟩) n n) ns
  low : Below w.heap.size w wr
  sz : w.heap.size + 3 ≤ wr.heap.size
theorem ST.step {w wr wy : World} {s : Int} {A : Option Addr} {n c : Nat} {sh : Bool} {bs ns ns' : List Bool} (h : ST w s A n c sh bs ns wr) (hg : wr.grownBy wy (some (w.heap.size + 2))) (ho : OwnB wy (w.heap.size + 2) (.slice (some ⟨w.heap.size + 2, 0, none⟩) n n) ns') : ST w s A n c sh bs ns' wy := by
  have hsz := h.sz
  have hb : Below w.heap.size wr wy := ⟨hg.os, hg.tape, hg.output, hg.size, fun k hk => hg.block k (by omega) (by simp; omega)⟩
  have hk : ∀ b i, b < w.heap.size + 2 → wy.cell? ⟨b, i, none⟩ = wr.cell? ⟨b, i, none⟩ := fun b i hb => World.cell?_of_block (hg.block b (by omega) (by simp; omega))
  refine ⟨⟨(hk _ _ (by omega)).trans h.fb.1, (hk _ _ (by omega)).trans h.fb.2.1, (hk _ _ (by omega)).trans h.fb.2.2⟩, ?_, h.brw.below (h.low.trans hb), h.brw, ho, h.low.trans hb, by have := hg.size; omega⟩
  rw [hg.block _ (by omega) (by simp)]
  exact h.rb
theorem ST.start {w w1 : World} {s : Int} {A : Option Addr} {n c : Nat} {sh : Bool} {bs ns : List Bool} (hb : BR w A n bs)
    (hown : OwnB w1 (w.heap.size + 2) (.slice (some ⟨((w.alloc (.cells #[.int .i64 s, .slice A n c, .bool sh] 25)).alloc (.cells #[.int .i64 0, .slice none 0 0, .bool false] 25)).heap.size, 0, none⟩) n n) ns)
    (hb1 : Below (w.heap.size + 2) ((w.alloc (.cells #[.int .i64 s, .slice A n c, .bool sh] 25)).alloc (.cells #[.int .i64 0, .slice none 0 0, .bool false] 25)) w1) : ST w s A n c sh bs ns w1 := by
  have hW : Below w.heap.size w ((w.alloc (.cells #[.int .i64 s, .slice A n c, .bool sh] 25)).alloc (.cells #[.int .i64 0, .slice none 0 0, .bool false] 25)) := ((Below.refl _ w).alloc (Nat.le_refl _) _).alloc (by simp) _
  have hlow : Below w.heap.size w w1 := hW.trans (hb1.mono (by omega))
  have hz : ((w.alloc (.cells #[.int .i64 s, .slice A n c, .bool sh] 25)).alloc (.cells #[.int .i64 0, .slice none 0 0, .bool false] 25)).heap.size = w.heap.size + 2 := by simp
  rw [hz] at hown
  refine ⟨⟨?_, ?_, ?_⟩, ?_, hb.below hlow, hb, hown, hlow, ?_⟩
  · rw [hb1.cell (p := ⟨w.heap.size, 0, none⟩) (by simp)]; exact cell_old (cell_at rfl rfl)
  · rw [hb1.cell (p := ⟨w.heap.size, 1, none⟩) (by simp)]; exact cell_old (cell_at rfl rfl)
  · rw [hb1.cell (p := ⟨w.heap.size, 2, none⟩) (by simp)]; exact cell_old (cell_at rfl rfl)
  · rw [hb1.block (w.heap.size + 1) (by omega)]
    have := heap_alloc_new (w.alloc (.cells #[.int .i64 s, .slice A n c, .bool sh] 25)) (.cells #[.int .i64 0, .slice none 0 0, .bool false] 25)
    rw [World.size_alloc] at this
    exact this
  · have := (hown.lt (w.heap.size + 2) rfl).2
    omega
theorem resultsS : Try.f32.results = #[.cell 2 25] := by kernel_rfl
theorem infoF : (Try.prog.info? 25).map (·.size) = some 3 := by kernel_rfl
set_option maxHeartbeats 4000000 in
theorem step_any (s h : Nat) (A : Option Addr) (n c : Nat) (sh : Bool) (bs : List Bool) (w : World) (hs : sOk s h) (hh : h = if sh then 1 else 0) (hn : n = s * s) (hb : BR w A n bs) :
    Calls Try.prog 32 #[.agg #[.int .i64 s, .slice A n c, .bool sh]] w (RField w s (!sh) (stepB s h bs)) := by
  have hs0 : 2 ≤ s ∧ s ≤ 8 ∧ s % 2 = 0 := by obtain ⟨h, _⟩ := hs; omega
  have HS := hide hs
  have HN := Lib.hid hn
  have hn64 : n ≤ 64 := by obtain ⟨h | h | h | h, _⟩ := hs <;> (subst h; omega)
  have hn0 : 0 < n := by rw [hn]; exact Nat.mul_pos (by omega) (by omega)
  have HB := hide hb
  clear hb hs hn
  cases sh
  · obtain rfl : h = 0 := hh
    go_enter Try.func32, Try.ntmps32
    go_wp2_with (refine wpList_make_bools (w.heap.size + 2) n rfl _ _ rfl _ _ rfl rfl rfl rfl (by omega) (by simp) ?_; intro w1 hown hb1 hgrow; have T1 := hide (ST.start (s := (s : Int)) HB.out hown hb1); clear hown hb1 hgrow; obtain ⟨c0, c1, c2⟩ := T1.out.fb)
    clear c0 c1 c2
    go_loopw [5] (fun yv wr => ∃ y : Nat, yv = .int .i64 y ∧ y ≤ s + 1 ∧ Hid (y % 2 = 0) ∧ Hid (ST w s A n c false bs (fill s 0 bs (fun _ => false) (y * s + 0)) wr)) (fun yv _ => 10 - (intOf yv).toNat)
    case atStart =>
      refine ⟨0, rfl, by omega, Lib.hid rfl, ?_⟩
      have := T1.out
      rw [fill_start HS.out]
      have e : List.replicate n false = tabB (s * s) (fun _ => false) := by
        rw [HN.out]
        apply List.ext_getElem (by simp [tabB_len])
        intro i h1 h2
        simp [tabB]
      rwa [e] at this
    case round =>
      clear T1
      obtain ⟨y, rfl, hy, HY, HT⟩ := hrel
      obtain ⟨c0, c1, c2⟩ := HT.out.fb
      by_cases hlt : y < s
      · go_wp2_with fail
        clear c0 c1 c2
        go_loopw [6] (fun xv wr => ∃ x : Nat, xv = .int .i64 x ∧ x ≤ s + 1 ∧ Hid (x % 2 = 0) ∧ Hid (ST w s A n c false bs (fill s 0 bs (fun _ => false) (y * s + x)) wr)) (fun xv _ => 10 - (intOf xv).toNat)
        case atStart => exact ⟨0, rfl, by omega, Lib.hid rfl, HT⟩
        case round =>
          clear HT
          obtain ⟨x, rfl, hx, HX, HT⟩ := hrel
          obtain ⟨c0, c1, c2⟩ := HT.out.fb
          by_cases hlx : x < s
          · have HF := Lib.hid (square_fill (bs := bs) HS.out hlx hlt HX.out HY.out)
            go_wp2_with fail
            refine (square_any s x y A n c false bs (w.heap.size + 2) (w.heap.size + 2) n (fill s 0 bs (fun _ => false) (y * s + x)) _ HS.out.1 (by omega) (by omega) HN.out HT.out.br HT.out.nx (by rw [fill_len, HN.out]) (by have := HT.out.sz; omega) ?_).mono ?_
            · rintro b o rfl
              obtain ⟨b', o', e, hb', _⟩ := HT.out.brw.at_ hn0
              simp only [Option.some.injEq, Addr.mk.injEq, and_true] at e
              omega
            rintro e w2 ⟨rfl, ho2, hg2⟩
            have HT2 := hide (HT.out.step hg2 ho2)
            obtain ⟨c3, c4, c5⟩ := HT2.out.fb
            clear ho2 hg2 c0 c1 c2
            go_wp2_with fail
            go_roundw
            case rel => exact ⟨x + 2, by go_num, by omega, Lib.hid (by have := HX.out; omega), by rw [← HF.out]; exact HT2⟩
            case measure => simp [intOf]; omega
          · go_wp2_with fail
            go_roundw
            case rel =>
              refine ⟨y + 2, by go_num, by omega, Lib.hid (by have := HY.out; omega), ?_⟩
              have h1 := HX.out
              have e : x = s + 0 := by omega
              have := HT.out
              rw [e, show y * s + (s + 0) = y * s + s + 0 by omega, fill_row HS.out hlt HY.out] at this
              exact this
            case measure => simp [intOf]; omega
      · have HE := Lib.hid (show fill s 0 bs (fun _ => false) (y * s + 0) = stepB s 0 bs from fill_end HS.out (by
          have := Nat.mul_le_mul_right s (show s ≤ y by omega)
          omega))
        have r0 : wr.cell? ⟨w.heap.size + 1, 0, none⟩ = some (.int .i64 0) := by rw [cell_of_row wr _ 0 _ _ (0, 0) HT.out.rb]; rfl
        have r1 : wr.cell? ⟨w.heap.size + 1, 1, none⟩ = some (.slice none 0 0) := by rw [cell_of_row wr _ 1 _ _ (0, 0) HT.out.rb]; rfl
        have r2 : wr.cell? ⟨w.heap.size + 1, 2, none⟩ = some (.bool false) := by rw [cell_of_row wr _ 2 _ _ (0, 0) HT.out.rb]; rfl
        have q0 := frozen_of_row wr _ 0 _ _ HT.out.rb
        have q1 := frozen_of_row wr _ 1 _ _ HT.out.rb
        have q2 := frozen_of_row wr _ 2 _ _ HT.out.rb
        go_wp2_with fail
        have hg := box3_grown wr (w.heap.size + 1) (.int .i64 s) (.slice (some ⟨w.heap.size + 2, 0, none⟩) n n) (.bool true)
        have hsz := HT.out.sz
        refine bodyPost_ret (results_cell_row resultsS _ _ (w.heap.size + 1) 25 #[.int .i64 s, .slice (some ⟨w.heap.size + 2, 0, none⟩) n n, .bool true] (0, 0) _ rfl (box3_set HT.out.rb _ _ _) Try.underlying25 rfl infoF) rfl ⟨w.heap.size + 2, n, n, rfl, ?_, ?_⟩
        · have := HT.out.nx.kept hg (.inr (by simp [Value.ownBlock]))
          rw [HE.out] at this
          exact this.base_le (by omega)
        · exact HT.out.low.trans ⟨hg.os, hg.tape, hg.output, hg.size, fun k hk => hg.block k (by omega) (by simp; omega)⟩
  · obtain rfl : h = 1 := hh
    go_enter Try.func32, Try.ntmps32
    go_wp2_with (refine wpList_make_bools (w.heap.size + 2) n rfl _ _ rfl _ _ rfl rfl rfl rfl (by omega) (by simp) ?_; intro w1 hown hb1 hgrow; have T1 := hide (ST.start (s := (s : Int)) HB.out hown hb1); clear hown hb1 hgrow; obtain ⟨c0, c1, c2⟩ := T1.out.fb)
    clear c0 c1 c2
    go_loopw [5] (fun yv wr => ∃ y : Nat, yv = .int .i64 y ∧ y ≤ s + 1 ∧ Hid (y % 2 = 1) ∧ Hid (ST w s A n c true bs (fill s 1 bs (fun _ => false) (y * s + 1)) wr)) (fun yv _ => 10 - (intOf yv).toNat)
    case atStart =>
      refine ⟨1, rfl, by omega, Lib.hid rfl, ?_⟩
      have := T1.out
      rw [fill_start HS.out]
      have e : List.replicate n false = tabB (s * s) (fun _ => false) := by
        rw [HN.out]
        apply List.ext_getElem (by simp [tabB_len])
        intro i h1 h2
        simp [tabB]
      rwa [e] at this
    case round =>
      clear T1
      obtain ⟨y, rfl, hy, HY, HT⟩ := hrel
      obtain ⟨c0, c1, c2⟩ := HT.out.fb
      by_cases hlt : y < s
      · go_wp2_with fail
        clear c0 c1 c2
        go_loopw [6] (fun xv wr => ∃ x : Nat, xv = .int .i64 x ∧ x ≤ s + 1 ∧ Hid (x % 2 = 1) ∧ Hid (ST w s A n c true bs (fill s 1 bs (fun _ => false) (y * s + x)) wr)) (fun xv _ => 10 - (intOf xv).toNat)
        case atStart => exact ⟨1, rfl, by omega, Lib.hid rfl, HT⟩
        case round =>
          clear HT
          obtain ⟨x, rfl, hx, HX, HT⟩ := hrel
          obtain ⟨c0, c1, c2⟩ := HT.out.fb
          by_cases hlx : x < s
          · have HF := Lib.hid (square_fill (bs := bs) HS.out hlx hlt HX.out HY.out)
            go_wp2_with fail
            refine (square_any s x y A n c true bs (w.heap.size + 2) (w.heap.size + 2) n (fill s 1 bs (fun _ => false) (y * s + x)) _ HS.out.1 (by omega) (by omega) HN.out HT.out.br HT.out.nx (by rw [fill_len, HN.out]) (by have := HT.out.sz; omega) ?_).mono ?_
            · rintro b o rfl
              obtain ⟨b', o', e, hb', _⟩ := HT.out.brw.at_ hn0
              simp only [Option.some.injEq, Addr.mk.injEq, and_true] at e
              omega
            rintro e w2 ⟨rfl, ho2, hg2⟩
            have HT2 := hide (HT.out.step hg2 ho2)
            obtain ⟨c3, c4, c5⟩ := HT2.out.fb
            clear ho2 hg2 c0 c1 c2
            go_wp2_with fail
            go_roundw
            case rel => exact ⟨x + 2, by go_num, by omega, Lib.hid (by have := HX.out; omega), by rw [← HF.out]; exact HT2⟩
            case measure => simp [intOf]; omega
          · go_wp2_with fail
            go_roundw
            case rel =>
              refine ⟨y + 2, by go_num, by omega, Lib.hid (by have := HY.out; omega), ?_⟩
              have h1 := HX.out
              have e : x = s + 1 := by omega
              have := HT.out
              rw [e, show y * s + (s + 1) = y * s + s + 1 by omega, fill_row HS.out hlt HY.out] at this
              exact this
            case measure => simp [intOf]; omega
      · have HE := Lib.hid (show fill s 1 bs (fun _ => false) (y * s + 1) = stepB s 1 bs from fill_end HS.out (by
          have := Nat.mul_le_mul_right s (show s ≤ y by omega)
          omega))
        have r0 : wr.cell? ⟨w.heap.size + 1, 0, none⟩ = some (.int .i64 0) := by rw [cell_of_row wr _ 0 _ _ (0, 0) HT.out.rb]; rfl
        have r1 : wr.cell? ⟨w.heap.size + 1, 1, none⟩ = some (.slice none 0 0) := by rw [cell_of_row wr _ 1 _ _ (0, 0) HT.out.rb]; rfl
        have r2 : wr.cell? ⟨w.heap.size + 1, 2, none⟩ = some (.bool false) := by rw [cell_of_row wr _ 2 _ _ (0, 0) HT.out.rb]; rfl
        have q0 := frozen_of_row wr _ 0 _ _ HT.out.rb
        have q1 := frozen_of_row wr _ 1 _ _ HT.out.rb
        have q2 := frozen_of_row wr _ 2 _ _ HT.out.rb
        go_wp2_with fail
        have hg := box3_grown wr (w.heap.size + 1) (.int .i64 s) (.slice (some ⟨w.heap.size + 2, 0, none⟩) n n) (.bool false)
        have hsz := HT.out.sz
        refine bodyPost_ret (results_cell_row resultsS _ _ (w.heap.size + 1) 25 #[.int .i64 s, .slice (some ⟨w.heap.size + 2, 0, none⟩) n n, .bool false] (0, 0) _ rfl (box3_set HT.out.rb _ _ _) Try.underlying25 rfl infoF) rfl ⟨w.heap.size + 2, n, n, rfl, ?_, ?_⟩
        · have := HT.out.nx.kept hg (.inr (by simp [Value.ownBlock]))
          rw [HE.out] at this
          exact this.base_le (by omega)
        · exact HT.out.low.trans ⟨hg.os, hg.tape, hg.output, hg.size, fun k hk => hg.block k (by omega) (by simp; omega)⟩
end Go.Proofs.Ytmakpjcjccgalaa
