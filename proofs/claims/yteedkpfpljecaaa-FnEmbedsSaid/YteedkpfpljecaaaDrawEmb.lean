/-
  The draw of a table, and of a function that it often tells.
  No condition.
-/
import Derived.Test.YteedkpfpljecaaaDrawFunc
import Derived.Test.YteedkpfpljecaaaDrawTab
namespace Go.Proofs.Yteedkpfpljecaaa
open Go.RowKit Go.Sort base
theorem pow_facts {n : Nat} (h : n ≤ 4) : ∃ P : Nat, wrap64 (2 ^ n) = (P : Int) ∧ 1 ≤ P ∧ P ≤ 16 :=
  ⟨2 ^ n, wrap_pow8 (by omega), Nat.one_le_two_pow, (show 2 ^ n ≤ 2 ^ 4 from Nat.pow_le_pow_right (by omega) h)⟩
def DrawnE (w : World) (e : Ending) (w' : World) : Prop :=
  (∃ (l : Int) (vt : Value) (t : List Int) (i o : Int) (vf : Value) (f : List Int), e = .returned (.tuple #[.int .i64 l, vt, .int .i64 i, .int .i64 o, vf]) ∧ Own w' w.heap.size vt t ∧ Own w' w.heap.size vf f) ∧ Below w.heap.size w w'
/-- the draw under way: table and function -/
structure ESt (w : World) (R P : Nat) (vt : Value) (t : List Int) (vf : Value) (f : List Int) (wx : World) : Prop where
  r : RdB wx R P
  lo : w.heap.size ≤ R
  bl : Below w.heap.size w wx
  ot : Own wx w.heap.size vt t
  nt : vt.ownBlock = none ∨ vt.ownBlock ≠ some R
  of : Own wx (R + 1) vf f
  ne : vt.ownBlock = none ∨ vt.ownBlock ≠ vf.ownBlock
theorem ESt.pick {w wx wy : World} {R P Q : Nat} {vt vf : Value} {t f : List Int} (h : ESt w R P vt t vf f wx) (hr : RdB wy R Q) (hg : wx.grownBy wy (some R)) : ESt w R Q vt t vf f wy :=
  ⟨hr, h.lo, h.bl.grown hg h.bl.size (by simpa using h.lo), h.ot.kept hg h.nt, h.nt, h.of.kept hg (own_ne h.of (by omega)), h.ne⟩
theorem ESt.drewN {w wx : World} {R P : Nat} {vt vf : Value} {t f : List Int} (h : ESt w R P vt t vf f wx) (q : Nat) : ESt w R P vt t vf f (wx.drewN q) :=
  ⟨h.r.below (below_drewN (Below.refl _ wx) q), h.lo, below_drewN h.bl q, h.ot, h.nt, h.of, h.ne⟩
theorem own_out {w : World} {B : Nat} {v : Value} {zs : List Int} (h : Own w B v zs) {v' : Value} {n : Nat} (hn : n = w.heap.size) (hv : v'.ownBlock = none ∨ (∃ k, v'.ownBlock = some k ∧ n ≤ k)) : v.ownBlock = none ∨ v.ownBlock ≠ v'.ownBlock := by
  cases e : v.ownBlock with
  | none => exact .inl rfl
  | some k =>
    right
    have := (h.lt k e).2
    rcases hv with hv | ⟨k', hv, hk⟩
    · rw [hv]; simp
    · rw [hv]; simp; omega
theorem ESt.app {w wx wy : World} {R P : Nat} {vt vf v' : Value} {t f f' : List Int} (h : ESt w R P vt t vf f wx) (ho : Own wy (R + 1) v' f') (hg : wx.grownBy wy vf.ownBlock)
    (hat : v'.ownBlock = vf.ownBlock ∨ ∃ g, v'.ownBlock = some g ∧ wx.heap.size ≤ g) : ESt w R P vt t v' f' wy := by
  have hl := h.lo
  refine ⟨h.r.grown hg (fun k hk => by have := (h.of.lt k hk).1; omega), h.lo, h.bl.grown hg h.bl.size (fun k hk => by have := (h.of.lt k hk).1; omega), h.ot.kept hg h.ne, h.nt, ho, ?_⟩
  rcases hat with e | ⟨g, e, hge⟩
  · rw [e]; exact h.ne
  · exact own_out h.ot rfl (.inr ⟨g, e, hge⟩)
theorem ESt.put {w wx : World} {R P g n c : Nat} {vt : Value} {t f : List Int} (h : ESt w R P vt t (.slice (some ⟨g, 0, none⟩) n c) f wx) (hn : f.length = n) (z : Int) :
    ESt w R P vt t (.slice (some ⟨g, 0, none⟩) n c) (f.set 0 z) (wx.setCell ⟨g, 0, none⟩ (.int .i64 z)) := by
  obtain ⟨h1, h2⟩ := h.of.stored hn 0 z
  have hl := h.lo
  have hg := (h.of.lt g rfl).1
  exact ⟨h.r.grown h2 (by simp; omega), h.lo, h.bl.grown h2 h.bl.size (by simp; omega), h.ot.kept h2 h.ne, h.nt, h1, h.ne⟩
set_option maxRecDepth 100000 in
set_option maxHeartbeats 8000000 in
theorem drawEmbeds_any (A : Option Addr) (n c : Nat) (zs : List Int) (w : World) (h : IRk .u8 w A n zs) (hz : ∀ z ∈ zs, (Lit.int .u8 z).wf = true) (hc : n ≤ c) :
    Calls Try.prog 16 #[.slice A n c] w (DrawnE w) := by
  have H := hide h
  have HZ := hide hz
  clear h hz
  go_enter Try.func16, Try.ntmps16
  go_wp2_with fail
  refine (open_b A n c zs _ H.out HZ.out hc).mono ?_
  rintro e w1 ⟨R, rfl, hR, hr, hb⟩
  have H1 := hide hr
  have B1 := hide hb
  have hs1 := hb.size
  have hRlt := hr.lt
  clear hr hb
  go_wp2_with fail
  refine (l20Table_b R 0 12 _ H1.out (by omega) (by omega)).mono ?_
  rintro e w2 ⟨l, vt, t, rfl, ho, _, _, hrg⟩
  have B2 := hide (below_of_drawn B1.out hrg.gr hR)
  have hs2 := hrg.gr.size
  have HNT := hide (show vt.ownBlock = none ∨ vt.ownBlock ≠ some R from own_ne ho hRlt)
  have O2 := hide (ho.base_le hs1)
  have H2 := hide hrg.rd
  clear ho hrg
  go_wp2_with fail
  refine (pick_b R _ 4 _ H2.out (by omega) (by omega)).mono ?_
  rintro e w3 ⟨r3, rfl, a3, b3, _, hr, hg⟩
  have c3 := b3 (by omega)
  have B3 := hide (below_of_drawn B2.out hg hR)
  have O3 := hide (O2.out.kept hg HNT.out)
  have H3 := hide hr
  have hs3 := hg.size
  clear hr hg b3
  go_wp2_with fail
  refine (pick_b R _ 4 _ H3.out (by omega) (by omega)).mono ?_
  rintro e w4 ⟨r4, rfl, a4, b4, _, hr, hg⟩
  have c4 := b4 (by omega)
  have B4 := hide (below_of_drawn B3.out hg hR)
  have O4 := hide (O3.out.kept hg HNT.out)
  have H4 := hide hr
  have hs4 := hg.size
  clear hr hg b4
  obtain ⟨ni, hni⟩ : ∃ ni : Nat, 1 + r3 = (ni : Int) := ⟨(1 + r3).toNat, by omega⟩
  obtain ⟨no, hno⟩ : ∃ no : Nat, 1 + r4 = (no : Int) := ⟨(1 + r4).toNat, by omega⟩
  obtain rfl : r3 = (ni : Int) - 1 := by omega
  obtain rfl : r4 = (no : Int) - 1 := by omega
  have hi' : 1 + ((ni : Int) - 1) = (ni : Int) := by omega
  have ho' : 1 + ((no : Int) - 1) = (no : Int) := by omega
  have hni4 : (ni : Int) < 64 := by omega
  have hno4 : (no : Int) < 64 := by omega
  obtain ⟨P, hw, hPi1, hPi⟩ := pow_facts (n := ni) (by omega)
  obtain ⟨Q, hw2, hPo, hPo2⟩ := pow_facts (n := no) (by omega)
  clear hni hno a3 c3 a4 c4
  obtain ⟨At, nt, ct, rfl, hrt, hct⟩ := O4.out.sliceC
  have hlt := hrt.len
  have hmaxt := hrt.max
  have E0 := hide (show ESt w R (0 + 500 + 1 + 1) (.slice At nt ct) t (.slice (some ⟨w4.heap.size, 0, none⟩) 0 0) [] (w4.alloc (.cells #[] 3)) from
    ⟨rd_alloc H4.out _, hR, B4.out.alloc B4.out.size _, O4.out.alloc _, HNT.out, (Own.nil0 w4 (R + 1) (by omega)), own_out O4.out (v' := .slice (some ⟨w4.heap.size, 0, none⟩) 0 0) rfl (.inr ⟨w4.heap.size, rfl, Nat.le_refl _⟩)⟩)
  have HLT := Lib.hid hlt
  clear hrt hlt
  go_wp2_with fail
  go_loopw [12, 13] (fun fv kv wr => ∃ (j : Nat) (v : Value) (f : List Int), j ≤ P ∧ kv = .int .i64 j ∧ v = fv ∧ Hid (f.length = j) ∧ Hid (ESt w R (0 + 500 + 1 + 1) (.slice At nt ct) t v f wr)) (fun _ kv _ => P - (intOf kv).toNat)
  case atStart => exact ⟨0, _, [], by omega, rfl, rfl, rfl, E0⟩
  case round =>
    obtain ⟨j, v, f, hj, rfl, rfl, HL, HS⟩ := hrel
    by_cases hlt : j < P
    · have hsz : w.heap.size ≤ wr.heap.size := HS.out.bl.size
      have hsz2 : R + 1 ≤ wr.heap.size := HS.out.r.lt
      by_cases hjt : j < nt ∧ 0 ≤ nth t j
      · obtain ⟨hj1, hj2⟩ := hjt
        have hj1' : (j : Int) < (nt : Int) := by omega
        obtain ⟨b, off, rfl, _, hcc⟩ := HS.out.ot.ir.at_ (by omega)
        have h1 := hcc j hj1
        have hq0 : (0 : Int) < (Q : Int) := by omega
        have hq1 : (Q : Int) ≠ 0 := by omega
        clear hcc
        go_upto_region 10 with fail
        refine wp_region_drew_tail1 8 v (by kernel_rfl) (by kernel_rfl) (fun _ _ _ h => h) rfl (.tmp 12) rfl rfl ?_
        simp only [List.take_succ_cons, List.take_zero, List.drop_succ_cons, List.drop_zero, Act.put, List.setIfInBounds_toArray, List.set_cons_succ, List.set_cons_zero]
        repeat (go_big_quiet_step ((fail)))
        refine wpQuiet_nil ?_
        intro wd hwd
        obtain ⟨q, hq⟩ := hwd
        have SD := hide (show ESt w R (0 + 500 + 1 + 1) (.slice (some ⟨b, off, none⟩) nt ct) t v f wd by rw [hq]; exact HS.out.drewN q)
        have hszd : R + 1 ≤ wd.heap.size := SD.out.r.lt
        clear hq h1
        go_wp2_with (at_builtin; refine wpList_append1 SD.out.of (.tmp 45) (.tmp 53) (by rfl) rfl rfl rfl (by have := HL.out; omega) hszd ?_; intro v9 w9 ho9 _ hg9 hat9; have S9 := hide (SD.out.app ho9 hg9 hat9); clear ho9 hg9 hat9)
        go_roundw
        case rel => exact ⟨j + 1, v9, _, by omega, by go_num, rfl, hide (by have := HL.out; rw [List.length_append]; simp only [List.length_cons, List.length_nil]; omega), S9⟩
        case measure => simp [intOf]; omega
      · by_cases hjn : j < nt
        · have hneg : ¬ 0 ≤ nth t j := fun h => hjt ⟨hjn, h⟩
          have hj1' : (j : Int) < (nt : Int) := by omega
          obtain ⟨b, off, rfl, _, hcc⟩ := HS.out.ot.ir.at_ (by omega)
          have h1 := hcc j hjn
          clear hcc hjt
          go_wp2_with (at_builtin; refine wpList_append1 HS.out.of (.tmp 55) (.tmp 56) (by rfl) rfl rfl rfl (by have := HL.out; omega) hsz2 ?_; intro v9 w9 ho9 _ hg9 hat9; have S9 := hide (HS.out.app ho9 hg9 hat9); clear ho9 hg9 hat9)
          go_roundw
          case rel => exact ⟨j + 1, v9, _, by omega, by go_num, rfl, hide (by have := HL.out; rw [List.length_append]; simp only [List.length_cons, List.length_nil]; omega), S9⟩
          case measure => simp [intOf]; omega
        · have hj1' : ¬ (j : Int) < (nt : Int) := by omega
          clear hjt
          go_wp2_with (at_builtin; refine wpList_append1 HS.out.of (.tmp 55) (.tmp 56) (by rfl) rfl rfl rfl (by have := HL.out; omega) hsz2 ?_; intro v9 w9 ho9 _ hg9 hat9; have S9 := hide (HS.out.app ho9 hg9 hat9); clear ho9 hg9 hat9)
          go_roundw
          case rel => exact ⟨j + 1, v9, _, by omega, by go_num, rfl, hide (by have := HL.out; rw [List.length_append]; simp only [List.length_cons, List.length_nil]; omega), S9⟩
          case measure => simp [intOf]; omega
    · obtain rfl : j = P := by omega
      go_wp2_with fail
      refine (odd_b R _ 9 _ HS.out.r (by omega) (by omega)).mono ?_
      rintro e w6 ⟨bo, rfl, hr, hg⟩
      have S6 := hide (HS.out.pick hr hg)
      clear hr hg HS
      cases bo
      · go_wp2_with fail
        refine bodyPost_ret (v := .tuple #[.int .i64 l, .slice At nt ct, .int .i64 ni, .int .i64 no, v]) (by simp [results, Try.results16, go_sem]) rfl ⟨⟨_, _, _, _, _, _, _, rfl, S6.out.ot, S6.out.of.base_le (by have := S6.out.lo; omega)⟩, S6.out.bl⟩
      · rcases S6.out.of.form with ⟨_, h0⟩ | ⟨g, c9, hv, hgb, _, hc9, _⟩
        · have := HL.out; rw [h0] at this; simp at this; omega
        · rw [HL.out] at hv hc9
          subst hv
          have OW := S6.out.of
          have hc0 := OW.cellAt HL.out 0 (by omega)
          have hf0 := OW.frozenAt HL.out 0
          have hlj : (0 : Int) < (j : Int) := by omega
          clear OW
          go_upto_region 13 with fail
          refine wp_region_drew_tail1 9 (.slice (some ⟨g, 0, none⟩) j c9) (by kernel_rfl) (by kernel_rfl) (fun _ _ _ h => h) rfl (.tmp 12) rfl rfl ?_
          simp only [List.take_succ_cons, List.take_zero, List.drop_succ_cons, List.drop_zero, Act.put, List.setIfInBounds_toArray, List.set_cons_succ, List.set_cons_zero]
          repeat (go_big_quiet_step ((fail)))
          refine wpQuiet_nil ?_
          intro wd hwd
          obtain ⟨q, hq⟩ := hwd
          have SD := hide (show ESt w R _ (.slice At nt ct) t (.slice (some ⟨g, 0, none⟩) j c9) f wd by rw [hq]; exact S6.out.drewN q)
          have hcd : wd.cell? ⟨g, 0, none⟩ = some (.int .i64 (nth f 0)) := by rw [hq]; exact hc0
          have hfd : wd.frozen? ⟨g, 0, none⟩ = false := by rw [hq]; exact hf0
          clear hq hc0 hf0
          go_wp2_with fail
          refine post_named fun w9 hw9 => ?_
          obtain ⟨f9, S9⟩ : ∃ f9, ESt w R (0 + 500 + 1 + 1 + 1) (.slice At nt ct) t (.slice (some ⟨g, 0, none⟩) j c9) f9 w9 := by rw [← hw9]; exact ⟨_, SD.out.put HL.out _⟩
          refine bodyPost_ret (v := .tuple #[.int .i64 l, .slice At nt ct, .int .i64 ni, .int .i64 no, .slice (some ⟨g, 0, none⟩) j c9]) (by simp [results, Try.results16, go_sem]) rfl ⟨⟨_, _, _, _, _, _, _, rfl, S9.ot, S9.of.base_le (by have := S9.lo; omega)⟩, S9.bl⟩
end Go.Proofs.Yteedkpfpljecaaa
