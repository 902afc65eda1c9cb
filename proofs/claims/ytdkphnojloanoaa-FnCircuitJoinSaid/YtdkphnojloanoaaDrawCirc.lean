/-
  Slices of gates of the call's own; the draw of a circuit.
  No condition.
-/
import Derived.Test.YtdkphnojloanoaaDrawGates
import Derived.Test.YtdkphnojloanoaaCirc
namespace Go.Proofs.Ytdkphnojloanoaa
open Go.RowKit Go.Sort base
def gcell (g : G4) : List Value := [.int .i64 g.1, .int .i64 g.2.1, .int .i64 g.2.2.1, .int .i64 g.2.2.2]
def gcells (gs : List G4) : List Value := gs.flatMap gcell
theorem gcells_len (gs : List G4) : (gcells gs).length = gs.length * 4 := by
  induction gs with
  | nil => rfl
  | cons g gs ih => simp only [gcells, List.flatMap_cons, List.length_append, List.length_cons] at ih ⊢; rw [ih]; simp [gcell]; omega
theorem gcells_snoc (gs : List G4) (g : G4) : gcells (gs ++ [g]) = gcells gs ++ gcell g := by simp [gcells]
theorem gcells_at : ∀ (gs : List G4) (i r : Nat), i < gs.length → r < 4 → (gcells gs)[i * 4 + r]? = (gcell (gth gs i))[r]?
  | [], i, r, h, _ => by simp at h
  | g :: gs, 0, r, _, hr => by
    simp only [gcells, List.flatMap_cons, Nat.zero_mul, Nat.zero_add]
    rw [List.getElem?_append_left (by simpa [gcell] using hr)]
    rfl
  | g :: gs, i + 1, r, h, hr => by
    have ih := gcells_at gs i r (by simpa using h) hr
    simp only [gcells, List.flatMap_cons] at ih ⊢
    rw [List.getElem?_append_right (by simp [gcell]; omega), show (i + 1) * 4 + r - (gcell g).length = i * 4 + r by simp [gcell]; omega, ih]
    rfl
theorem oneCells (gs : List G4) : ∀ u ∈ gcells gs, u.oneCell' = true := by
  intro u hu
  simp only [gcells, gcell, List.mem_flatMap, List.mem_cons, List.not_mem_nil, or_false] at hu
  obtain ⟨g, _, rfl | rfl | rfl | rfl⟩ := hu <;> rfl
/-- a slice of gates of the call's own -/
def OwnG (w : World) (base : Nat) (v : Value) (gs : List G4) : Prop := w.ownsRow base 33 4 v gs.length (gcells gs)
section
variable {w w' : World} {base : Nat} {v : Value} {gs : List G4} {row : Option Nat}
theorem OwnG.form (h : OwnG w base v gs) : (v = .slice none 0 0 ∧ gs = []) ∨ ∃ g c, v = .slice (some ⟨g, 0, none⟩) gs.length c ∧ base ≤ g ∧ g < w.heap.size ∧ gs.length ≤ c ∧ c ≤ maxLen := by
  rcases h.2 with ⟨rfl, h0⟩ | ⟨g, cap, cur, rfl, hb, hg, hn, hm, _⟩
  · exact .inl ⟨rfl, List.eq_nil_of_length_eq_zero h0⟩
  · exact .inr ⟨g, cap, rfl, hb, (Array.getElem?_eq_some_iff.1 hg).1, hn, hm⟩
theorem OwnG.at_ {g c : Nat} (h : OwnG w base (.slice (some ⟨g, 0, none⟩) gs.length c) gs) (i : Nat) (hi : i < gs.length) : GAt w g (i * 4) (gth gs i) := by
  have hl := gcells_len gs
  refine ⟨?_, ?_, ?_, ?_⟩
  · have := World.ownsRow.cellAt h (i * 4) (by omega); rw [this]; have := gcells_at gs i 0 hi (by omega); simpa [gcell] using this
  · have := World.ownsRow.cellAt h (i * 4 + 1) (by omega); rw [this]; have := gcells_at gs i 1 hi (by omega); simpa [gcell] using this
  · have := World.ownsRow.cellAt h (i * 4 + 2) (by omega); rw [this]; have := gcells_at gs i 2 hi (by omega); simpa [gcell] using this
  · have := World.ownsRow.cellAt h (i * 4 + 3) (by omega); rw [this]; have := gcells_at gs i 3 hi (by omega); simpa [gcell] using this
theorem OwnG.kept (h : OwnG w base v gs) (hg : w.grownBy w' row) (hne : v.ownBlock = none ∨ v.ownBlock ≠ row) : OwnG w' base v gs := World.ownsRow.kept h hg hne
theorem OwnG.alloc (h : OwnG w base v gs) (o : Obj) : OwnG (w.alloc o) base v gs := World.ownsRow.alloc h o
theorem OwnG.lt (h : OwnG w base v gs) : ∀ k, v.ownBlock = some k → base ≤ k ∧ k < w.heap.size := World.ownsRow.lt h
theorem OwnG.below (h : OwnG w base v gs) (hb : Below w.heap.size w w') : OwnG w' base v gs := h.kept (row := none) ⟨hb.os, hb.tape, hb.output, hb.size, fun k hk _ => hb.block k hk⟩ (by cases v.ownBlock <;> simp)
theorem OwnG.gr (h : OwnG w base v gs) : ∃ A c, v = .slice A gs.length c ∧ GR w A gs.length gs := by
  rcases h.form with ⟨rfl, rfl⟩ | ⟨g, c, rfl, _, hlt, hn, hm⟩
  · exact ⟨none, 0, rfl, ⟨rfl, by simp, fun h => absurd h (by simp)⟩⟩
  · exact ⟨_, c, rfl, ⟨rfl, by unfold maxLen at hm; omega, fun _ => ⟨g, 0, rfl, hlt, fun i hi => by rw [Nat.zero_add]; exact h.at_ i hi⟩⟩⟩
theorem OwnG.nil0 (w : World) (base : Nat) (hb : base ≤ w.heap.size) : OwnG (w.alloc (.cells #[] 33)) base (.slice (some ⟨w.heap.size, 0, none⟩) 0 0) [] := by
  have := World.ownsRow_lit (e := 33) (size := 4) w #[] 0 hb (by unfold maxLen; omega) (by simp)
  simpa [OwnG, gcells] using this
theorem OwnG.ne (h : OwnG w base v gs) {R : Nat} (hR : R < base) : v.ownBlock = none ∨ v.ownBlock ≠ some R := by
  cases hv : v.ownBlock with
  | none => exact .inl rfl
  | some k => right; intro e; have := (h.lt k hv).1; simp at e; omega
theorem OwnG.ne' (h : OwnG w base v gs) {g : Nat} (hg : w.heap.size ≤ g) : v.ownBlock = none ∨ v.ownBlock ≠ some g := by
  cases hv : v.ownBlock with
  | none => exact .inl rfl
  | some k => right; intro e; have := (h.lt k hv).2; simp at e; omega
end
theorem gate_info' : (Try.prog.info? 33).map (fun i => (i.zero, i.size, i.bytes)) = some (some (.agg #[.int .i64 0, .int .i64 0, .int .i64 0, .int .i64 0]), 4, 32) := by kernel_rfl
/-- 'out = append(out, g)': the gate is laid in a block of its own first -/
theorem wpList_appendG1 {ops : Array Oper} {rest : List Oper} {o : Oper} {a : Act} {Q : Exit → Act → World → Prop} {w : World} {base : Nat} {v : Value} {gs : List G4} {x0 x1 x2 x3 : Int} (hown : OwnG w base v gs) (s y : Operand) (hg : o.guard = none)
    (ho : o.op = .call { callee := .builtin .append, args := #[s, y], argTypes := #[24, 24] }) (hs : a.eval s = v) (hx : a.eval y = .slice (some ⟨w.heap.size, 0, none⟩) 1 1)
    (hl : gs.length + 1 ≤ 8388608) (hb : base ≤ w.heap.size)
    (h : ∀ v' w', OwnG w' base v' (gs ++ [(x0, x1, x2, x3)]) → w.grownBy w' v.ownBlock → wpList Try.prog ops Q rest (a.put o.dst v') w') : wpList Try.prog ops Q (o :: rest) a (w.alloc (.cells #[.int .i64 x0, .int .i64 x1, .int .i64 x2, .int .i64 x3] 33)) := by
  obtain ⟨i0, hi, hz0, hz1, hz2⟩ := info_parts gate_info'
  refine wpList_append_own _ hg s y 24 ho base 33 i0 _ 4 32 Try.underlying24 hi hz0 hz1 hz2 rfl (by decide) v gs.length (gcells gs) hs (hown.alloc _) ⟨w.heap.size, 0, none⟩ 1 1 (gcell (x0, x1, x2, x3)) hx rfl ?_ ?_ (by unfold maxLen; omega) (by omega) (by simp; omega) ?_
  · intro j u hu
    rcases (show j = 0 ∨ j = 1 ∨ j = 2 ∨ j = 3 ∨ 4 ≤ j by omega) with rfl | rfl | rfl | rfl | hj
    · simp [gcell] at hu; subst hu; exact cell_at rfl rfl
    · simp [gcell] at hu; subst hu; exact cell_at rfl rfl
    · simp [gcell] at hu; subst hu; exact cell_at rfl rfl
    · simp [gcell] at hu; subst hu; exact cell_at rfl rfl
    · rw [List.getElem?_eq_none (by simpa [gcell] using hj)] at hu; cases hu
  · have := oneCells [(x0, x1, x2, x3)]
    simpa [gcells] using this
  · intro v' w' h1 h2 _
    refine h v' w' ?_ (grown_seq (World.grownBy_alloc w _ _) h2)
    unfold OwnG
    rw [List.length_append, gcells_snoc]
    exact h1
/- some circuit -/
def DrawnC (w : World) (R P : Nat) (e : Ending) (w' : World) : Prop := ∃ v gs, e = .returned v ∧ OwnG w' w.heap.size v gs ∧ gs.length ≤ 25 ∧ RG w R P w'
/-- the draw under way -/
structure CSt (w : World) (R P : Nat) (v : Value) (gs : List G4) (wx : World) : Prop where
  r : RG w R P wx
  own : OwnG wx w.heap.size v gs
theorem CSt.pick {w wx wy : World} {R P Q : Nat} {v : Value} {gs : List G4} (h : CSt w R P v gs wx) (hr : RdB wy R Q) (hg : wx.grownBy wy (some R)) : CSt w R Q v gs wy :=
  ⟨h.r.pick hr hg, h.own.kept hg (h.own.ne h.r.lo)⟩
theorem CSt.alloc {w wx : World} {R P : Nat} {v : Value} {gs : List G4} (h : CSt w R P v gs wx) (o : Obj) : CSt w R P v gs (wx.alloc o) := ⟨h.r.alloc o, h.own.alloc o⟩
theorem CSt.mono {w wx : World} {R P Q : Nat} {v : Value} {gs : List G4} (h : CSt w R P v gs wx) (hq : P ≤ Q) : CSt w R Q v gs wx := ⟨h.r.mono hq, h.own⟩
theorem CSt.app {w wx wy : World} {R P : Nat} {v v' : Value} {gs gs' : List G4} (h : CSt w R P v gs wx) (ho : OwnG wy w.heap.size v' gs') (hg : wx.grownBy wy v.ownBlock) : CSt w R P v' gs' wy :=
  ⟨h.r.step hg (fun x hx => (h.own.lt x hx).1), ho⟩
theorem CSt.put {w wx : World} {R P g : Nat} {v : Value} {gs : List G4} (h : CSt w R P v gs wx) (hg : w.heap.size ≤ g) (hne : v.ownBlock = none ∨ v.ownBlock ≠ some g) (k a b c : Int) : CSt w R P v gs ((((wx.setCell ⟨g, 0, none⟩ (.int .i64 k)).setCell ⟨g, 1, none⟩ (.int .i64 a)).setCell ⟨g, 2, none⟩ (.int .i64 b)).setCell ⟨g, 3, none⟩ (.int .i64 c)) :=
  ⟨h.r.step (put4_grown wx g _ _ _ _) (by simpa using hg), h.own.kept (put4_grown wx g _ _ _ _) hne⟩
/-- .. and a box that lies above the slice's block -/
structure CBt (w : World) (R P g : Nat) (v : Value) (gs : List G4) (wx : World) : Prop where
  s : CSt w R P v gs wx
  b : Bx wx g
  lo : w.heap.size ≤ g
  ne : v.ownBlock = none ∨ v.ownBlock ≠ some g
theorem CBt.pick {w wx wy : World} {R P Q g : Nat} {v : Value} {gs : List G4} (h : CBt w R P g v gs wx) (hr : RdB wy R Q) (hg : wx.grownBy wy (some R)) : CBt w R Q g v gs wy := by
  have := h.lo; have := h.s.r.lo
  exact ⟨h.s.pick hr hg, h.b.grown hg (by simp; omega), h.lo, h.ne⟩
theorem CBt.put {w wx : World} {R P g : Nat} {v : Value} {gs : List G4} (h : CBt w R P g v gs wx) (k a b c : Int) : CBt w R P g v gs ((((wx.setCell ⟨g, 0, none⟩ (.int .i64 k)).setCell ⟨g, 1, none⟩ (.int .i64 a)).setCell ⟨g, 2, none⟩ (.int .i64 b)).setCell ⟨g, 3, none⟩ (.int .i64 c)) :=
  ⟨h.s.put h.lo h.ne k a b c, h.b.put k a b c, h.lo, h.ne⟩
theorem CBt.mono {w wx : World} {R P Q g : Nat} {v : Value} {gs : List G4} (h : CBt w R P g v gs wx) (hq : P ≤ Q) : CBt w R Q g v gs wx := ⟨h.s.mono hq, h.b, h.lo, h.ne⟩
theorem CBt.new {w wx : World} {R P : Nat} {v : Value} {gs : List G4} (h : CSt w R P v gs wx) (k a b c : Int) : CBt w R P wx.heap.size v gs (wx.alloc (.cells #[.int .i64 k, .int .i64 a, .int .i64 b, .int .i64 c] 33)) :=
  ⟨h.alloc _, Bx.made wx k a b c _, h.r.size, h.own.ne' (Nat.le_refl _)⟩
set_option maxRecDepth 100000 in
set_option maxHeartbeats 8000000 in
theorem l20Circuit_b (R p most : Nat) (l : Int) (M : Int) (w : World) (h : RdB w R p) (hp : p ≤ 80000) (hl : -1 ≤ l ∧ l ≤ 9) (hm : most ≤ 16) (hM : 0 ≤ M ∧ M ≤ 1000) :
    Calls Try.prog 66 #[.pointer (some ⟨R, 0, none⟩), .int .i64 l, .int .i64 most, .int .i64 M] w (DrawnC w R (p + 400)) := by
  have S0 : Hid (CSt w R p (.slice (some ⟨w.heap.size, 0, none⟩) 0 0) [] (w.alloc (.cells #[] 33))) := ⟨(RG.start h).alloc _, OwnG.nil0 w _ (Nat.le_refl _)⟩
  obtain ⟨hM0, hM1⟩ := hM
  obtain ⟨hl0, hl1⟩ := hl
  clear h
  go_enter Try.func66, Try.ntmps66
  go_wp2_with fail
  refine (pick_b R p _ _ S0.out.r.rd (by omega) (by omega)).mono ?_
  rintro e w1 ⟨r, rfl, a1, b1, _, hr, hg⟩
  have c1 := b1 (by omega)
  obtain ⟨K, rfl⟩ := Int.eq_ofNat_of_zero_le a1
  have hK : K ≤ 16 := by omega
  have S1 := hide (S0.out.pick hr hg)
  clear hr hg b1 a1 c1 S0
  go_wp2_with fail
  go_loopw [9, 10] (fun ov iv wr => ∃ (j : Nat) (gs : List G4) (v : Value), j ≤ K ∧ iv = .int .i64 j ∧ ov = v ∧ Hid (gs.length = K - j) ∧ Hid (CSt w R (p + 1 + 22 * (K - j)) v gs wr)) (fun _ iv _ => (intOf iv).toNat)
  case atStart => exact ⟨K, [], _, Nat.le_refl _, rfl, rfl, hide (by simp), hide (S1.out.mono (by omega))⟩
  case round =>
    obtain ⟨j, gs, v, hj, rfl, rfl, HL, HS⟩ := hrel
    by_cases hlt : 0 < j
    · go_wp2_with fail
      refine (l20Gate_b R (p + 1 + 22 * (K - j)) _ 0 _ HS.out.r.rd (by omega) ⟨by omega, by omega⟩ (by omega)).mono ?_
      rintro e w2 ⟨k, a, b, c, rfl, hr, hg⟩
      have S2 := hide (HS.out.pick hr hg)
      have T2 := hide (CBt.new S2.out k a b c)
      clear hr hg HS S2
      obtain ⟨nn, hnn⟩ : ∃ nn, gs.length = nn := ⟨_, rfl⟩
      have hn16 : nn ≤ 16 := by have := HL.out; omega
      have HL2 := hide (show nn = K - j by rw [← hnn]; exact HL.out)
      obtain ⟨A, cp, hv, _⟩ := T2.out.s.own.gr
      rw [hnn] at hv
      subst hv
      have HN := Lib.hid hnn
      clear hnn HL
      by_cases h0 : nn = 0
      · subst h0

        go_upto_region 8 with fail
        refine wp_named fun wz hwz => ?_
        rw [hwz] at T2
        clear hwz
        obtain ⟨⟨k_, a_, b_, c_, y0, y1, y2, y3⟩, _⟩ := T2.out.b
        go_wp2_with (at_builtin; refine wpList_appendG1 (x0 := k_) (x1 := a_) (x2 := b_) (x3 := c_) T2.out.s.own (.tmp 41) (.tmp 43) rfl rfl rfl rfl (by have := HN.out; omega) T2.out.s.r.size ?_; intro v9 w9 ho9 hg9; have S9 := hide (T2.out.s.app ho9 hg9); clear ho9 hg9)
        go_roundw
        case rel => exact ⟨j - 1, _, v9, by omega, by go_num, rfl, hide (by have := HL2.out; have := HN.out; rw [List.length_append]; simp only [List.length_cons, List.length_nil]; omega), hide (S9.out.mono (by omega))⟩
        case measure => simp [intOf]; omega
      · have h00 : (0 : Int) < (nn : Int) := by omega
        clear h0
        go_wp2_with fail
        refine (pick_b R _ 4 _ T2.out.s.r.rd (by omega) (by omega)).mono ?_
        rintro e w3 ⟨r3, rfl, a3, b3, _, hr, hg⟩
        have c3 := b3 (by omega)
        have T3 := hide (T2.out.pick hr hg)
        clear hr hg b3 T2
        by_cases hr3 : r3 = 0
        · subst hr3
          clear a3 c3
          go_wp2_with fail
          refine (pick_b R _ (nn : Int) _ T3.out.s.r.rd (by omega) (by omega)).mono ?_
          rintro e w4 ⟨r4, rfl, a4, b4, _, hr, hg⟩
          have c4 := b4 (by omega)
          obtain ⟨t, rfl⟩ := Int.eq_ofNat_of_zero_le a4
          have T4 := hide (T3.out.pick hr hg)
          clear hr hg b4 T3
          obtain ⟨b5, o5, hA, hb5, hcc⟩ : ∃ b o, A = some ⟨b, o, none⟩ ∧ b < w4.heap.size ∧ ∀ i, i < nn → GAt w4 b (o + i * 4) (gth gs i) := by
            obtain ⟨A', c', hv', hgr⟩ := T4.out.s.own.gr
            simp only [Value.slice.injEq] at hv'
            rw [← hv'.1, HN.out] at hgr
            exact hgr.at_ (by omega)
          subst hA
          obtain ⟨g0, g1, g2, g3⟩ := hcc t (by omega)
          obtain ⟨⟨k0, a0_, b0, c0, z0, z1, z2, z3⟩, fz⟩ := T4.out.b
          have T5 := hide (T4.out.put (gth gs t).1 (gth gs t).2.1 (gth gs t).2.2.1 (gth gs t).2.2.2)
          unfold Free at fz
          clear hcc a4
          go_upto_region 8 with fail
          refine wp_named fun wz hwz => ?_
          rw [hwz] at T5
          clear hwz
          obtain ⟨⟨k_, a_, b_, c_, y0, y1, y2, y3⟩, _⟩ := T5.out.b
          go_wp2_with (at_builtin; refine wpList_appendG1 (x0 := k_) (x1 := a_) (x2 := b_) (x3 := c_) T5.out.s.own (.tmp 41) (.tmp 43) rfl rfl rfl rfl (by have := HN.out; omega) T5.out.s.r.size ?_; intro v9 w9 ho9 hg9; have S9 := hide (T5.out.s.app ho9 hg9); clear ho9 hg9)
          go_roundw
          case rel => exact ⟨j - 1, _, v9, by omega, by go_num, rfl, hide (by have := HL2.out; have := HN.out; rw [List.length_append]; simp only [List.length_cons, List.length_nil]; omega), hide (S9.out.mono (by omega))⟩
          case measure => simp [intOf]; omega
        · have e3 : (r3 == 0) = false := by simpa using hr3
          clear hr3
          go_upto_region 8 with fail
          refine wp_named fun wz hwz => ?_
          rw [hwz] at T3
          clear hwz
          obtain ⟨⟨k_, a_, b_, c_, y0, y1, y2, y3⟩, _⟩ := T3.out.b
          go_wp2_with (at_builtin; refine wpList_appendG1 (x0 := k_) (x1 := a_) (x2 := b_) (x3 := c_) T3.out.s.own (.tmp 41) (.tmp 43) rfl rfl rfl rfl (by have := HN.out; omega) T3.out.s.r.size ?_; intro v9 w9 ho9 hg9; have S9 := hide (T3.out.s.app ho9 hg9); clear ho9 hg9)
          go_roundw
          case rel => exact ⟨j - 1, _, v9, by omega, by go_num, rfl, hide (by have := HL2.out; have := HN.out; rw [List.length_append]; simp only [List.length_cons, List.length_nil]; omega), hide (S9.out.mono (by omega))⟩
          case measure => simp [intOf]; omega
    · obtain rfl : j = 0 := by omega
      have hn2 : (gs.length : Int) = K := by have := HL.out; omega
      go_wp2_with fail
      refine (odd_b R _ M _ HS.out.r.rd (by omega) ⟨by omega, by omega⟩).mono ?_
      rintro e w2 ⟨bo, rfl, hr, hg⟩
      have S2 := hide (HS.out.pick hr hg)
      clear hr hg hn2
      cases bo
      · go_wp2_with fail
        go_ret
        exact ⟨_, gs, rfl, S2.out.own, by have := HL.out; omega, S2.out.r.mono (by omega)⟩
      · go_wp2_with fail
        refine (pick_b R _ 2 _ S2.out.r.rd (by omega) (by omega)).mono ?_
        rintro e w3 ⟨r3, rfl, a3, b3, _, hr, hg⟩
        have S3 := hide (S2.out.pick hr hg)
        clear hr hg b3
        by_cases hr3 : r3 = 0
        · subst hr3
          go_wp2_with (at_builtin; refine wpList_appendG1 (x0 := 9) (x1 := 0) (x2 := 0) (x3 := 0) S3.out.own (.tmp 51) (.tmp 53) rfl rfl rfl rfl (by have := HL.out; omega) S3.out.r.size ?_; intro v9 w9 ho9 hg9; have S9 := hide (S3.out.app ho9 hg9); clear ho9 hg9)
          go_ret
          exact ⟨_, _, rfl, S9.out.own, by have := HL.out; rw [List.length_append]; simp only [List.length_cons, List.length_nil]; omega, S9.out.r.mono (by omega)⟩
        · have e3 : (r3 == 0) = false := by simpa using hr3
          clear hr3
          go_wp2_with fail
          go_loopw [9] (fun ov wr' => ∃ (gs : List G4) (v : Value), ov = v ∧ gs.length ≤ 25 ∧ Hid (CSt w R (p + 1 + 22 * (K - 0) + 1 + 1) v gs wr')) (fun ov _ => 25 - (match ov with | .slice _ n _ => n | _ => 0))
          case atStart => exact ⟨gs, _, rfl, by have := HL.out; omega, S3⟩
          case round =>
            obtain ⟨gs2, v2, rfl, hl2, HS2⟩ := hrel
            obtain ⟨A, cp, hv, _⟩ := HS2.out.own.gr
            subst hv
            by_cases h24 : gs2.length ≤ 24
            · have h24' : ((gs2.length : Nat) : Int) ≤ 24 := by omega
              go_wp2_with (at_builtin; refine wpList_appendG1 (x0 := 0) (x1 := 0) (x2 := 0) (x3 := 0) HS2.out.own (.tmp 58) (.tmp 60) rfl rfl rfl rfl (by omega) HS2.out.r.size ?_; intro v9 w9 ho9 hg9; have S9 := hide (HS2.out.app ho9 hg9); clear ho9 hg9)
              obtain ⟨A9, c9, hv9, _⟩ := S9.out.own.gr
              subst hv9
              go_roundw
              case rel => exact ⟨_, _, rfl, by rw [List.length_append]; simp only [List.length_cons, List.length_nil]; omega, S9⟩
              case measure => simp; omega
            · have h24' : ¬ ((gs2.length : Nat) : Int) ≤ 24 := by omega
              go_wp2_with fail
              go_ret
              exact ⟨_, gs2, rfl, HS2.out.own, hl2, HS2.out.r.mono (by omega)⟩
end Go.Proofs.Ytdkphnojloanoaa
