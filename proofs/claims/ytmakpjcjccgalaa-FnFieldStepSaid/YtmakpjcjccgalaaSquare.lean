/-
  The balls of a square: impl.Field.square, its first half: which balls there are.
  No condition.
-/
import Derived.Test.YtmakpjcjccgalaaBall
namespace Go.Proofs.Ytmakpjcjccgalaa
open Go.RowKit Go.Sort base
def cellZ (s : Nat) (X Y : Int) : Nat := cellN s X.toNat Y.toNat
theorem placeIn_z (s : Nat) (X Y : Int) (w : World) (hs : s = 2 ∨ s = 4 ∨ s = 6 ∨ s = 8) (hX : 0 ≤ X ∧ X ≤ 100) (hY : 0 ≤ Y ∧ Y ≤ 100) :
    Calls Try.prog 49 #[.agg #[.int .i64 X, .int .i64 Y], .int .i64 s] w fun e w' => e = .returned (.int .i64 (cellZ s X Y : Nat)) ∧ Below w.heap.size w w' := by
  obtain ⟨x, rfl⟩ := Int.eq_ofNat_of_zero_le hX.1
  obtain ⟨y, rfl⟩ := Int.eq_ofNat_of_zero_le hY.1
  refine (placeIn_any s x y w hs (by omega) (by omega)).mono ?_
  rintro e w' ⟨rfl, q, rfl⟩
  exact ⟨rfl, below_drewN ((Below.refl _ w).alloc (Nat.le_refl _) _) q⟩
theorem placeIn_v (k s : Nat) (X Y : Int) (w : World) (hs : s = 2 ∨ s = 4 ∨ s = 6 ∨ s = 8) (hX : 0 ≤ X ∧ X ≤ 100) (hY : 0 ≤ Y ∧ Y ≤ 100) (hk : cellZ s X Y = k) :
    Calls Try.prog 49 #[.agg #[.int .i64 X, .int .i64 Y], .int .i64 s] w fun e w' => e = .returned (.int .i64 (k : Nat)) ∧ Below w.heap.size w w' := by
  subst hk; exact placeIn_z s X Y w hs hX hY
/-- the cell j of a square; the ball that lies there -/
def cl (s x y : Nat) : Nat → Nat
  | 0 => cellN s x y
  | 1 => cellN s (x + 1) y
  | 2 => cellN s x (y + 1)
  | _ => cellN s (x + 1) (y + 1)
def ballAt (x y : Nat) : Nat → G4
  | 0 => (x, y, 1, 1)
  | 1 => ((x : Int) + 1, y, -1, 1)
  | 2 => (x, (y : Int) + 1, 1, -1)
  | _ => ((x : Int) + 1, (y : Int) + 1, -1, -1)
def bls (s x y : Nat) (bs : List Bool) : Nat → List G4
  | 0 => []
  | j + 1 => bls s x y bs j ++ if bth bs (cl s x y j) then [ballAt x y j] else []
/-- the cells that get a ball, as the balls tell -/
def setTs (ns : List Bool) (ks : List Nat) : List Bool := ks.foldl (fun ns k => ns.set k true) ns
theorem setTs_len (ks : List Nat) : ∀ ns, (setTs ns ks).length = ns.length := by
  induction ks with
  | nil => intro ns; rfl
  | cons k ks ih => intro ns; rw [setTs, List.foldl_cons]; exact (ih _).trans (by simp)
theorem setTs_snoc (ns : List Bool) (ks : List Nat) (k : Nat) : setTs ns (ks ++ [k]) = (setTs ns ks).set k true := by simp [setTs]
def oppQ (p q : G4) : Bool := decide (p.1 + p.2.2.1 = q.1) && decide (p.2.1 + p.2.2.2 = q.2.1)
def atC (s : Nat) (p : G4) : Nat := cellZ s p.1 p.2.1
def horC (s : Nat) (p : G4) : Nat := cellZ s (p.1 + p.2.2.1) p.2.1
def oppC (s : Nat) (p : G4) : Nat := cellZ s (p.1 + p.2.2.1) (p.2.1 + p.2.2.2)
def cellsOf (s : Nat) (L : List G4) : List Nat :=
  if L.length = 1 then [oppC s (gth L 0)] else if L.length = 2 ∧ oppQ (gth L 0) (gth L 1) = true then L.map (horC s) else L.map (atC s)
def SqPost (w : World) (base g n cN : Nat) (ns : List Bool) (e : Ending) (w' : World) : Prop :=
  e = .returned (.tuple #[]) ∧ OwnB w' base (.slice (some ⟨g, 0, none⟩) n cN) ns ∧ w.grownBy w' (some g)
/-- the numbers of a ball of a square -/
def okB (p : G4) : Prop := 0 ≤ p.1 ∧ p.1 ≤ 60 ∧ 0 ≤ p.2.1 ∧ p.2.1 ≤ 60 ∧ -1 ≤ p.2.2.1 ∧ p.2.2.1 ≤ 1 ∧ -1 ≤ p.2.2.2 ∧ p.2.2.2 ≤ 1 ∧ 0 ≤ p.1 + p.2.2.1 ∧ 0 ≤ p.2.1 + p.2.2.2
theorem ballAt_ok {x y : Nat} (hx : x ≤ 50) (hy : y ≤ 50) (j : Nat) : okB (ballAt x y j) := by
  unfold ballAt
  split <;> (unfold okB; simp; omega)
theorem bls_ok {s x y : Nat} {bs : List Bool} (hx : x ≤ 50) (hy : y ≤ 50) : ∀ j, ∀ p ∈ bls s x y bs j, okB p
  | 0, p, h => by simp [bls] at h
  | j + 1, p, h => by
    rw [bls, List.mem_append] at h
    rcases h with h | h
    · exact bls_ok hx hy j p h
    · split at h
      · simp at h; subst h; exact ballAt_ok hx hy j
      · cases h
theorem bls_len {s x y : Nat} {bs : List Bool} : ∀ j, (bls s x y bs j).length ≤ j
  | 0 => by simp [bls]
  | j + 1 => by have := bls_len (s := s) (x := x) (y := y) (bs := bs) j; rw [bls, List.length_append]; split <;> simp <;> omega
theorem cellZ_lt (s : Nat) (X Y : Int) (hs : 0 < s) : cellZ s X Y < s * s := cellN_lt _ _ _ hs
theorem cl_lt (s x y j : Nat) (hs : 0 < s) : cl s x y j < s * s := by
  unfold cl; split <;> exact cellN_lt _ _ _ hs
structure SQ (w : World) (s x y : Nat) (A : Option Addr) (n c : Nat) (sh : Bool) (bs : List Bool) (base g cN : Nat) (V : Value) (L : List G4) (ns : List Bool) (wr : World) : Prop where
  fb : wr.cell? ⟨w.heap.size, 0, none⟩ = some (.int .i64 s) ∧ wr.cell? ⟨w.heap.size, 1, none⟩ = some (.slice A n c)
  cb : wr.cell? ⟨w.heap.size + 1, 0, none⟩ = some (.int .i64 x) ∧ wr.cell? ⟨w.heap.size + 1, 1, none⟩ = some (.int .i64 y)
  own : OwnG wr (w.heap.size + 2) V L
  br : BR wr A n bs
  brw : BR w A n bs
  nx : OwnB wr base (.slice (some ⟨g, 0, none⟩) n cN) ns
  nlen : ns.length = n
  glt : g < w.heap.size
  ne : ∀ b o, A = some ⟨b, o, none⟩ → b ≠ g
  gr : w.grownBy wr (some g)
  sz : w.heap.size + 2 ≤ wr.heap.size
section
variable {w : World} {s x y : Nat} {A : Option Addr} {n c : Nat} {sh : Bool} {bs : List Bool} {base g cN : Nat} {V : Value} {L : List G4} {ns : List Bool} {wr : World}
theorem BR.grown {w w' : World} {A : Option Addr} {n : Nat} {zs : List Bool} {row : Option Nat} (h : BR w A n zs) (hg : w.grownBy w' row) (hne : ∀ b o, A = some ⟨b, o, none⟩ → b < w.heap.size → some b ≠ row) : BR w' A n zs :=
  ⟨h.len, h.max, fun hn => by
    obtain ⟨b, o, e, hb, hc⟩ := h.at_ hn
    exact ⟨b, o, e, by have := hg.size; omega, fun i hi => (World.cell?_of_block (hg.block b hb (hne b o e hb))).trans (hc i hi)⟩⟩
theorem SQ.step (h : SQ w s x y A n c sh bs base g cN V L ns wr) {wy : World} {row : Option Nat} {V' : Value} {L' : List G4} (hg : wr.grownBy wy row) (hrow : ∀ k, row = some k → w.heap.size + 2 ≤ k) (ho : OwnG wy (w.heap.size + 2) V' L') : SQ w s x y A n c sh bs base g cN V' L' ns wy := by
  have hsz := h.sz
  have hk : ∀ b i, b < w.heap.size + 2 → wy.cell? ⟨b, i, none⟩ = wr.cell? ⟨b, i, none⟩ := fun b i hb => World.cell?_of_block (hg.block b (by omega) (fun e => by have := hrow b e.symm; omega))
  have hbr : BR wy A n bs := by
    refine ⟨h.br.len, h.br.max, fun hn => ?_⟩
    obtain ⟨b, o, e, hb, hc⟩ := h.br.at_ hn
    obtain ⟨b', o', e', hb', _⟩ := h.brw.at_ hn
    rw [e] at e'
    simp only [Option.some.injEq, Addr.mk.injEq, and_true] at e'
    obtain ⟨rfl, rfl⟩ := e'
    exact ⟨b, o, e, by have := hg.size; omega, fun i hi => (hk b _ (by omega)).trans (hc i hi)⟩
  have hgl := h.glt
  refine ⟨⟨(hk _ _ (by omega)).trans h.fb.1, (hk _ _ (by omega)).trans h.fb.2⟩, ⟨(hk _ _ (by omega)).trans h.cb.1, (hk _ _ (by omega)).trans h.cb.2⟩, ho, hbr, h.brw, ?_, h.nlen, h.glt, h.ne, ?_, by have := hg.size; omega⟩
  · refine h.nx.kept hg (.inr fun e => ?_)
    have := hrow g (by rw [← e]; rfl)
    omega
  · exact ⟨hg.os.trans h.gr.os, hg.tape.trans h.gr.tape, hg.output.trans h.gr.output, Nat.le_trans h.gr.size hg.size, fun i hi hne => (hg.block i (by omega) (fun e => by have := hrow i e.symm; omega)).trans (h.gr.block i hi hne)⟩
theorem SQ.below (h : SQ w s x y A n c sh bs base g cN V L ns wr) {wy : World} (hb : Below wr.heap.size wr wy) : SQ w s x y A n c sh bs base g cN V L ns wy :=
  h.step (row := none) ⟨hb.os, hb.tape, hb.output, hb.size, fun k hk _ => hb.block k hk⟩ (fun k hk => by cases hk) (h.own.below hb)
theorem SQ.set (h : SQ w s x y A n c sh bs base g cN V L ns wr) (k : Nat) : SQ w s x y A n c sh bs base g cN V L (ns.set k true) (wr.setCell ⟨g, k, none⟩ (.bool true)) := by
  have hgl := h.glt
  have hsz := h.sz
  obtain ⟨ho, hg⟩ := h.nx.stored h.nlen k true
  have hk : ∀ b i, b ≠ g → (wr.setCell ⟨g, k, none⟩ (.bool true)).cell? ⟨b, i, none⟩ = wr.cell? ⟨b, i, none⟩ := fun b i hb => World.cell?_setCell_other _ _ _ _ (by first | (simp; done) | (simp; omega))
  refine ⟨⟨(hk _ _ (by omega)).trans h.fb.1, (hk _ _ (by omega)).trans h.fb.2⟩, ⟨(hk _ _ (by omega)).trans h.cb.1, (hk _ _ (by omega)).trans h.cb.2⟩, ?_, ?_, h.brw, ho, by rw [List.length_set]; exact h.nlen, h.glt, h.ne, grown_seq h.gr hg, by have := hg.size; omega⟩
  · refine h.own.kept hg ?_
    cases hv : V.ownBlock with
    | none => exact .inl rfl
    | some b => right; intro e; have := (h.own.lt b hv).1; simp at e; omega
  · exact h.br.grown hg fun b o e _ => by have := h.ne b o e; simpa using this
end
set_option maxRecDepth 100000 in
set_option maxHeartbeats 4000000 in
theorem square_any (s x y : Nat) (A : Option Addr) (n c : Nat) (sh : Bool) (bs : List Bool) (base g cN : Nat) (ns : List Bool) (w : World)
    (hs : s = 2 ∨ s = 4 ∨ s = 6 ∨ s = 8) (hx : x ≤ 50) (hy : y ≤ 50) (hn : n = s * s) (h : BR w A n bs) (ho : OwnB w base (.slice (some ⟨g, 0, none⟩) n cN) ns) (hnl : ns.length = n) (hg : g < w.heap.size) (hne : ∀ b o, A = some ⟨b, o, none⟩ → b ≠ g) :
    Calls Try.prog 48 #[.agg #[.int .i64 s, .slice A n c, .bool sh], .agg #[.int .i64 x, .int .i64 y], .slice (some ⟨g, 0, none⟩) n cN] w (SqPost w base g n cN (setTs ns (cellsOf s (bls s x y bs 4)))) := by
  have hs0 : 2 ≤ s ∧ s ≤ 8 := by omega
  have HS := hide hs
  have H : Hid (SQ w s x y A n c sh bs base g cN (.slice (some ⟨w.heap.size + 2, 0, none⟩) 0 0) [] ns (((w.alloc (.cells #[.int .i64 s, .slice A n c, .bool sh] 25)).alloc (.cells #[.int .i64 x, .int .i64 y] 47)).alloc (.cells #[] 63))) := by
    have hb : Below w.heap.size w (((w.alloc (.cells #[.int .i64 s, .slice A n c, .bool sh] 25)).alloc (.cells #[.int .i64 x, .int .i64 y] 47)).alloc (.cells #[] 63)) := ((((Below.refl _ w).alloc (Nat.le_refl _) _).alloc (by simp) _).alloc (by simp; omega) _)
    refine ⟨⟨?_, ?_⟩, ⟨?_, ?_⟩, ?_, h.below hb, h, ho.below hb, hnl, hg, hne, ⟨hb.os, hb.tape, hb.output, hb.size, fun k hk _ => hb.block k hk⟩, by simp⟩
    · exact cell_old (cell_old (cell_at rfl rfl))
    · exact cell_old (cell_old (cell_at rfl rfl))
    · exact cell_old (cell_at rfl (by simp))
    · exact cell_old (cell_at rfl (by simp))
    · have := OwnG.nil0 ((w.alloc (.cells #[.int .i64 s, .slice A n c, .bool sh] 25)).alloc (.cells #[.int .i64 x, .int .i64 y] 47)) (w.heap.size + 2) (by simp)
      simpa using this
  have HN := Lib.hid hn
  have HNL := Lib.hid hnl
  clear h ho hnl hs hn
  go_enter Try.func48, Try.ntmps48
  go_wp2_with fail
  go_loopw [6, 21] (fun bv iv wr => ∃ (j : Nat) (z : Int) (V : Value), V = bv ∧ iv = .int .i64 z ∧ Hid (z = (j : Int) ∧ j ≤ 4) ∧ Hid (SQ w s x y A n c sh bs base g cN V (bls s x y bs j) ns wr)) (fun _ iv _ => 4 - (intOf iv).toNat)
  case atStart => exact ⟨0, 0, _, rfl, rfl, Lib.hid ⟨rfl, by omega⟩, H.out⟩
  case round =>
    clear H
    obtain ⟨j, z, V, rfl, rfl, HJ, HQ⟩ := hrel
    obtain ⟨hz, hj⟩ := HJ.out
    have hz4 : z = 0 ∨ z = 1 ∨ z = 2 ∨ z = 3 ∨ z = 4 := by omega
    clear hz hj
    have hsz := HQ.out.sz
    obtain ⟨f0, f1⟩ := HQ.out.fb
    obtain ⟨c0, c1⟩ := HQ.out.cb
    have hs1 : w.heap.size + 1 < wr.heap.size := by omega
    have hs2 : w.heap.size < wr.heap.size := by omega
    have hn0 : 0 < n := by rw [HN.out]; exact Nat.mul_pos (by omega) (by omega)
    have hcl : ∀ k, cl s x y k < n := fun k => by rw [HN.out]; exact cl_lt s x y k (by omega)
    obtain ⟨b, o, rfl, hbl, hcc⟩ := HQ.out.br.at_ hn0
    have HCC := Lib.hid hcc
    have HCL := Lib.hid hcl
    clear hcc hcl
    rcases hz4 with rfl | rfl | rfl | rfl | rfl
    · obtain rfl : j = 0 := by have := HJ.out.1; omega
      have i0 : ∀ w, (Instr.index 61 (.agg #[.int .i64 0, .int .i64 0, .int .i64 1, .int .i64 0, .int .i64 0, .int .i64 1, .int .i64 1, .int .i64 1]) (.int .i64 0)).run Try.prog w = .ok (.agg #[.int .i64 0, .int .i64 0]) w := fun _ => by kernel_rfl
      have hz : cellZ s (x:Int) (y:Int) = cl s x y 0 := rfl
      have hb0 := HCC.out _ (HCL.out 0)
      have hlt := HCL.out 0
      have hlen : (bls s x y bs 0).length ≤ 10 := by
        have : ∀ k, (bls s x y bs k).length ≤ k := fun k => by
          induction k with
          | zero => simp [bls]
          | succ k ih => simp only [bls, List.length_append]; split <;> simp <;> omega
        have := this 0
        omega
      cases hv : bth bs (cl s x y 0)
      all_goals
        have HV := Lib.hid hv
        rw [hv] at hb0
        clear hv
        go_wp2_with fail
        refine wp_named fun W hW => ?_
        have hbW : Below wr.heap.size wr W := by rw [← hW]; exact ((Below.refl _ wr).alloc (Nat.le_refl _) _).alloc (by simp) _
        have HQW := hide (HQ.out.below hbW)
        have d0 : W.cell? ⟨wr.heap.size, 0, none⟩ = some (.int .i64 0) := by rw [← hW]; exact cell_old (cell_at rfl rfl)
        have d1 : W.cell? ⟨wr.heap.size, 1, none⟩ = some (.int .i64 0) := by rw [← hW]; exact cell_old (cell_at rfl rfl)
        have a0 : W.cell? ⟨wr.heap.size + 1, 0, none⟩ = some (.int .i64 (x:Int)) := by rw [← hW]; exact cell_at rfl (by simp)
        have a1 : W.cell? ⟨wr.heap.size + 1, 1, none⟩ = some (.int .i64 (y:Int)) := by rw [← hW]; exact cell_at rfl (by simp)
        obtain ⟨g0, g1⟩ := HQW.out.fb
        have e0 : W.cell? ⟨b, o + cl s x y 0, none⟩ = _ := (hbW.cell (p := ⟨b, o + cl s x y 0, none⟩) hbl).trans hb0
        have hszW : wr.heap.size + 2 ≤ W.heap.size := by rw [← hW]; simp
        have k0 := cell_regrown d0
        have k1 := cell_regrown d1
        have k2 := cell_regrown a0
        have k3 := cell_regrown a1
        have k4 := cell_regrown g0
        have k5 := cell_regrown g1
        have k6 := cell_regrown e0
        clear f0 f1 c0 c1 hb0 e0 d0 d1 a0 a1 g0 g1 hW
        refine wp_region_below (by kernel_rfl) (by kernel_rfl) ?_
        repeat (go_big_quiet_step ((go_at_call 49; exact below_of (show _ = Value.int .i64 ((cl s x y 0 : Nat) : Int) from rfl) (fun W' => placeIn_z s _ _ W' HS.out (by omega) (by omega)))))
        refine wpQuiet_nil ?_
        intro p
        obtain ⟨w3, hw3⟩ : ∃ w3, grow (redrawn W p.d) p.os = w3 := ⟨_, rfl⟩
        have hb3 : Below W.heap.size W w3 := by rw [← hw3]; exact below_regrown W p.d p.os
        have HQ3 := hide (HQW.out.below hb3)
        have m0 := k0 p.d p.os
        have m1 := k1 p.d p.os
        have m2 := k2 p.d p.os
        have m3 := k3 p.d p.os
        rw [hw3] at m0 m1 m2 m3 ⊢
        clear k0 k1 k2 k3 k4 k5 k6 hw3 hb3 HQW hbW hszW
      · go_wp2_with fail
        go_roundw
        case rel => exact ⟨0 + 1, _, V, rfl, by go_num, Lib.hid ⟨rfl, by omega⟩, hide (by have := HQ3.out; rw [bls, HV.out]; simpa using this)⟩
        case measure => simp [intOf]
      · have hrow : ∀ k, V.ownBlock = some k → w.heap.size + 2 ≤ k := fun k hk => (HQ3.out.own.lt k hk).1
        have HRow := Lib.hid hrow
        clear hrow
        go_wp2_with (at_builtin; refine wpList_appendG1 (x0 := (x:Int)) (x1 := (y:Int)) (x2 := 1) (x3 := 1) HQ3.out.own (.tmp 43) (.tmp 55) rfl rfl rfl rfl (by omega) HQ3.out.sz ?_; intro v9 w9 ho9 hg9; have S9 := hide (HQ3.out.step hg9 HRow.out ho9); clear ho9 hg9)
        go_roundw
        case rel => exact ⟨0 + 1, _, v9, rfl, by go_num, Lib.hid ⟨rfl, by omega⟩, by have := S9.out; rw [bls, HV.out]; exact this⟩
        case measure => simp [intOf]
    · obtain rfl : j = 1 := by have := HJ.out.1; omega
      have i0 : ∀ w, (Instr.index 61 (.agg #[.int .i64 0, .int .i64 0, .int .i64 1, .int .i64 0, .int .i64 0, .int .i64 1, .int .i64 1, .int .i64 1]) (.int .i64 1)).run Try.prog w = .ok (.agg #[.int .i64 1, .int .i64 0]) w := fun _ => by kernel_rfl
      have hz : cellZ s ((x:Int)+1) (y:Int) = cl s x y 1 := rfl
      have hb0 := HCC.out _ (HCL.out 1)
      have hlt := HCL.out 1
      have hlen : (bls s x y bs 1).length ≤ 10 := by
        have : ∀ k, (bls s x y bs k).length ≤ k := fun k => by
          induction k with
          | zero => simp [bls]
          | succ k ih => simp only [bls, List.length_append]; split <;> simp <;> omega
        have := this 1
        omega
      cases hv : bth bs (cl s x y 1)
      all_goals
        have HV := Lib.hid hv
        rw [hv] at hb0
        clear hv
        go_wp2_with fail
        refine wp_named fun W hW => ?_
        have hbW : Below wr.heap.size wr W := by rw [← hW]; exact ((Below.refl _ wr).alloc (Nat.le_refl _) _).alloc (by simp) _
        have HQW := hide (HQ.out.below hbW)
        have d0 : W.cell? ⟨wr.heap.size, 0, none⟩ = some (.int .i64 1) := by rw [← hW]; exact cell_old (cell_at rfl rfl)
        have d1 : W.cell? ⟨wr.heap.size, 1, none⟩ = some (.int .i64 0) := by rw [← hW]; exact cell_old (cell_at rfl rfl)
        have a0 : W.cell? ⟨wr.heap.size + 1, 0, none⟩ = some (.int .i64 ((x:Int)+1)) := by rw [← hW]; exact cell_at rfl (by simp)
        have a1 : W.cell? ⟨wr.heap.size + 1, 1, none⟩ = some (.int .i64 (y:Int)) := by rw [← hW]; exact cell_at rfl (by simp)
        obtain ⟨g0, g1⟩ := HQW.out.fb
        have e0 : W.cell? ⟨b, o + cl s x y 1, none⟩ = _ := (hbW.cell (p := ⟨b, o + cl s x y 1, none⟩) hbl).trans hb0
        have hszW : wr.heap.size + 2 ≤ W.heap.size := by rw [← hW]; simp
        have k0 := cell_regrown d0
        have k1 := cell_regrown d1
        have k2 := cell_regrown a0
        have k3 := cell_regrown a1
        have k4 := cell_regrown g0
        have k5 := cell_regrown g1
        have k6 := cell_regrown e0
        clear f0 f1 c0 c1 hb0 e0 d0 d1 a0 a1 g0 g1 hW
        refine wp_region_below (by kernel_rfl) (by kernel_rfl) ?_
        repeat (go_big_quiet_step ((go_at_call 49; exact below_of (show _ = Value.int .i64 ((cl s x y 1 : Nat) : Int) from rfl) (fun W' => placeIn_z s _ _ W' HS.out (by omega) (by omega)))))
        refine wpQuiet_nil ?_
        intro p
        obtain ⟨w3, hw3⟩ : ∃ w3, grow (redrawn W p.d) p.os = w3 := ⟨_, rfl⟩
        have hb3 : Below W.heap.size W w3 := by rw [← hw3]; exact below_regrown W p.d p.os
        have HQ3 := hide (HQW.out.below hb3)
        have m0 := k0 p.d p.os
        have m1 := k1 p.d p.os
        have m2 := k2 p.d p.os
        have m3 := k3 p.d p.os
        rw [hw3] at m0 m1 m2 m3 ⊢
        clear k0 k1 k2 k3 k4 k5 k6 hw3 hb3 HQW hbW hszW
      · go_wp2_with fail
        go_roundw
        case rel => exact ⟨1 + 1, _, V, rfl, by go_num, Lib.hid ⟨rfl, by omega⟩, hide (by have := HQ3.out; rw [bls, HV.out]; simpa using this)⟩
        case measure => simp [intOf]
      · have hrow : ∀ k, V.ownBlock = some k → w.heap.size + 2 ≤ k := fun k hk => (HQ3.out.own.lt k hk).1
        have HRow := Lib.hid hrow
        clear hrow
        go_wp2_with (at_builtin; refine wpList_appendG1 (x0 := ((x:Int)+1)) (x1 := (y:Int)) (x2 := (-1)) (x3 := 1) HQ3.out.own (.tmp 43) (.tmp 55) rfl rfl rfl rfl (by omega) HQ3.out.sz ?_; intro v9 w9 ho9 hg9; have S9 := hide (HQ3.out.step hg9 HRow.out ho9); clear ho9 hg9)
        go_roundw
        case rel => exact ⟨1 + 1, _, v9, rfl, by go_num, Lib.hid ⟨rfl, by omega⟩, by have := S9.out; rw [bls, HV.out]; exact this⟩
        case measure => simp [intOf]
    · obtain rfl : j = 2 := by have := HJ.out.1; omega
      have i0 : ∀ w, (Instr.index 61 (.agg #[.int .i64 0, .int .i64 0, .int .i64 1, .int .i64 0, .int .i64 0, .int .i64 1, .int .i64 1, .int .i64 1]) (.int .i64 2)).run Try.prog w = .ok (.agg #[.int .i64 0, .int .i64 1]) w := fun _ => by kernel_rfl
      have hz : cellZ s (x:Int) ((y:Int)+1) = cl s x y 2 := rfl
      have hb0 := HCC.out _ (HCL.out 2)
      have hlt := HCL.out 2
      have hlen : (bls s x y bs 2).length ≤ 10 := by
        have : ∀ k, (bls s x y bs k).length ≤ k := fun k => by
          induction k with
          | zero => simp [bls]
          | succ k ih => simp only [bls, List.length_append]; split <;> simp <;> omega
        have := this 2
        omega
      cases hv : bth bs (cl s x y 2)
      all_goals
        have HV := Lib.hid hv
        rw [hv] at hb0
        clear hv
        go_wp2_with fail
        refine wp_named fun W hW => ?_
        have hbW : Below wr.heap.size wr W := by rw [← hW]; exact ((Below.refl _ wr).alloc (Nat.le_refl _) _).alloc (by simp) _
        have HQW := hide (HQ.out.below hbW)
        have d0 : W.cell? ⟨wr.heap.size, 0, none⟩ = some (.int .i64 0) := by rw [← hW]; exact cell_old (cell_at rfl rfl)
        have d1 : W.cell? ⟨wr.heap.size, 1, none⟩ = some (.int .i64 1) := by rw [← hW]; exact cell_old (cell_at rfl rfl)
        have a0 : W.cell? ⟨wr.heap.size + 1, 0, none⟩ = some (.int .i64 (x:Int)) := by rw [← hW]; exact cell_at rfl (by simp)
        have a1 : W.cell? ⟨wr.heap.size + 1, 1, none⟩ = some (.int .i64 ((y:Int)+1)) := by rw [← hW]; exact cell_at rfl (by simp)
        obtain ⟨g0, g1⟩ := HQW.out.fb
        have e0 : W.cell? ⟨b, o + cl s x y 2, none⟩ = _ := (hbW.cell (p := ⟨b, o + cl s x y 2, none⟩) hbl).trans hb0
        have hszW : wr.heap.size + 2 ≤ W.heap.size := by rw [← hW]; simp
        have k0 := cell_regrown d0
        have k1 := cell_regrown d1
        have k2 := cell_regrown a0
        have k3 := cell_regrown a1
        have k4 := cell_regrown g0
        have k5 := cell_regrown g1
        have k6 := cell_regrown e0
        clear f0 f1 c0 c1 hb0 e0 d0 d1 a0 a1 g0 g1 hW
        refine wp_region_below (by kernel_rfl) (by kernel_rfl) ?_
        repeat (go_big_quiet_step ((go_at_call 49; exact below_of (show _ = Value.int .i64 ((cl s x y 2 : Nat) : Int) from rfl) (fun W' => placeIn_z s _ _ W' HS.out (by omega) (by omega)))))
        refine wpQuiet_nil ?_
        intro p
        obtain ⟨w3, hw3⟩ : ∃ w3, grow (redrawn W p.d) p.os = w3 := ⟨_, rfl⟩
        have hb3 : Below W.heap.size W w3 := by rw [← hw3]; exact below_regrown W p.d p.os
        have HQ3 := hide (HQW.out.below hb3)
        have m0 := k0 p.d p.os
        have m1 := k1 p.d p.os
        have m2 := k2 p.d p.os
        have m3 := k3 p.d p.os
        rw [hw3] at m0 m1 m2 m3 ⊢
        clear k0 k1 k2 k3 k4 k5 k6 hw3 hb3 HQW hbW hszW
      · go_wp2_with fail
        go_roundw
        case rel => exact ⟨2 + 1, _, V, rfl, by go_num, Lib.hid ⟨rfl, by omega⟩, hide (by have := HQ3.out; rw [bls, HV.out]; simpa using this)⟩
        case measure => simp [intOf]
      · have hrow : ∀ k, V.ownBlock = some k → w.heap.size + 2 ≤ k := fun k hk => (HQ3.out.own.lt k hk).1
        have HRow := Lib.hid hrow
        clear hrow
        go_wp2_with (at_builtin; refine wpList_appendG1 (x0 := (x:Int)) (x1 := ((y:Int)+1)) (x2 := 1) (x3 := (-1)) HQ3.out.own (.tmp 43) (.tmp 55) rfl rfl rfl rfl (by omega) HQ3.out.sz ?_; intro v9 w9 ho9 hg9; have S9 := hide (HQ3.out.step hg9 HRow.out ho9); clear ho9 hg9)
        go_roundw
        case rel => exact ⟨2 + 1, _, v9, rfl, by go_num, Lib.hid ⟨rfl, by omega⟩, by have := S9.out; rw [bls, HV.out]; exact this⟩
        case measure => simp [intOf]
    · obtain rfl : j = 3 := by have := HJ.out.1; omega
      have i0 : ∀ w, (Instr.index 61 (.agg #[.int .i64 0, .int .i64 0, .int .i64 1, .int .i64 0, .int .i64 0, .int .i64 1, .int .i64 1, .int .i64 1]) (.int .i64 3)).run Try.prog w = .ok (.agg #[.int .i64 1, .int .i64 1]) w := fun _ => by kernel_rfl
      have hz : cellZ s ((x:Int)+1) ((y:Int)+1) = cl s x y 3 := rfl
      have hb0 := HCC.out _ (HCL.out 3)
      have hlt := HCL.out 3
      have hlen : (bls s x y bs 3).length ≤ 10 := by
        have : ∀ k, (bls s x y bs k).length ≤ k := fun k => by
          induction k with
          | zero => simp [bls]
          | succ k ih => simp only [bls, List.length_append]; split <;> simp <;> omega
        have := this 3
        omega
      cases hv : bth bs (cl s x y 3)
      all_goals
        have HV := Lib.hid hv
        rw [hv] at hb0
        clear hv
        go_wp2_with fail
        refine wp_named fun W hW => ?_
        have hbW : Below wr.heap.size wr W := by rw [← hW]; exact ((Below.refl _ wr).alloc (Nat.le_refl _) _).alloc (by simp) _
        have HQW := hide (HQ.out.below hbW)
        have d0 : W.cell? ⟨wr.heap.size, 0, none⟩ = some (.int .i64 1) := by rw [← hW]; exact cell_old (cell_at rfl rfl)
        have d1 : W.cell? ⟨wr.heap.size, 1, none⟩ = some (.int .i64 1) := by rw [← hW]; exact cell_old (cell_at rfl rfl)
        have a0 : W.cell? ⟨wr.heap.size + 1, 0, none⟩ = some (.int .i64 ((x:Int)+1)) := by rw [← hW]; exact cell_at rfl (by simp)
        have a1 : W.cell? ⟨wr.heap.size + 1, 1, none⟩ = some (.int .i64 ((y:Int)+1)) := by rw [← hW]; exact cell_at rfl (by simp)
        obtain ⟨g0, g1⟩ := HQW.out.fb
        have e0 : W.cell? ⟨b, o + cl s x y 3, none⟩ = _ := (hbW.cell (p := ⟨b, o + cl s x y 3, none⟩) hbl).trans hb0
        have hszW : wr.heap.size + 2 ≤ W.heap.size := by rw [← hW]; simp
        have k0 := cell_regrown d0
        have k1 := cell_regrown d1
        have k2 := cell_regrown a0
        have k3 := cell_regrown a1
        have k4 := cell_regrown g0
        have k5 := cell_regrown g1
        have k6 := cell_regrown e0
        clear f0 f1 c0 c1 hb0 e0 d0 d1 a0 a1 g0 g1 hW
        refine wp_region_below (by kernel_rfl) (by kernel_rfl) ?_
        repeat (go_big_quiet_step ((go_at_call 49; exact below_of (show _ = Value.int .i64 ((cl s x y 3 : Nat) : Int) from rfl) (fun W' => placeIn_z s _ _ W' HS.out (by omega) (by omega)))))
        refine wpQuiet_nil ?_
        intro p
        obtain ⟨w3, hw3⟩ : ∃ w3, grow (redrawn W p.d) p.os = w3 := ⟨_, rfl⟩
        have hb3 : Below W.heap.size W w3 := by rw [← hw3]; exact below_regrown W p.d p.os
        have HQ3 := hide (HQW.out.below hb3)
        have m0 := k0 p.d p.os
        have m1 := k1 p.d p.os
        have m2 := k2 p.d p.os
        have m3 := k3 p.d p.os
        rw [hw3] at m0 m1 m2 m3 ⊢
        clear k0 k1 k2 k3 k4 k5 k6 hw3 hb3 HQW hbW hszW
      · go_wp2_with fail
        go_roundw
        case rel => exact ⟨3 + 1, _, V, rfl, by go_num, Lib.hid ⟨rfl, by omega⟩, hide (by have := HQ3.out; rw [bls, HV.out]; simpa using this)⟩
        case measure => simp [intOf]
      · have hrow : ∀ k, V.ownBlock = some k → w.heap.size + 2 ≤ k := fun k hk => (HQ3.out.own.lt k hk).1
        have HRow := Lib.hid hrow
        clear hrow
        go_wp2_with (at_builtin; refine wpList_appendG1 (x0 := ((x:Int)+1)) (x1 := ((y:Int)+1)) (x2 := (-1)) (x3 := (-1)) HQ3.out.own (.tmp 43) (.tmp 55) rfl rfl rfl rfl (by omega) HQ3.out.sz ?_; intro v9 w9 ho9 hg9; have S9 := hide (HQ3.out.step hg9 HRow.out ho9); clear ho9 hg9)
        go_roundw
        case rel => exact ⟨3 + 1, _, v9, rfl, by go_num, Lib.hid ⟨rfl, by omega⟩, by have := S9.out; rw [bls, HV.out]; exact this⟩
        case measure => simp [intOf]
    · obtain rfl : j = 4 := by have := HJ.out.1; omega
      have hok : ∀ p ∈ bls s x y bs 4, okB p := bls_ok hx hy 4
      have hlen : (bls s x y bs 4).length ≤ 4 := bls_len 4
      generalize bls s x y bs 4 = L at *
      have HOK := Lib.hid (fun i (hi : i < L.length) => hok (gth L i) (gth_mem hi))
      clear hok
      obtain ⟨Lm, hLm⟩ : ∃ m, L.length = m := ⟨_, rfl⟩
      have HLm := Lib.hid hLm
      by_cases h1 : Lm = 1
      · subst h1
        have HC := Lib.hid (show cellsOf s L = [oppC s (gth L 0)] by unfold cellsOf; rw [if_pos hLm])
        rcases HQ.out.own.form with ⟨_, e⟩ | ⟨gb, cb, e, _, hgb, hcb, _⟩
        · rw [e] at hLm; cases hLm
        rw [hLm] at e hcb
        subst e
        obtain ⟨q0, q1, q2, q3⟩ := (show OwnG wr (w.heap.size + 2) (.slice (some ⟨gb, 0, none⟩) L.length cb) L by rw [hLm]; exact HQ.out.own).at_ 0 (by omega)
        have hp := HOK.out 0 (by omega)
        obtain ⟨p1, p2, p3, p4, p5, p6, p7, p8, p9, p10⟩ := hp
        have k0 := cell_regrown q0
        have k1 := cell_regrown q1
        have k2 := cell_regrown q2
        have k3 := cell_regrown q3
        have k4 := cell_regrown f0
        have k5 := cell_regrown f1
        have hcz : oppC s (gth L 0) < n := by rw [HN.out]; exact cellZ_lt _ _ _ (by omega)
        clear q0 q1 q2 q3 f0 f1 c0 c1 hLm
        go_wp2_with fail
        refine wp_region_below_tail 10 (by kernel_rfl) (by kernel_rfl) ?_
        simp only [List.take_succ_cons, List.take_zero, List.drop_succ_cons, List.drop_zero]
        repeat (go_big_quiet_step ((first | (go_at_call 53; exact below_of rfl (fun W' => opposite_any _ _ _ _ W' (by omega) (by omega) (by omega) (by omega))) | (go_at_call 49; exact below_of (show _ = Value.int .i64 ((oppC s (gth L 0) : Nat) : Int) from rfl) (fun W' => placeIn_z s _ _ W' HS.out (by omega) (by omega))))))
        refine wpQuiet_nil ?_
        intro p
        obtain ⟨w3, hw3⟩ : ∃ w3, grow (redrawn wr p.d) p.os = w3 := ⟨_, rfl⟩
        have HQ3 := hide (HQ.out.below (show Below wr.heap.size wr w3 by rw [← hw3]; exact below_regrown wr p.d p.os))
        rw [hw3]
        have m0 := HQ3.out.nx.cellAt HQ3.out.nlen (oppC s (gth L 0)) hcz
        have m1 := HQ3.out.nx.frozenAt HQ3.out.nlen (oppC s (gth L 0))
        have HQ4 := hide (HQ3.out.set (oppC s (gth L 0)))
        clear k0 k1 k2 k3 k4 k5 hw3
        go_wp2_with fail
        go_end0
        exact ⟨rfl, by rw [HC.out]; exact HQ4.out.nx, HQ4.out.gr⟩
      · by_cases h2 : Lm = 2 ∧ oppQ (gth L 0) (gth L 1) = true
        · obtain ⟨h2, h3⟩ := h2
          subst h2
          have HC := Lib.hid (show cellsOf s L = L.map (horC s) by unfold cellsOf; rw [if_neg (by omega), if_pos ⟨hLm, h3⟩])
          rcases HQ.out.own.form with ⟨_, e⟩ | ⟨gb, cb, e, _, hgb, hcb, _⟩
          · rw [e] at hLm; cases hLm
          rw [hLm] at e hcb
          subst e
          have hown := (show OwnG wr (w.heap.size + 2) (.slice (some ⟨gb, 0, none⟩) L.length cb) L by rw [hLm]; exact HQ.out.own)
          obtain ⟨q0, q1, q2, q3⟩ := hown.at_ 0 (by omega)
          obtain ⟨r0, r1, _, _⟩ := hown.at_ 1 (by omega)
          obtain ⟨p1, p2, p3, p4, p5, p6, p7, p8, p9, p10⟩ := HOK.out 0 (by omega)
          have k0 := cell_regrown q0
          have k1 := cell_regrown q1
          have k2 := cell_regrown q2
          have k3 := cell_regrown q3
          have k4 := cell_regrown r0
          have k5 := cell_regrown r1
          clear q0 q1 q2 q3 r0 r1 f0 f1 c0 c1 hLm hown
          have eg : ∀ w, (eqGuard .eql 47 (.tmp 95) (.tmp 99) (.agg #[.int .i64 ((gth L 0).1 + (gth L 0).2.2.1), .int .i64 ((gth L 0).2.1 + (gth L 0).2.2.2)]) (.agg #[.int .i64 (gth L 1).1, .int .i64 (gth L 1).2.1])).run Try.prog w = .ok () w := fun w => guard_place _ _ _ _ _ _ w
          have eb : ∀ w, (binOp .eql 47 (.agg #[.int .i64 ((gth L 0).1 + (gth L 0).2.2.1), .int .i64 ((gth L 0).2.1 + (gth L 0).2.2.2)]) (.agg #[.int .i64 (gth L 1).1, .int .i64 (gth L 1).2.1])).run Try.prog w = .ok (.bool true) w := fun w => by
            rw [eql_place]
            have := h3
            unfold oppQ at this
            rw [← this]
            congr 2
          go_wp2_with fail
          refine wp_region_below (by kernel_rfl) (by kernel_rfl) ?_
          repeat (go_big_quiet_step ((go_at_call 53; exact below_of rfl (fun W' => opposite_any _ _ _ _ W' (by omega) (by omega) (by omega) (by omega)))))
          refine wpQuiet_nil ?_
          intro p
          obtain ⟨w3, hw3⟩ : ∃ w3, grow (redrawn wr p.d) p.os = w3 := ⟨_, rfl⟩
          have HQ3 := hide (HQ.out.below (show Below wr.heap.size wr w3 by rw [← hw3]; exact below_regrown wr p.d p.os))
          rw [hw3]
          clear k0 k1 k2 k3 k4 k5 hw3 eg eb
          go_wp2_with fail
          go_loopw [104] (fun iv wr => ∃ j : Nat, iv = .int .i64 j ∧ j ≤ 2 ∧ Hid (SQ w s x y (some ⟨b, o, none⟩) n c sh bs base g cN (.slice (some ⟨gb, 0, none⟩) 2 cb) L (setTs ns ((L.take j).map (horC s))) wr)) (fun iv _ => 2 - (intOf iv).toNat)
          case atStart => exact ⟨0, rfl, by omega, hide (by simpa [setTs] using HQ3.out)⟩
          case round =>
            clear HQ3
            obtain ⟨j, rfl, hj, HQ⟩ := hrel
            by_cases hlt : j < 2
            · obtain ⟨q0, q1, q2, q3⟩ := (show OwnG wr (w.heap.size + 2) (.slice (some ⟨gb, 0, none⟩) L.length cb) L by rw [HLm.out]; exact HQ.out.own).at_ j (by rw [HLm.out]; exact hlt)
              obtain ⟨p1, p2, p3, p4, p5, p6, p7, p8, p9, p10⟩ := HOK.out j (by rw [HLm.out]; exact hlt)
              obtain ⟨f0, f1⟩ := HQ.out.fb
              have hsz := HQ.out.sz
              have hs2 : w.heap.size < wr.heap.size := by omega
              have HST := Lib.hid (show setTs ns ((L.take (j + 1)).map (horC s)) = (setTs ns ((L.take j).map (horC s))).set (horC s (gth L j)) true by
                rw [take_succ_gth (by rw [HLm.out]; exact hlt), List.map_append, List.map_cons, List.map_nil, setTs_snoc])
              have hcz : horC s (gth L j) < n := by rw [HN.out]; exact cellZ_lt _ _ _ (by omega)
              have HCZ := Lib.hid (show cellZ s ((gth L j).1 + (gth L j).2.2.1) (gth L j).2.1 = horC s (gth L j) from rfl)
              generalize horC s (gth L j) = cz at *
              generalize (gth L j).1 = v0 at *
              generalize (gth L j).2.1 = v1 at *
              generalize (gth L j).2.2.1 = v2 at *
              generalize (gth L j).2.2.2 = v3 at *
              go_wp2_with fail
              refine calls_named fun W hW => ?_
              have hbW : Below wr.heap.size wr W := by rw [← hW]; exact (Below.refl _ wr).alloc (Nat.le_refl _) _
              refine (placeIn_v cz s _ _ W HS.out (by omega) (by omega) HCZ.out).mono ?_
              rintro e w3 ⟨rfl, hb3⟩
              have HQ4 := hide (HQ.out.below (bseq hbW hb3))
              clear q0 q1 q2 q3 f0 f1 hW hbW hb3
              have m0 := HQ4.out.nx.cellAt HQ4.out.nlen cz hcz
              have m1 := HQ4.out.nx.frozenAt HQ4.out.nlen cz
              have HQ5 := hide (HQ4.out.set cz)
              go_wp2_with fail
              go_roundw
              case rel => exact ⟨j + 1, by go_num, by omega, by have := HQ5.out; rw [HST.out]; exact this⟩
              case measure => simp [intOf]; omega
            · obtain rfl : j = 2 := by omega
              have HF := Lib.hid (show OwnB wr base (.slice (some ⟨g, 0, none⟩) n cN) (setTs ns (L.map (horC s))) by
                have := HQ.out.nx
                rwa [List.take_of_length_le (by rw [HLm.out]; exact Nat.le_refl _)] at this)
              have HG := hide HQ.out.gr
              go_wp2_with fail
              go_end0
              exact ⟨rfl, by rw [HC.out]; exact HF.out, HG.out⟩
        · have h3' : Lm = 2 → oppQ (gth L 0) (gth L 1) = false := fun e => by
            cases hq : oppQ (gth L 0) (gth L 1) with
            | false => rfl
            | true => exact absurd ⟨e, hq⟩ h2
          have HC := Lib.hid (show cellsOf s L = L.map (atC s) by unfold cellsOf; rw [if_neg (by omega), if_neg (fun e => h2 ⟨by omega, e.2⟩)])
          clear h2
          by_cases h2 : Lm = 2
          · subst h2
            have h3 := h3' rfl
            clear h3'
            rcases HQ.out.own.form with ⟨_, e⟩ | ⟨gb, cb, e, _, hgb, hcb, _⟩
            · rw [e] at hLm; cases hLm
            rw [hLm] at e hcb
            subst e
            have hown := (show OwnG wr (w.heap.size + 2) (.slice (some ⟨gb, 0, none⟩) L.length cb) L by rw [hLm]; exact HQ.out.own)
            obtain ⟨q0, q1, q2, q3⟩ := hown.at_ 0 (by omega)
            obtain ⟨r0, r1, _, _⟩ := hown.at_ 1 (by omega)
            obtain ⟨p1, p2, p3, p4, p5, p6, p7, p8, p9, p10⟩ := HOK.out 0 (by omega)
            have k0 := cell_regrown q0
            have k1 := cell_regrown q1
            have k2 := cell_regrown q2
            have k3 := cell_regrown q3
            have k4 := cell_regrown r0
            have k5 := cell_regrown r1
            clear q0 q1 q2 q3 r0 r1 f0 f1 c0 c1 hLm hown
            have eg : ∀ w, (eqGuard .eql 47 (.tmp 95) (.tmp 99) (.agg #[.int .i64 ((gth L 0).1 + (gth L 0).2.2.1), .int .i64 ((gth L 0).2.1 + (gth L 0).2.2.2)]) (.agg #[.int .i64 (gth L 1).1, .int .i64 (gth L 1).2.1])).run Try.prog w = .ok () w := fun w => guard_place _ _ _ _ _ _ w
            have eb : ∀ w, (binOp .eql 47 (.agg #[.int .i64 ((gth L 0).1 + (gth L 0).2.2.1), .int .i64 ((gth L 0).2.1 + (gth L 0).2.2.2)]) (.agg #[.int .i64 (gth L 1).1, .int .i64 (gth L 1).2.1])).run Try.prog w = .ok (.bool false) w := fun w => by
              rw [eql_place]
              have := h3
              unfold oppQ at this
              rw [← this]
              congr 2
            go_wp2_with fail
            refine wp_region_below (by kernel_rfl) (by kernel_rfl) ?_
            repeat (go_big_quiet_step ((go_at_call 53; exact below_of rfl (fun W' => opposite_any _ _ _ _ W' (by omega) (by omega) (by omega) (by omega)))))
            refine wpQuiet_nil ?_
            intro p
            obtain ⟨w3, hw3⟩ : ∃ w3, grow (redrawn wr p.d) p.os = w3 := ⟨_, rfl⟩
            have HQ3 := hide (HQ.out.below (show Below wr.heap.size wr w3 by rw [← hw3]; exact below_regrown wr p.d p.os))
            rw [hw3]
            clear k0 k1 k2 k3 k4 k5 hw3 eg eb
            go_wp2_with fail
            go_loopw [60] (fun iv wr => ∃ j : Nat, iv = .int .i64 j ∧ j ≤ 2 ∧ Hid (SQ w s x y (some ⟨b, o, none⟩) n c sh bs base g cN (.slice (some ⟨gb, 0, none⟩) 2 cb) L (setTs ns ((L.take j).map (atC s))) wr)) (fun iv _ => 2 - (intOf iv).toNat)
            case atStart => exact ⟨0, rfl, by omega, hide (by simpa [setTs] using HQ3.out)⟩
            case round =>
              clear HQ3
              obtain ⟨j, rfl, hj, HQ⟩ := hrel
              by_cases hlt : j < 2
              · obtain ⟨q0, q1, q2, q3⟩ := (show OwnG wr (w.heap.size + 2) (.slice (some ⟨gb, 0, none⟩) L.length cb) L by rw [HLm.out]; exact HQ.out.own).at_ j (by rw [HLm.out]; exact hlt)
                obtain ⟨p1, p2, p3, p4, p5, p6, p7, p8, p9, p10⟩ := HOK.out j (by rw [HLm.out]; exact hlt)
                obtain ⟨f0, f1⟩ := HQ.out.fb
                have hsz := HQ.out.sz
                have hs2 : w.heap.size < wr.heap.size := by omega
                have HST := Lib.hid (show setTs ns ((L.take (j + 1)).map (atC s)) = (setTs ns ((L.take j).map (atC s))).set (atC s (gth L j)) true by
                  rw [take_succ_gth (by rw [HLm.out]; exact hlt), List.map_append, List.map_cons, List.map_nil, setTs_snoc])
                have hcz : atC s (gth L j) < n := by rw [HN.out]; exact cellZ_lt _ _ _ (by omega)
                have HCZ := Lib.hid (show cellZ s (gth L j).1 (gth L j).2.1 = atC s (gth L j) from rfl)
                generalize atC s (gth L j) = cz at *
                generalize (gth L j).1 = v0 at *
                generalize (gth L j).2.1 = v1 at *
                generalize (gth L j).2.2.1 = v2 at *
                generalize (gth L j).2.2.2 = v3 at *
                go_wp2_with fail
                refine calls_named fun W hW => ?_
                have hbW : Below wr.heap.size wr W := by rw [← hW]; exact (Below.refl _ wr).alloc (Nat.le_refl _) _
                refine (placeIn_v cz s _ _ W HS.out (by omega) (by omega) HCZ.out).mono ?_
                rintro e w3 ⟨rfl, hb3⟩
                have HQ4 := hide (HQ.out.below (bseq hbW hb3))
                clear q0 q1 q2 q3 f0 f1 hW hbW hb3
                have m0 := HQ4.out.nx.cellAt HQ4.out.nlen cz hcz
                have m1 := HQ4.out.nx.frozenAt HQ4.out.nlen cz
                have HQ5 := hide (HQ4.out.set cz)
                go_wp2_with fail
                go_roundw
                case rel => exact ⟨j + 1, by go_num, by omega, by have := HQ5.out; rw [HST.out]; exact this⟩
                case measure => simp [intOf]; omega
              · obtain rfl : j = 2 := by omega
                have HF := Lib.hid (show OwnB wr base (.slice (some ⟨g, 0, none⟩) n cN) (setTs ns (L.map (atC s))) by
                  have := HQ.out.nx
                  rwa [List.take_of_length_le (by rw [HLm.out]; exact Nat.le_refl _)] at this)
                have HG := hide HQ.out.gr
                go_wp2_with fail
                go_end0
                exact ⟨rfl, by rw [HC.out]; exact HF.out, HG.out⟩
          · have hLm4 : Lm ≤ 4 := by omega
            have e1 : ((Lm : Int) == 1) = false := by simp; omega
            have e2 : ((Lm : Int) == 2) = false := by simp; omega
            clear h3' c0 c1 f0 f1
            rcases HQ.out.own.form with ⟨e, e'⟩ | ⟨gb, cb, e, _, hgb, hcb, _⟩
            · obtain rfl : Lm = 0 := by rw [← hLm, e']; rfl
              subst e'
              subst e
              clear e1 e2 hLm
              go_wp2_with fail
              go_quiet (fail)
              go_wp2_with fail
              have HE := hide (show OwnB wr base (.slice (some ⟨g, 0, none⟩) n cN) (setTs ns (cellsOf s [])) by rw [HC.out]; exact HQ.out.nx)
              have HE2 := hide HQ.out.gr
              go_loopw [60] (fun iv wz => iv = .int .i64 0 ∧ Hid (∃ q, wz = wr.drewN q)) (fun _ _ => 0)
              case atStart => exact ⟨rfl, hide ⟨_, rfl⟩⟩
              case round =>
                obtain ⟨rfl, HD⟩ := hrel
                have HE3 : Hid (OwnB wr base (.slice (some ⟨g, 0, none⟩) n cN) (setTs ns (cellsOf s [])) ∧ w.grownBy wr (some g)) := by
                  obtain ⟨q, hq⟩ := HD.out
                  rw [hq]
                  exact ⟨HE.out, ⟨HE2.out.os, HE2.out.tape, HE2.out.output, HE2.out.size, HE2.out.block⟩⟩
                go_wp2_with fail
                go_end0
                exact ⟨rfl, HE3.out.1, HE3.out.2⟩
            · rw [hLm] at e hcb
              subst e
              clear hLm
              go_wp2_with fail
              go_quiet (fail)
              go_wp2_with fail
              have HQ3 := hide (HQ.out.below (show Below wr.heap.size wr (wr.drewN nq) from below_drewN (Below.refl _ wr) _))

              go_loopw [60] (fun iv wr => ∃ j : Nat, iv = .int .i64 j ∧ j ≤ Lm ∧ Hid (SQ w s x y (some ⟨b, o, none⟩) n c sh bs base g cN (.slice (some ⟨gb, 0, none⟩) Lm cb) L (setTs ns ((L.take j).map (atC s))) wr)) (fun iv _ => Lm - (intOf iv).toNat)
              case atStart => exact ⟨0, rfl, by omega, hide (by simpa [setTs] using HQ3.out)⟩
              case round =>
                clear HQ3
                obtain ⟨j, rfl, hj, HQ⟩ := hrel
                by_cases hlt : j < Lm
                · obtain ⟨q0, q1, q2, q3⟩ := (show OwnG wr (w.heap.size + 2) (.slice (some ⟨gb, 0, none⟩) L.length cb) L by rw [HLm.out]; exact HQ.out.own).at_ j (by rw [HLm.out]; exact hlt)
                  obtain ⟨p1, p2, p3, p4, p5, p6, p7, p8, p9, p10⟩ := HOK.out j (by rw [HLm.out]; exact hlt)
                  obtain ⟨f0, f1⟩ := HQ.out.fb
                  have hsz := HQ.out.sz
                  have hs2 : w.heap.size < wr.heap.size := by omega
                  have HST := Lib.hid (show setTs ns ((L.take (j + 1)).map (atC s)) = (setTs ns ((L.take j).map (atC s))).set (atC s (gth L j)) true by
                    rw [take_succ_gth (by rw [HLm.out]; exact hlt), List.map_append, List.map_cons, List.map_nil, setTs_snoc])
                  have hcz : atC s (gth L j) < n := by rw [HN.out]; exact cellZ_lt _ _ _ (by omega)
                  have HCZ := Lib.hid (show cellZ s (gth L j).1 (gth L j).2.1 = atC s (gth L j) from rfl)
                  generalize atC s (gth L j) = cz at *
                  generalize (gth L j).1 = v0 at *
                  generalize (gth L j).2.1 = v1 at *
                  generalize (gth L j).2.2.1 = v2 at *
                  generalize (gth L j).2.2.2 = v3 at *
                  go_wp2_with fail
                  refine calls_named fun W hW => ?_
                  have hbW : Below wr.heap.size wr W := by rw [← hW]; exact (Below.refl _ wr).alloc (Nat.le_refl _) _
                  refine (placeIn_v cz s _ _ W HS.out (by omega) (by omega) HCZ.out).mono ?_
                  rintro e w3 ⟨rfl, hb3⟩
                  have HQ4 := hide (HQ.out.below (bseq hbW hb3))
                  clear q0 q1 q2 q3 f0 f1 hW hbW hb3
                  have m0 := HQ4.out.nx.cellAt HQ4.out.nlen cz hcz
                  have m1 := HQ4.out.nx.frozenAt HQ4.out.nlen cz
                  have HQ5 := hide (HQ4.out.set cz)
                  go_wp2_with fail
                  go_roundw
                  case rel => exact ⟨j + 1, by go_num, by omega, by have := HQ5.out; rw [HST.out]; exact this⟩
                  case measure => simp [intOf]; omega
                · obtain rfl : j = Lm := by omega
                  have HF := Lib.hid (show OwnB wr base (.slice (some ⟨g, 0, none⟩) n cN) (setTs ns (L.map (atC s))) by
                    have := HQ.out.nx
                    rwa [List.take_of_length_le (by rw [HLm.out]; exact Nat.le_refl _)] at this)
                  have HG := hide HQ.out.gr
                  go_wp2_with fail
                  go_end0
                  exact ⟨rfl, by rw [HC.out]; exact HF.out, HG.out⟩
end Go.Proofs.Ytmakpjcjccgalaa
