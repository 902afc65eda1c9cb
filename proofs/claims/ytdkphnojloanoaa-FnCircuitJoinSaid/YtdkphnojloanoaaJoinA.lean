/-
  slices.Concat and slices.Clip; CircuitJoin by the program and by the reference.
  No condition.
-/
import Derived.Test.YtdkphnojloanoaaJoin
import Derived.Test.YtdkphnojloanoaaCirc2
namespace Go.Proofs.Ytdkphnojloanoaa
open Go.RowKit Go.Sort base
theorem run_clip (b o n c : Nat) (hk : n ≤ c) (wx : World) : (Instr.slice 24 (.slice (some ⟨b, o, none⟩) n c) none (some (.int .i64 (n : Int))) (some (.int .i64 (n : Int)))).run Try.prog wx = .ok (.slice (some ⟨b, o, none⟩) n n) wx := by
  have h1 : (0 : Int) ≤ (n : Int) := by omega
  have h2 : (n : Int) ≤ (c : Int) := by omega
  have h3 : (n : Int) ≤ (n : Int) := by omega
  simp [Instr.slice, run_underlying Try.underlying24, Instr.sliceBounds, run_sliceBound _ _ _ _ h1 h2, run_sliceBound _ _ _ _ h1 h3, go_sem]
  exact fun h => absurd h (by omega)
set_option maxHeartbeats 400000 in
theorem clip_own (base : Nat) (v : Value) (gs : List G4) (w : World) (h : OwnG w base v gs) :
    Calls Try.prog 67 #[v] w fun e w' => (∃ A k, e = .returned (.slice A k k) ∧ GR w A k gs) ∧ w = w' := by
  rcases h.form with ⟨rfl, rfl⟩ | ⟨g, c, rfl, _, _, hc, hm⟩
  · go_enter Try.func67, Try.ntmps67
    go_wp2_with fail
    go_ret
    exact ⟨⟨none, 0, rfl, rfl, by simp, fun h => absurd h (by simp)⟩, rfl⟩
  · obtain ⟨A, c', e, hgr⟩ := h.gr
    simp only [Value.slice.injEq] at e
    rw [← e.1] at hgr
    have G := hide hgr
    have hcl := run_clip g 0 gs.length c hc
    obtain ⟨n, hn⟩ : ∃ n, gs.length = n := ⟨_, rfl⟩
    rw [hn] at hcl G ⊢
    clear hgr e hn h hc
    go_enter Try.func67, Try.ntmps67
    go_wp2_with fail
    go_ret
    exact ⟨⟨_, _, rfl, G.out⟩, rfl⟩
set_option maxHeartbeats 2000000 in
theorem concat_any (B : Nat) (A A' : Option Addr) (n c m d k : Nat) (a b : List G4) (w : World) (h0 : w.cell? ⟨B, 0, none⟩ = some (.slice A n c)) (h1 : w.cell? ⟨B, 1, none⟩ = some (.slice A' m d)) (ha : GR w A n a) (hb : GR w A' m b) (hk : n + m = k) (hk2 : k ≤ 48) :
    Calls Try.prog 68 #[.slice (some ⟨B, 0, none⟩) 2 2] w (RGates w (a ++ b)) := by
  have C0 := hide h0
  have C1 := hide h1
  have HA0 := hide ha
  have HB0 := hide hb
  have hB := World.block_lt_of_cell? w _ h0
  have hla := Lib.hid ha.len
  have hlb := Lib.hid hb.len
  have hkz : (n : Int) + m = k := by omega
  have HK := Lib.hid hk
  have hn48 : n ≤ 48 := by omega
  have hm48 : m ≤ 48 := by omega
  clear ha hb hk
  go_enter Try.func68, Try.ntmps68
  go_wp2_with fail
  go_loopw [3, 11] (fun sv iv wr => w = wr ∧ ((iv = .int .i64 0 ∧ sv = .int .i64 0) ∨ (iv = .int .i64 1 ∧ sv = .int .i64 n) ∨ (iv = .int .i64 2 ∧ sv = .int .i64 k))) (fun _ iv _ => 2 - (intOf iv).toNat)
  case atStart => exact ⟨rfl, .inl ⟨rfl, rfl⟩⟩
  case round =>
    obtain ⟨rfl, ⟨rfl, rfl⟩ | ⟨rfl, rfl⟩ | ⟨rfl, rfl⟩⟩ := hrel
    · have hn0 : ¬ (n : Int) < 0 := by omega
      go_wp2_with fail
      go_roundw
      case rel => exact ⟨by trivial, .inr (.inl ⟨by go_num, by go_num⟩)⟩
      case measure => simp [intOf]
    · have hn0 : ¬ (n : Int) + m < 0 := by omega
      have hn1 : ¬ (k : Int) < 0 := by omega
      go_wp2_with fail
      go_roundw
      case rel => exact ⟨by trivial, .inr (.inr ⟨by go_num, by go_num⟩)⟩
      case measure => simp [intOf]
    · clear h0 h1
      go_wp2_with fail
      refine (grow_any k _ hk2).mono ?_
      rintro e w1 ⟨⟨v1, rfl, ho1⟩, hb1⟩
      have O1 := hide ho1
      have B1 := hide hb1
      clear ho1 hb1
      go_wp2_with fail
      go_loopw [6, 27] (fun ov iv wr => ∃ v, ov = v ∧ Hid (Below w.heap.size w wr) ∧ ((iv = .int .i64 0 ∧ Hid (OwnG wr w.heap.size v [])) ∨ (iv = .int .i64 1 ∧ Hid (OwnG wr w.heap.size v a)) ∨ (iv = .int .i64 2 ∧ Hid (OwnG wr w.heap.size v (a ++ b))))) (fun _ iv _ => 2 - (intOf iv).toNat)
      case atStart => exact ⟨_, rfl, B1, .inl ⟨rfl, O1⟩⟩
      case round =>
        obtain ⟨v, rfl, HB, ⟨rfl, HO⟩ | ⟨rfl, HO⟩ | ⟨rfl, HO⟩⟩ := hrel
        · have c0 : wr.cell? ⟨B, 0, none⟩ = some (.slice A n c) := (HB.out.cell (p := ⟨B, 0, none⟩) hB).trans C0.out
          have hsz := HB.out.size
          go_wp2_with (at_builtin; refine wpList_append_gates HO.out (HA0.out.below HB.out) (.tmp 31) (.tmp 32) rfl rfl rfl rfl (by rw [hla.out]; simp; omega) hsz ?_; intro v9 w9 ho9 hg9; have O9 := hide (show OwnG w9 w.heap.size v9 a by simpa using ho9); have B9 := hide (HB.out.grown hg9 hsz (fun k hk => (HO.out.lt k hk).1)); clear ho9 hg9)
          go_roundw
          case rel => exact ⟨v9, rfl, B9, .inr (.inl ⟨by go_num, O9⟩)⟩
          case measure => simp [intOf]
        · have c1 : wr.cell? ⟨B, 1, none⟩ = some (.slice A' m d) := (HB.out.cell (p := ⟨B, 1, none⟩) hB).trans C1.out
          have hsz := HB.out.size
          go_wp2_with (at_builtin; refine wpList_append_gates HO.out (HB0.out.below HB.out) (.tmp 31) (.tmp 32) rfl rfl rfl rfl (by rw [hla.out, hlb.out]; omega) hsz ?_; intro v9 w9 ho9 hg9; have O9 := hide ho9; have B9 := hide (HB.out.grown hg9 hsz (fun k hk => (HO.out.lt k hk).1)); clear ho9 hg9)
          go_roundw
          case rel => exact ⟨v9, rfl, B9, .inr (.inr ⟨by go_num, O9⟩)⟩
          case measure => simp [intOf]
        · go_wp2_with fail
          go_ret
          exact ⟨⟨_, rfl, HO.out⟩, HB.out⟩
def joinQ (l : Int) (a b : List G4) : Bool := circQ l a && circQ l b && decide (a.length + b.length ≤ 24)
def joinG (l : Int) (a b : List G4) : List G4 := if joinQ l a b = true then a ++ b else []
theorem joinG_no {l : Int} {a b : List G4} (h : joinQ l a b = false) : joinG l a b = [] := by simp [joinG, h]
theorem joinG_ok {l : Int} {a b : List G4} (h : joinQ l a b = true) : joinG l a b = a ++ b := by simp [joinG, h]
theorem gr_nil (w : World) (A : Option Addr) : GR w A 0 [] := ⟨rfl, by simp, fun h => absurd h (by simp)⟩
def RJoin (w : World) (l : Int) (a b : List G4) (e : Ending) (w' : World) : Prop := ∃ A k c, e = .returned (.tuple #[.slice A k c, .bool (joinQ l a b)]) ∧ GR w' A k (joinG l a b) ∧ Below w.heap.size w w'
set_option maxHeartbeats 4000000 in
theorem join_any (l : Int) (A A' : Option Addr) (n c m d : Nat) (a b : List G4) (w : World) (ha : GR w A n a) (hb : GR w A' m b) (hn : n ≤ 25) (hm : m ≤ 25) :
    Calls Try.prog 37 #[.int .i64 l, .slice A n c, .slice A' m d] w (RJoin w l a b) := by
  have HA0 := hide ha
  have HB0 := hide hb
  have hla := Lib.hid ha.len
  have hlb := Lib.hid hb.len
  clear ha hb
  cases hq1 : circQ l a
  · have H1 := Lib.hid hq1
    have HQ := Lib.hid (show joinQ l a b = false by simp [joinQ, hq1])
    clear hq1
    go_enter Try.func37, Try.ntmps37
    go_wp2_with fail
    refine (circuitValid_b false l A n c a _ HA0.out H1.out).mono ?_
    rintro e w1 ⟨rfl, hb1⟩
    have B1 := hide hb1
    clear hb1
    go_wp2_with fail
    exact bodyPost_ret (v := .tuple #[.slice none 0 0, .bool false]) (by simp [results, Try.results37, go_sem]) rfl ⟨none, 0, 0, by rw [HQ.out], by rw [joinG_no HQ.out]; exact gr_nil _ _, B1.out⟩
  · have H1 := Lib.hid hq1
    cases hq2 : circQ l b
    · have H2 := Lib.hid hq2
      have HQ := Lib.hid (show joinQ l a b = false by simp [joinQ, hq2])
      clear hq1 hq2
      go_enter Try.func37, Try.ntmps37
      go_wp2_with fail
      refine (circuitValid_b true l A n c a _ HA0.out H1.out).mono ?_
      rintro e w1 ⟨rfl, hb1⟩
      have B1 := hide hb1
      clear hb1
      go_wp2_with fail
      refine (circuitValid_b false l A' m d b _ (HB0.out.below B1.out) H2.out).mono ?_
      rintro e w2 ⟨rfl, hb2⟩
      have B2 := hide (bseq B1.out hb2)
      clear hb2
      go_wp2_with fail
      exact bodyPost_ret (v := .tuple #[.slice none 0 0, .bool false]) (by simp [results, Try.results37, go_sem]) rfl ⟨none, 0, 0, by rw [HQ.out], by rw [joinG_no HQ.out]; exact gr_nil _ _, B2.out⟩
    · have H2 := Lib.hid hq2
      by_cases hgt : 24 < n + m
      · have HQ := Lib.hid (show joinQ l a b = false by rw [joinQ, hla.out, hlb.out, decide_eq_false (by omega), Bool.and_false])
        have hgz : (24 : Int) < (n : Int) + m := by omega
        clear hq1 hq2 hgt
        go_enter Try.func37, Try.ntmps37
        go_wp2_with fail
        refine (circuitValid_b true l A n c a _ HA0.out H1.out).mono ?_
        rintro e w1 ⟨rfl, hb1⟩
        have B1 := hide hb1
        clear hb1
        go_wp2_with fail
        refine (circuitValid_b true l A' m d b _ (HB0.out.below B1.out) H2.out).mono ?_
        rintro e w2 ⟨rfl, hb2⟩
        have B2 := hide (bseq B1.out hb2)
        clear hb2
        go_wp2_with fail
        exact bodyPost_ret (v := .tuple #[.slice none 0 0, .bool false]) (by simp [results, Try.results37, go_sem]) rfl ⟨none, 0, 0, by rw [HQ.out], by rw [joinG_no HQ.out]; exact gr_nil _ _, B2.out⟩
      · have HQ := Lib.hid (show joinQ l a b = true by rw [joinQ, hla.out, hlb.out, hq1, hq2, decide_eq_true (by omega)]; rfl)
        have hgz : ¬ (24 : Int) < (n : Int) + m := by omega
        clear hq1 hq2 hgt
        go_enter Try.func37, Try.ntmps37
        go_wp2_with fail
        refine (circuitValid_b true l A n c a _ HA0.out H1.out).mono ?_
        rintro e w1 ⟨rfl, hb1⟩
        have B1 := hide hb1
        clear hb1
        go_wp2_with fail
        refine (circuitValid_b true l A' m d b _ (HB0.out.below B1.out) H2.out).mono ?_
        rintro e w2 ⟨rfl, hb2⟩
        have B2 := hide (bseq B1.out hb2)
        clear hb2
        go_wp2_with fail
        refine (concat_any _ A A' n c m d (n + m) a b _ (cell_at rfl rfl) (cell_at rfl rfl) ((HA0.out.below B2.out).below ((Below.refl _ _).alloc (Nat.le_refl _) _)) ((HB0.out.below B2.out).below ((Below.refl _ _).alloc (Nat.le_refl _) _)) rfl (by omega)).mono ?_
        rintro e w3 ⟨⟨v3, rfl, ho3⟩, hb3⟩
        have O3 := hide ho3
        have B3 := hide (bseq (B2.out.alloc B2.out.size _) hb3)
        clear ho3 hb3
        go_wp2_with fail
        refine (clip_own _ _ _ _ O3.out).mono ?_
        rintro e w4 ⟨⟨A4, k4, rfl, hg4⟩, rfl⟩
        have G4' := hide hg4
        clear hg4
        go_wp2_with fail
        exact bodyPost_ret (v := .tuple #[.slice A4 k4 k4, .bool true]) (by simp [results, Try.results37, go_sem]) rfl ⟨A4, k4, k4, by rw [HQ.out], by rw [joinG_ok HQ.out]; exact G4'.out, B3.out⟩
set_option maxHeartbeats 4000000 in
theorem sJoin_any (l : Int) (A A' : Option Addr) (n c m d : Nat) (a b : List G4) (w : World) (ha : GR w A n a) (hb : GR w A' m b) (hn : n ≤ 25) (hm : m ≤ 25) :
    Calls Try.prog 38 #[.int .i64 l, .slice A n c, .slice A' m d] w (RJoin w l a b) := by
  have HA0 := hide ha
  have HB0 := hide hb
  have hla := Lib.hid ha.len
  have hlb := Lib.hid hb.len
  have hka : ∃ k, n + m = k ∧ k ≤ 50 := ⟨_, rfl, by omega⟩
  obtain ⟨k, hk, hk50⟩ := hka
  have HK := Lib.hid hk
  have O0 := hide (OwnG.nil0 w w.heap.size (Nat.le_refl _))
  have B0 := hide (show Below w.heap.size w (w.alloc (.cells #[] 33)) by go_grown)
  clear ha hb hk
  have hvals : ∃ q1 q2 q3, circQ l a = q1 ∧ circQ l b = q2 ∧ decide (k ≤ 24) = q3 := ⟨_, _, _, rfl, rfl, rfl⟩
  obtain ⟨q1, q2, q3, e1, e2, e3⟩ := hvals
  have H1 := Lib.hid e1
  have H2 := Lib.hid e2
  have HQ := Lib.hid (show joinQ l a b = (q1 && q2 && q3) by rw [joinQ, hla.out, hlb.out, HK.out, e1, e2, e3])
  have hkz : q3 = false ∧ (24 : Int) < (k : Int) ∨ q3 = true ∧ ¬ (24 : Int) < (k : Int) := by
    by_cases h : k ≤ 24
    · right; exact ⟨by rw [← e3]; simpa using h, by omega⟩
    · left; exact ⟨by rw [← e3]; simpa using h, by omega⟩
  clear e1 e2 e3
  go_enter Try.func38, Try.ntmps38
  go_wp2_with (at_builtin; first
    | (refine wpList_append_gates O0.out (HA0.out.below B0.out) (.tmp 9) (.tmp 10) rfl rfl rfl rfl (by rw [hla.out]; simp; omega) B0.out.size ?_; intro v1 w1 ho1 hg1; have O1 := hide (show OwnG w1 w.heap.size v1 a by simpa using ho1); have B1 := hide (B0.out.grown hg1 B0.out.size (fun k hk => (O0.out.lt k hk).1)); clear ho1 hg1)
    | (refine wpList_append_gates O1.out (HB0.out.below B1.out) (.tmp 11) (.tmp 12) rfl rfl rfl rfl (by rw [hla.out, hlb.out]; omega) B1.out.size ?_; intro v2 w2 ho2 hg2; have O2 := hide ho2; have B2 := hide (B1.out.grown hg2 B1.out.size (fun k hk => (O1.out.lt k hk).1)); clear ho2 hg2))
  obtain ⟨A3, c3, rfl, hg3⟩ := O2.out.gr
  have hk3 : (a ++ b).length = k := by rw [List.length_append, hla.out, hlb.out, HK.out]
  rw [hk3] at hg3 ⊢
  have G3 := hide hg3
  clear hg3 hk3 O1 O0 O2
  refine (sCircuitValid_b q1 l A n c a _ (HA0.out.below B2.out) H1.out).mono ?_
  rintro e w3 ⟨rfl, hb3⟩
  have B3 := hide (bseq B2.out hb3)
  have G3' := hide (G3.out.below hb3)
  clear hb3
  cases q1
  · go_wp2_with fail
    refine bodyPost_ret (v := .tuple #[.slice _ 0 0, .bool false]) (by simp [results, Try.results38, go_sem]; rfl) rfl ?_
    exact ⟨_, 0, 0, by rw [HQ.out]; rfl, by rw [joinG_no (by rw [HQ.out]; rfl)]; exact gr_nil _ _, B3.out.alloc B3.out.size _⟩
  · go_wp2_with fail
    refine (sCircuitValid_b q2 l A' m d b _ (HB0.out.below B3.out) H2.out).mono ?_
    rintro e w4 ⟨rfl, hb4⟩
    have B4 := hide (bseq B3.out hb4)
    have G4' := hide (G3'.out.below hb4)
    clear hb4
    cases q2
    · go_wp2_with fail
      refine bodyPost_ret (v := .tuple #[.slice _ 0 0, .bool false]) (by simp [results, Try.results38, go_sem]; rfl) rfl ?_
      exact ⟨_, 0, 0, by rw [HQ.out]; rfl, by rw [joinG_no (by rw [HQ.out]; rfl)]; exact gr_nil _ _, B4.out.alloc B4.out.size _⟩
    · rcases hkz with ⟨rfl, hz⟩ | ⟨rfl, hz⟩
      · go_wp2_with fail
        refine bodyPost_ret (v := .tuple #[.slice _ 0 0, .bool false]) (by simp [results, Try.results38, go_sem]; rfl) rfl ?_
        exact ⟨_, 0, 0, by rw [HQ.out]; rfl, by rw [joinG_no (by rw [HQ.out]; rfl)]; exact gr_nil _ _, B4.out.alloc B4.out.size _⟩
      · go_wp2_with fail
        exact bodyPost_ret (v := .tuple #[.slice A3 k c3, .bool true]) (by simp [results, Try.results38, go_sem]) rfl ⟨A3, k, c3, by rw [HQ.out]; rfl, by rw [joinG_ok (by rw [HQ.out]; rfl)]; exact G4'.out, B4.out⟩
end Go.Proofs.Ytdkphnojloanoaa
