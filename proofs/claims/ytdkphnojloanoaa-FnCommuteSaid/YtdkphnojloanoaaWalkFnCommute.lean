/-
  The walk of the law FnCommute: it returns true at every input, and turns nothing that was there.
  No condition.
-/
import Derived.Test.YtdkphnojloanoaaDrawGates2
import Derived.Test.YtdkphnojloanoaaGateLaw2
import Derived.Test.YtdkphnojloanoaaSComm
namespace Go.Proofs.Ytdkphnojloanoaa
open Go.RowKit Go.Sort base
/-- two gates, twice behind each other, at a word -/
def twiceAt (k : Int) (a b c : Nat) (k' : Int) (a' b' c' : Nat) (x : Nat) : Bool := runG k' a' b' c' (runG k a b c (runG k' a' b' c' (runG k a b c x))) == x
theorem lt256 {n a b c x : Nat} {k : Int} (h : gateQ n k a b c = true) (hx : x < 256) : runG k a b c x < 256 := by
  have := gateQ_in h
  exact runG_lt (n := 8) (by omega) (by omega) (by omega) hx
theorem twice_is {n a b c a' b' c' x : Nat} {k k' : Int} (h : gateQ n k a b c = true) (h' : gateQ n k' a' b' c' = true) (hx : x < 256) : twiceAt k a b c k' a' b' c' x = commAt k a b c k' a' b' c' x := by
  have A := fun y (hy : y < 256) => undo_all (x := y) h hy
  have B := fun y (hy : y < 256) => undo_all (x := y) h' hy
  have LA := fun y (hy : y < 256) => lt256 (x := y) h hy
  have LB := fun y (hy : y < 256) => lt256 (x := y) h' hy
  rw [Bool.eq_iff_iff]
  simp only [twiceAt, commAt, beq_iff_eq]
  constructor
  · intro e
    have e1 : runG k a b c (runG k' a' b' c' (runG k' a' b' c' (runG k a b c (runG k' a' b' c' (runG k a b c x))))) = runG k a b c (runG k' a' b' c' x) := by rw [e]
    rw [B _ (LA _ (LB _ (LA _ hx))), A _ (LB _ (LA _ hx))] at e1
    exact e1.symm
  · intro e
    rw [← e, A _ (LB _ hx), B _ hx]
def noneTo (k : Int) (a b c : Nat) (k' : Int) (a' b' c' : Nat) (m : Nat) : Bool := (List.range m).all (twiceAt k a b c k' a' b' c')
theorem noneTo_succ (k : Int) (a b c : Nat) (k' : Int) (a' b' c' : Nat) (m : Nat) : noneTo k a b c k' a' b' c' (m + 1) = (noneTo k a b c k' a' b' c' m && twiceAt k a b c k' a' b' c' m) := by
  simp [noneTo, List.range_succ, List.all_append]
theorem all_same {m : Nat} {p q : Nat → Bool} (h : ∀ x, x < m → p x = q x) : (List.range m).all p = (List.range m).all q := by
  rw [Bool.eq_iff_iff, List.all_eq_true, List.all_eq_true]
  constructor
  · intro a x hx; rw [← h x (by simpa using hx)]; exact a x hx
  · intro a x hx; rw [h x (by simpa using hx)]; exact a x hx
theorem comm_sym (l k a b c k' a' b' c' : Int) : commQ l k' a' b' c' k a b c = commQ l k a b c k' a' b' c' := by
  unfold commQ
  rw [Bool.and_comm (gateQ l k' a' b' c')]
  congr 1
  exact all_same fun x _ => by unfold commAt; rw [Bool.eq_iff_iff, beq_iff_eq, beq_iff_eq]; exact eq_comm
theorem comm_self {l k a b c : Int} (h : gateQ l k a b c = true) : commQ l k a b c k a b c = true := by
  unfold commQ
  rw [h, Bool.true_and, Bool.true_and, List.all_eq_true]
  intro x _
  simp [commAt]
structure ComF (n : Nat) (k : Int) (a b c : Nat) (k' : Int) (a' b' c' P : Nat) : Prop where
  w : wrap64 (2 ^ n) = (P : Int)
  p : P ≤ 256
  all : noneTo k a b c k' a' b' c' P = commQ n k a b c k' a' b' c'
  run : ∀ j, j < P → ∃ y1 y2 y3 y4 : Nat, gateRun n k a b c j = (y1 : Int) ∧ gateRun n k' a' b' c' y1 = (y2 : Int) ∧ gateRun n k a b c y2 = (y3 : Int) ∧ gateRun n k' a' b' c' y3 = (y4 : Int) ∧ ((y4 : Int) == (j : Int)) = twiceAt k a b c k' a' b' c' j
theorem com_facts {n a b c a' b' c' : Nat} {k k' : Int} (hn1 : 1 ≤ n) (hn8 : n ≤ 8) (ha : a < n) (hb : b < n) (hc : c < n) (ha' : a' < n) (hb' : b' < n) (hc' : c' < n) (hg : gateQ n k a b c = true) (hg' : gateQ n k' a' b' c' = true) : ∃ P, ComF n k a b c k' a' b' c' P := by
  have hP := pow_le8 hn8
  have hv : ∀ j : Nat, j < 2 ^ n → wv (n : Int) (j : Int) = true := fun j hj => by rw [wv_nat hn1 hn8]; simpa using hj
  refine ⟨2 ^ n, wrap_pow8 hn8, hP, ?_, fun j hj => ?_⟩
  · rw [commQ_ok hg hg']
    exact all_same fun x hx => twice_is hg hg' (by omega)
  · have l1 := runG_lt (k := k) ha hb hc hj
    have l2 := runG_lt (k := k') ha' hb' hc' l1
    have l3 := runG_lt (k := k) ha hb hc l2
    refine ⟨_, _, _, _, gateRun_ok hg (hv _ hj), gateRun_ok hg' (hv _ l1), gateRun_ok hg (hv _ l2), gateRun_ok hg' (hv _ l3), ?_⟩
    rw [Bool.eq_iff_iff]
    simp only [twiceAt, beq_iff_eq]
    omega
theorem gateRun_b (v : Int) (l k a b c x : Int) (h : gateRun l k a b c x = v) (w : World) :
    Calls Try.prog 22 #[.int .i64 l, .agg #[.int .i64 k, .int .i64 a, .int .i64 b, .int .i64 c], .int .i64 x] w fun e w' => e = .returned (.int .i64 v) ∧ Below w.heap.size w w' := by
  subst h; exact gateRun_any l k a b c x w
theorem commute_b (v : Bool) (l k a b c k' a' b' c' : Int) (h : commQ l k a b c k' a' b' c' = v) (w : World) :
    Calls Try.prog 30 #[.int .i64 l, .agg #[.int .i64 k, .int .i64 a, .int .i64 b, .int .i64 c], .agg #[.int .i64 k', .int .i64 a', .int .i64 b', .int .i64 c']] w fun e w' => e = .returned (.bool v) ∧ Below w.heap.size w w' := by subst h; exact commute_any l k a b c k' a' b' c' w
theorem sCommute_b (v : Bool) (l k a b c k' a' b' c' : Int) (h : commQ l k a b c k' a' b' c' = v) (w : World) :
    Calls Try.prog 31 #[.int .i64 l, .agg #[.int .i64 k, .int .i64 a, .int .i64 b, .int .i64 c], .agg #[.int .i64 k', .int .i64 a', .int .i64 b', .int .i64 c']] w fun e w' => e = .returned (.bool v) ∧ Below w.heap.size w w' := by subst h; exact sCommute_any l k a b c k' a' b' c' w
set_option maxRecDepth 100000 in
set_option maxHeartbeats 8000000 in
theorem walk_FnCommute (A : Option Addr) (n c : Nat) (zs : List Int) (w : World) (h : IRk .u8 w A n zs) (hz : ∀ z ∈ zs, (Lit.int .u8 z).wf = true) (hc : n ≤ c) :
    Calls Try.prog 7 #[.slice A n c] w fun e w' => e = .returned (.bool true) ∧ Below w.heap.size w w' := by
  have hmax := h.max
  by_cases hbig : 1048576 < n
  · clear h hz
    go_enter Try.func7, Try.ntmps7
    go_wp2_with fail
    go_ret
    exact ⟨rfl, Below.refl _ _⟩
  have H := hide (drawCommute_b A n c zs w h hz hc)
  clear h hz
  go_enter Try.func7, Try.ntmps7
  go_wp2_with fail
  refine H.out.mono ?_
  rintro e w1 ⟨l, k, a, b, d, k', a', b', d', rfl, hl, hb1⟩
  have hs1 := hb1.size
  have X1 := hide ((Box4.made w1 k a b d 33).below ((Below.refl _ _).alloc (Nat.le_refl _) (.cells #[.int .i64 k', .int .i64 a', .int .i64 b', .int .i64 d'] 33)))
  have Y1 : Hid (Box4 ((w1.alloc (.cells #[.int .i64 k, .int .i64 a, .int .i64 b, .int .i64 d] 33)).alloc (.cells #[.int .i64 k', .int .i64 a', .int .i64 b', .int .i64 d'] 33)) (w1.heap.size + 1) k' a' b' d') := by
    have := Box4.made (w1.alloc (.cells #[.int .i64 k, .int .i64 a, .int .i64 b, .int .i64 d] 33)) k' a' b' d' 33
    rwa [World.size_alloc] at this
  have B1 : Hid (Below w.heap.size w ((w1.alloc (.cells #[.int .i64 k, .int .i64 a, .int .i64 b, .int .i64 d] 33)).alloc (.cells #[.int .i64 k', .int .i64 a', .int .i64 b', .int .i64 d'] 33))) := (hb1.alloc hs1 _).alloc (by simp; omega) _
  clear hb1 hl
  obtain ⟨ok, hok⟩ : ∃ ok, commQ l k a b d k' a' b' d' = ok := ⟨_, rfl⟩
  have HOK := Lib.hid hok
  have HSY := Lib.hid (show commQ l k' a' b' d' k a b d = ok by rw [comm_sym, hok])
  clear hok
  have e1 : (ok != ok) = false := by simp
  go_wp2_with fail
  refine (commute_b ok l k a b d k' a' b' d' HOK.out _).mono ?_
  rintro e w2 ⟨rfl, hb⟩
  have X2 := hide (X1.out.below hb)
  have Y2 := hide (Y1.out.below hb)
  have B2 := hide (B1.out.trans (hb.mono B1.out.size))
  clear hb
  obtain ⟨xc0, xc1, xc2, xc3⟩ := X2.out
  obtain ⟨yc0, yc1, yc2, yc3⟩ := Y2.out
  go_wp2_with fail
  clear xc0 xc1 xc2 xc3
  clear yc0 yc1 yc2 yc3
  refine (sCommute_b ok l k a b d k' a' b' d' HOK.out _).mono ?_
  rintro e w3 ⟨rfl, hb⟩
  have X3 := hide (X2.out.below hb)
  have Y3 := hide (Y2.out.below hb)
  have B3 := hide (B2.out.trans (hb.mono B2.out.size))
  clear hb
  cases hg : gateQ l k a b d
  · have HG := Lib.hid hg
    obtain rfl : ok = false := by rw [← HOK.out, commQ, hg]; rfl
    clear hg
    obtain ⟨xc0, xc1, xc2, xc3⟩ := X3.out
    obtain ⟨yc0, yc1, yc2, yc3⟩ := Y3.out
    go_wp2_with fail
    clear xc0 xc1 xc2 xc3
    clear yc0 yc1 yc2 yc3
    refine (sGateValid_b false l k a b d HG.out _).mono ?_
    rintro e w4 ⟨rfl, hb⟩
    have X4 := hide (X3.out.below hb)
    have Y4 := hide (Y3.out.below hb)
    have B4 := hide (B3.out.trans (hb.mono B3.out.size))
    clear hb
    go_wp2_with fail
    refine (alive_any _).mono ?_
    rintro e w' ⟨rfl, rfl⟩
    go_wp2_with fail
    go_ret
    exact ⟨by first | rfl | simp | (simp; omega), B4.out⟩
  · cases hg' : gateQ l k' a' b' d'
    · have HG := Lib.hid hg
      have HG' := Lib.hid hg'
      obtain rfl : ok = false := by rw [← HOK.out, commQ, hg, hg']; rfl
      clear hg hg'
      obtain ⟨xc0, xc1, xc2, xc3⟩ := X3.out
      obtain ⟨yc0, yc1, yc2, yc3⟩ := Y3.out
      go_wp2_with fail
      clear xc0 xc1 xc2 xc3
      clear yc0 yc1 yc2 yc3
      refine (sGateValid_b true l k a b d HG.out _).mono ?_
      rintro e w4 ⟨rfl, hb⟩
      have X4 := hide (X3.out.below hb)
      have Y4 := hide (Y3.out.below hb)
      have B4 := hide (B3.out.trans (hb.mono B3.out.size))
      clear hb
      obtain ⟨xc0, xc1, xc2, xc3⟩ := X4.out
      obtain ⟨yc0, yc1, yc2, yc3⟩ := Y4.out
      go_wp2_with fail
      clear xc0 xc1 xc2 xc3
      clear yc0 yc1 yc2 yc3
      refine (sGateValid_b false l k' a' b' d' HG'.out _).mono ?_
      rintro e w5 ⟨rfl, hb⟩
      have X5 := hide (X4.out.below hb)
      have Y5 := hide (Y4.out.below hb)
      have B5 := hide (B4.out.trans (hb.mono B4.out.size))
      clear hb
      go_wp2_with fail
      refine (alive_any _).mono ?_
      rintro e w' ⟨rfl, rfl⟩
      go_wp2_with fail
      go_ret
      exact ⟨by first | rfl | simp | (simp; omega), B5.out⟩
    · have HG := Lib.hid hg
      have HG' := Lib.hid hg'
      have HSE := Lib.hid (comm_self hg)
      obtain ⟨m, a, b, d, rfl, rfl, rfl, rfl, hn1, hn8, ha, hb, hd⟩ := natsG hg
      obtain ⟨m', a', b', d', hm, rfl, rfl, rfl, _, _, ha', hb', hd'⟩ := natsG hg'
      obtain rfl : m = m' := by omega
      obtain ⟨P, hF⟩ := com_facts hn1 hn8 ha hb hd ha' hb' hd' hg hg'
      have hw := hF.w
      have hP := hF.p
      have HF := hide hF
      clear hF hm hg hg' ha hb hd ha' hb' hd'
      obtain ⟨xc0, xc1, xc2, xc3⟩ := X3.out
      obtain ⟨yc0, yc1, yc2, yc3⟩ := Y3.out
      go_wp2_with fail
      clear xc0 xc1 xc2 xc3
      clear yc0 yc1 yc2 yc3
      refine (sGateValid_b true _ _ _ _ _ HG.out _).mono ?_
      rintro e w4 ⟨rfl, hb⟩
      have X4 := hide (X3.out.below hb)
      have Y4 := hide (Y3.out.below hb)
      have B4 := hide (B3.out.trans (hb.mono B3.out.size))
      clear hb
      obtain ⟨xc0, xc1, xc2, xc3⟩ := X4.out
      obtain ⟨yc0, yc1, yc2, yc3⟩ := Y4.out
      go_wp2_with fail
      clear xc0 xc1 xc2 xc3
      clear yc0 yc1 yc2 yc3
      refine (sGateValid_b true _ _ _ _ _ HG'.out _).mono ?_
      rintro e w5 ⟨rfl, hb⟩
      have X5 := hide (X4.out.below hb)
      have Y5 := hide (Y4.out.below hb)
      have B5 := hide (B4.out.trans (hb.mono B4.out.size))
      clear hb
      go_wp2_with fail
      go_loopw [7, 8] (fun sv iv wr => ∃ (j : Nat) (sb : Bool), j ≤ P ∧ iv = .int .i64 j ∧ sv = .bool sb ∧ Hid (noneTo k a b d k' a' b' d' j = sb) ∧ Hid (Below w.heap.size w wr) ∧ Hid (Box4 wr w1.heap.size k a b d) ∧ Hid (Box4 wr (w1.heap.size + 1) k' a' b' d')) (fun _ iv _ => P - (intOf iv).toNat)
      case atStart => exact ⟨0, true, by omega, rfl, rfl, rfl, B5.out, X5.out, Y5.out⟩
      case round =>
        obtain ⟨j, sb, hj, rfl, rfl, HS, HB, HX, HY⟩ := hrel
        by_cases hlt : j < P
        · obtain ⟨y1, y2, y3, y4, h1, h2, h3, h4, h5⟩ := HF.out.run j hlt
          have H1 := Lib.hid h1
          have H2 := Lib.hid h2
          have H3 := Lib.hid h3
          have H4 := Lib.hid h4
          have H5 := Lib.hid h5
          clear h1 h2 h3 h4 h5
          obtain ⟨c0, c1, c2, c3⟩ := HX.out
          obtain ⟨d0, d1, d2, d3⟩ := HY.out
          have k0 := cell_regrown c0
          have k1 := cell_regrown c1
          have k2 := cell_regrown c2
          have k3 := cell_regrown c3
          have l0 := cell_regrown d0
          have l1 := cell_regrown d1
          have l2 := cell_regrown d2
          have l3 := cell_regrown d3
          clear c0 c1 c2 c3 d0 d1 d2 d3
          go_wp2_with fail
          refine wp_region_below (by kernel_rfl) (by kernel_rfl) ?_
          repeat (go_big_quiet_step ((go_at_call 22; first | (with_reducible exact below_of rfl (fun W => gateRun_b y1 _ _ _ _ _ _ H1.out W)) | (with_reducible exact below_of rfl (fun W => gateRun_b y2 _ _ _ _ _ _ H2.out W)))))
          refine wpQuiet_nil ?_
          intro p
          obtain ⟨w8, hw8⟩ : ∃ w8, grow (redrawn wr p.d) p.os = w8 := ⟨_, rfl⟩
          have hb8 : Below wr.heap.size wr w8 := by rw [← hw8]; exact below_regrown wr p.d p.os
          rw [hw8]
          have HB := hide (bseq HB.out hb8)
          have HX := hide (HX.out.below hb8)
          have HY := hide (HY.out.below hb8)
          clear hw8 hb8 k0 k1 k2 k3 l0 l1 l2 l3 p
          cases sb
          · obtain ⟨c0, c1, c2, c3⟩ := HX.out
            obtain ⟨d0, d1, d2, d3⟩ := HY.out
            have k0 := cell_regrown c0
            have k1 := cell_regrown c1
            have k2 := cell_regrown c2
            have k3 := cell_regrown c3
            have l0 := cell_regrown d0
            have l1 := cell_regrown d1
            have l2 := cell_regrown d2
            have l3 := cell_regrown d3
            clear c0 c1 c2 c3 d0 d1 d2 d3
            go_wp2_with fail
            refine wp_region_below (by kernel_rfl) (by kernel_rfl) ?_
            repeat (go_big_quiet_step ((go_at_call 22; first | (with_reducible exact below_of rfl (fun W => gateRun_b y3 _ _ _ _ _ _ H3.out W)) | (with_reducible exact below_of rfl (fun W => gateRun_b y4 _ _ _ _ _ _ H4.out W)))))
            refine wpQuiet_nil ?_
            intro p
            obtain ⟨w9, hw9⟩ : ∃ w9, grow (redrawn w8 p.d) p.os = w9 := ⟨_, rfl⟩
            have hb9 : Below w8.heap.size w8 w9 := by rw [← hw9]; exact below_regrown w8 p.d p.os
            rw [hw9]
            have HB := hide (bseq HB.out hb9)
            have HX := hide (HX.out.below hb9)
            have HY := hide (HY.out.below hb9)
            clear hw9 hb9 k0 k1 k2 k3 l0 l1 l2 l3 p
            go_wp2_with fail
            go_roundw
            case rel => exact ⟨j + 1, false, by omega, by go_num, rfl, hide (by rw [noneTo_succ, HS.out]; rfl), HB, HX, HY⟩
            case measure => simp [intOf]; omega
          · obtain ⟨c0, c1, c2, c3⟩ := HX.out
            obtain ⟨d0, d1, d2, d3⟩ := HY.out
            have k0 := cell_regrown c0
            have k1 := cell_regrown c1
            have k2 := cell_regrown c2
            have k3 := cell_regrown c3
            have l0 := cell_regrown d0
            have l1 := cell_regrown d1
            have l2 := cell_regrown d2
            have l3 := cell_regrown d3
            clear c0 c1 c2 c3 d0 d1 d2 d3
            go_wp2_with fail
            refine wp_region_below (by kernel_rfl) (by kernel_rfl) ?_
            repeat (go_big_quiet_step ((go_at_call 22; first | (with_reducible exact below_of rfl (fun W => gateRun_b y3 _ _ _ _ _ _ H3.out W)) | (with_reducible exact below_of rfl (fun W => gateRun_b y4 _ _ _ _ _ _ H4.out W)))))
            refine wpQuiet_nil ?_
            intro p
            obtain ⟨w9, hw9⟩ : ∃ w9, grow (redrawn w8 p.d) p.os = w9 := ⟨_, rfl⟩
            have hb9 : Below w8.heap.size w8 w9 := by rw [← hw9]; exact below_regrown w8 p.d p.os
            rw [hw9]
            have HB := hide (bseq HB.out hb9)
            have HX := hide (HX.out.below hb9)
            have HY := hide (HY.out.below hb9)
            clear hw9 hb9 k0 k1 k2 k3 l0 l1 l2 l3 p
            go_wp2_with fail
            go_roundw
            case rel => exact ⟨j + 1, _, by omega, by go_num, rfl, hide (by rw [noneTo_succ, HS.out, ← H5.out]; rfl), HB, HX, HY⟩
            case measure => simp [intOf]; omega
        · obtain rfl : j = P := by omega
          have HSB := Lib.hid (show sb = ok by rw [← HS.out, HF.out.all, HOK.out])
          obtain ⟨sb', hsb⟩ : ∃ s, sb = s := ⟨_, rfl⟩
          obtain rfl := HSB.out
          have e3 : (sb == sb) = true := by simp
          obtain ⟨c0, c1, c2, c3⟩ := HX.out
          obtain ⟨d0, d1, d2, d3⟩ := HY.out
          clear hsb
          go_wp2_with fail
          clear c0 c1 c2 c3 d0 d1 d2 d3
          refine (commute_b sb _ _ _ _ _ _ _ _ _ HSY.out _).mono ?_
          rintro e w10 ⟨rfl, hb⟩
          have HB := hide (bseq HB.out hb)
          have HX := hide (HX.out.below hb)
          clear hb
          obtain ⟨c0, c1, c2, c3⟩ := HX.out
          go_wp2_with fail
          clear c0 c1 c2 c3
          refine (commute_b true _ _ _ _ _ _ _ _ _ HSE.out _).mono ?_
          rintro e w11 ⟨rfl, hb⟩
          have HB := hide (bseq HB.out hb)
          clear hb
          go_wp2_with fail
          go_ret
          exact ⟨rfl, HB.out⟩
end Go.Proofs.Ytdkphnojloanoaa
