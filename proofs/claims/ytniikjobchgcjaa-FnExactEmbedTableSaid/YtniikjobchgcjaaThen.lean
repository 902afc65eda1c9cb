/-
  One function behind another one: FuncThen of the program and of the reference.
  No condition.
-/
import Derived.Test.YtniikjobchgcjaaMade
namespace Go.Proofs.Ytniikjobchgcjaa
open Go.RowKit Go.Sort base
def funcThen (i m o : Int) (f g : List Int) : List Int := if fnOk i m f && fnOk m o g then tab f.length fun k => nth g (nth f k).toNat else []
theorem fnOk_ne {i o : Int} {f : List Int} (h : fnOk i o f = true) : 0 < f.length := by
  obtain ⟨hi, _, hl, _⟩ := fnOk_out h
  rcases pw_cases hi with ⟨_, e⟩ | ⟨_, e⟩ | ⟨_, e⟩ | ⟨_, e⟩ <;> omega
theorem fnOk_len {i o : Int} {f : List Int} (h : fnOk i o f = true) : f.length ≤ 16 := by
  obtain ⟨hi, _, hl, _⟩ := fnOk_out h
  exact in14_len hi hl
theorem funcThen_len (i m o : Int) (f g : List Int) : (funcThen i m o f g).length ≤ 4000000 := by
  unfold funcThen
  split
  · rename_i h
    rw [Bool.and_eq_true] at h
    rw [tab_len]; have := fnOk_len h.1; omega
  · simp
set_option maxHeartbeats 1000000 in
theorem funcThen_any (i m o : Int) (A B : Option Addr) (n c n2 d : Nat) (f g : List Int) (w : World) (hf : IR w A n f) (hg : IR w B n2 g) :
    Calls Try.prog 10 #[.int .i64 i, .int .i64 m, .int .i64 o, .slice A n c, .slice B n2 d] w (RInts w (funcThen i m o f g)) := by
  have HF := hide hf
  have HG := hide hg
  have hlf := hf.len
  have hlg := hg.len
  cases h1 : fnOk i m f
  · have HS := Lib.hid (show funcThen i m o f g = [] by simp [funcThen, h1])
    clear hf hg
    go_enter Try.func10, Try.ntmps10
    go_wp2_with fail
    refine (funcValid_b false i m A n c f _ HF.out h1).mono ?_
    rintro e w1 ⟨rfl, hb1⟩
    go_wp2_with fail
    go_ret
    exact ⟨⟨_, rfl, by rw [HS.out]; exact Own.nil_ _ _⟩, hb1⟩
  · cases h2 : fnOk m o g
    · have HS := Lib.hid (show funcThen i m o f g = [] by simp [funcThen, h2])
      clear hf hg
      go_enter Try.func10, Try.ntmps10
      go_wp2_with fail
      refine (funcValid_b true i m A n c f _ HF.out h1).mono ?_
      rintro e w1 ⟨rfl, hb1⟩
      have HG1 := hide (HG.out.below hb1)
      have B1 := hide hb1
      clear hb1
      go_wp2_with fail
      refine (funcValid_b false m o B n2 d g _ HG1.out h2).mono ?_
      rintro e w2 ⟨rfl, hb2⟩
      go_wp2_with fail
      go_ret
      exact ⟨⟨_, rfl, by rw [HS.out]; exact Own.nil_ _ _⟩, bseq B1.out hb2⟩
    · have HS := Lib.hid (show funcThen i m o f g = tab n fun k => nth g (nth f k).toNat by simp [funcThen, h1, h2, hlf])
      have hn : n ≤ 16 := by have := fnOk_len h1; omega
      have HR := hide (show ∀ k, k < n → 0 ≤ nth f k ∧ nth f k < (n2 : Int) by
        obtain ⟨_, _, _, hr⟩ := fnOk_out h1
        obtain ⟨_, _, hl, _⟩ := fnOk_out h2
        intro k hk
        have := hr k (by omega)
        omega)
      obtain ⟨_, _, hta⟩ := hf
      obtain ⟨_, hm2, htb⟩ := hg
      clear hlf hlg
      go_enter Try.func10, Try.ntmps10
      go_wp2_with fail
      refine (funcValid_b true i m A n c f _ HF.out h1).mono ?_
      rintro e w1 ⟨rfl, hb1⟩
      have HG1 := hide (HG.out.below hb1)
      have B1 := hide hb1
      clear hb1
      go_wp2_with fail
      refine (funcValid_b true m o B n2 d g _ HG1.out h2).mono ?_
      rintro e w2 ⟨rfl, hb2⟩
      have B2 := hide (bseq B1.out hb2)
      have hs2 := B2.out.size
      clear hb2
      go_wp2_with (at_make; refine wpList_make0_ints w.heap.size n rfl _ _ rfl rfl _ rfl rfl (by omega) hs2 ?_; intro w3 ho3 hb3 _)
      have B3 := hide (B2.out.trans hb3)
      have O3 := hide ho3
      clear hb3 ho3
      go_loopw [11, 31] (fun v i wr => ∃ (V : Value) (k : Nat), V = v ∧ k ≤ n ∧ i = .int .i64 k ∧ Own wr w.heap.size v (tab k fun k => nth g (nth f k).toNat) ∧ Below w.heap.size w wr) (fun _ i _ => n - (intOf i).toNat)
      case atStart => exact ⟨_, 0, rfl, by omega, rfl, O3.out, B3.out⟩
      case round =>
        obtain ⟨V, k, rfl, hk, rfl, ho, hbw⟩ := hrel
        have HO := hide ho
        have HB := hide hbw
        have hs := hbw.size
        clear ho
        by_cases hlt : k < n
        · obtain ⟨r1, r2⟩ := HR.out k hlt
          obtain ⟨b1, o1, rfl, hbl1, hc1⟩ := hta (by omega)
          obtain ⟨b2, o2, rfl, hbl2, hc2⟩ := htb (by omega)
          obtain ⟨j, hj⟩ := Int.eq_ofNat_of_zero_le r1
          have g1 : wr.cell? ⟨b1, o1 + k, none⟩ = some (.int .i64 (nth f k)) := (hbw.cell (p := ⟨b1, o1 + k, none⟩) hbl1).trans (hc1 k hlt)
          have g2 : wr.cell? ⟨b2, o2 + j, none⟩ = some (.int .i64 (nth g j)) := (hbw.cell (p := ⟨b2, o2 + j, none⟩) hbl2).trans (hc2 j (by omega))
          have hj2 : j < n2 := by omega
          have HJ := Lib.hid (show nth g (nth f k).toNat = nth g j by rw [hj]; rfl)
          rw [hj] at g1
          clear hta htb hc1 hc2 hbw hj r1 r2
          go_wp2_with (at_builtin; refine wpList_append1 HO.out (.tmp 35) (.tmp 40) (by rfl) rfl rfl rfl (by rw [tab_len]; omega) hs ?_; intro v2 w2 ho2 hb2 _ _)
          go_roundw
          case rel => exact ⟨_, k + 1, rfl, by omega, by go_num, by rw [tab_succ, HJ.out]; exact ho2, HB.out.trans hb2⟩
          case measure => simp [intOf]; omega
        · obtain rfl : k = n := by omega
          clear hbw
          go_wp2_with fail
          go_ret
          exact ⟨⟨_, rfl, by rw [HS.out]; exact HO.out⟩, HB.out⟩
set_option maxHeartbeats 1000000 in
theorem sFuncThen_any (i m o : Int) (A B : Option Addr) (n c n2 d : Nat) (f g : List Int) (w : World) (hf : IR w A n f) (hg : IR w B n2 g) :
    Calls Try.prog 8 #[.int .i64 i, .int .i64 m, .int .i64 o, .slice A n c, .slice B n2 d] w (RInts w (funcThen i m o f g)) := by
  have hmf := hf.max
  have hbn : Below w.heap.size w (w.alloc (.cells #[] 3)) := (Below.refl _ w).alloc (Nat.le_refl _) _
  have HON := hide (Own.nil0 w w.heap.size (Nat.le_refl _))
  have HBN := hide hbn
  have HF := hide hf
  have HG := hide hg
  have HF1 := hide (hf.below hbn)
  have HG1 := hide (hg.below hbn)
  have hlf := hf.len
  have hlg := hg.len
  clear hbn
  by_cases h0 : n = 0
  · subst h0
    have HS := Lib.hid (show funcThen i m o f g = [] by
      cases h1 : fnOk i m f
      · simp [funcThen, h1]
      · have := fnOk_ne h1; omega)
    clear hf hg
    go_enter Try.func8, Try.ntmps8
    go_wp2_with fail
    go_loopw [11, 12] (fun v i wr => v = .slice (some ⟨w.heap.size, 0, none⟩) 0 0 ∧ i = .int .i64 0 ∧ wr = w.alloc (.cells #[] 3)) (fun _ _ _ => 0)
    case atStart => exact ⟨rfl, rfl, rfl⟩
    case round =>
      obtain ⟨rfl, rfl, rfl⟩ := hrel
      go_wp2_with fail
      go_ret
      exact ⟨⟨_, rfl, by rw [HS.out]; exact HON.out⟩, HBN.out⟩
  · cases h1 : fnOk i m f
    · have HS := Lib.hid (show funcThen i m o f g = [] by simp [funcThen, h1])
      clear hf hg
      go_enter Try.func8, Try.ntmps8
      go_wp2_with fail
      go_loopw [11, 12] (fun v i wr => v = .slice (some ⟨w.heap.size, 0, none⟩) 0 0 ∧ i = .int .i64 0 ∧ wr = w.alloc (.cells #[] 3)) (fun _ _ _ => 0)
      case atStart => exact ⟨rfl, rfl, rfl⟩
      case round =>
        obtain ⟨rfl, rfl, rfl⟩ := hrel
        go_wp2_with fail
        refine (sFuncValid_b false i m A n c f _ HF1.out h1).mono ?_
        rintro e w' ⟨rfl, rfl⟩
        go_wp2_with fail
        go_ret
        exact ⟨⟨_, rfl, by rw [HS.out]; exact HON.out⟩, HBN.out⟩
    · cases h2 : fnOk m o g
      · have HS := Lib.hid (show funcThen i m o f g = [] by simp [funcThen, h2])
        clear hf hg
        go_enter Try.func8, Try.ntmps8
        go_wp2_with fail
        go_loopw [11, 12] (fun v i wr => v = .slice (some ⟨w.heap.size, 0, none⟩) 0 0 ∧ i = .int .i64 0 ∧ wr = w.alloc (.cells #[] 3)) (fun _ _ _ => 0)
        case atStart => exact ⟨rfl, rfl, rfl⟩
        case round =>
          obtain ⟨rfl, rfl, rfl⟩ := hrel
          go_wp2_with fail
          refine (sFuncValid_b true i m A n c f _ HF1.out h1).mono ?_
          rintro e w' ⟨rfl, rfl⟩
          go_wp2_with fail
          refine (sFuncValid_b false m o B n2 d g _ HG1.out h2).mono ?_
          rintro e w' ⟨rfl, rfl⟩
          go_wp2_with fail
          go_ret
          exact ⟨⟨_, rfl, by rw [HS.out]; exact HON.out⟩, HBN.out⟩
      · have HS := Lib.hid (show funcThen i m o f g = tab n fun k => nth g (nth f k).toNat by simp [funcThen, h1, h2, hlf])
        have hn : n ≤ 16 := by have := fnOk_len h1; omega
        have HR := hide (show ∀ k, k < n → 0 ≤ nth f k ∧ nth f k < (n2 : Int) by
          obtain ⟨_, _, _, hr⟩ := fnOk_out h1
          obtain ⟨_, _, hl, _⟩ := fnOk_out h2
          intro k hk
          have := hr k (by omega)
          omega)
        obtain ⟨_, _, hta⟩ := hf
        obtain ⟨_, hm2, htb⟩ := hg
        clear hlf hlg HF1 HG1
        go_enter Try.func8, Try.ntmps8
        go_wp2_with fail
        go_loopw [11, 12] (fun v i wr => ∃ (V : Value) (k : Nat), V = v ∧ k ≤ n ∧ i = .int .i64 k ∧ Own wr w.heap.size v (tab k fun k => nth g (nth f k).toNat) ∧ Below w.heap.size w wr) (fun _ i _ => n - (intOf i).toNat)
        case atStart => exact ⟨_, 0, rfl, by omega, rfl, HON.out, HBN.out⟩
        case round =>
          obtain ⟨V, k, rfl, hk, rfl, ho, hbw⟩ := hrel
          have HO := hide ho
          have HB := hide hbw
          have hs := hbw.size
          clear ho
          by_cases hlt : k < n
          · obtain ⟨r1, r2⟩ := HR.out k hlt
            obtain ⟨b1, o1, rfl, hbl1, hc1⟩ := hta (by omega)
            obtain ⟨b2, o2, rfl, hbl2, hc2⟩ := htb (by omega)
            obtain ⟨j, hj⟩ := Int.eq_ofNat_of_zero_le r1
            have g1 : wr.cell? ⟨b1, o1 + k, none⟩ = some (.int .i64 (nth f k)) := (hbw.cell (p := ⟨b1, o1 + k, none⟩) hbl1).trans (hc1 k hlt)
            have g2 : wr.cell? ⟨b2, o2 + j, none⟩ = some (.int .i64 (nth g j)) := (hbw.cell (p := ⟨b2, o2 + j, none⟩) hbl2).trans (hc2 j (by omega))
            have hj2 : j < n2 := by omega
            have HJ := Lib.hid (show nth g (nth f k).toNat = nth g j by rw [hj]; rfl)
            rw [hj] at g1
            clear hta htb hc1 hc2 hbw hj r1 r2
            go_wp2_with fail
            refine (sFuncValid_b true i m _ n c f _ (HF.out.below HB.out) h1).mono ?_
            rintro e w' ⟨rfl, rfl⟩
            go_wp2_with fail
            refine (sFuncValid_b true m o _ n2 d g _ (HG.out.below HB.out) h2).mono ?_
            rintro e w' ⟨rfl, rfl⟩
            go_wp2_with (at_builtin; refine wpList_append1 HO.out (.tmp 32) (.tmp 40) (by rfl) rfl rfl rfl (by rw [tab_len]; omega) hs ?_; intro v2 w2 ho2 hb2 _ _)
            go_roundw
            case rel => exact ⟨_, k + 1, rfl, by omega, by go_num, by rw [tab_succ, HJ.out]; exact ho2, HB.out.trans hb2⟩
            case measure => simp [intOf]; omega
          · obtain rfl : k = n := by omega
            clear hbw
            go_wp2_with fail
            go_ret
            exact ⟨⟨_, rfl, by rw [HS.out]; exact HO.out⟩, HB.out⟩
end Go.Proofs.Ytniikjobchgcjaa
