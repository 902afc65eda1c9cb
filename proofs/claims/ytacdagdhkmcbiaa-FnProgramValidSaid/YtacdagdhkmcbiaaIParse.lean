/-
  The program's statements looked through, cloned.
  No condition.
-/
import Derived.Test.YtacdagdhkmcbiaaSProg
namespace Go.Proofs.Ytacdagdhkmcbiaa
open Go.RowKit Go.Sort base
def badLine (g : G4) : Bool := !lineOk g
theorem any_take_succ_g {gs : List G4} {k : Nat} (p : G4 → Bool) (h : k < gs.length) : (gs.take (k + 1)).any p = ((gs.take k).any p || p (gth gs k)) := by
  rw [take_succ_gth h]; simp
theorem any_of_gth {gs : List G4} {k : Nat} (p : G4 → Bool) (h : k < gs.length) (hp : p (gth gs k) = true) : gs.any p = true := by
  rw [List.any_eq_true]; exact ⟨gth gs k, gth_mem h, hp⟩
set_option maxHeartbeats 400000 in
theorem badLine_any (g : G4) (w : World) : Calls Try.prog 22 #[.agg #[.int .i64 g.1, .int .i64 g.2.1, .int .i64 g.2.2.1, .int .i64 g.2.2.2]] w fun e w' => e = .returned (.bool (badLine g)) ∧ Below w.heap.size w w' := by
  cases hv : lineOk g
  all_goals
    have HV := Lib.hid (show lineQ g.1 g.2.1 g.2.2.1 g.2.2.2 = _ from hv)
    have HW := Lib.hid (show badLine g = _ by unfold badLine; rw [hv])
    clear hv
    go_enter Try.func22, Try.ntmps22
    go_wp2_with fail
    refine calls_named fun W hW => ?_
    have hbW : Below w.heap.size w W := by rw [← hW]; exact (Below.refl _ w).alloc (Nat.le_refl _) _
    clear hW
    refine (lineValid_b _ _ _ _ _ HV.out W).mono ?_
    rintro e w1 ⟨rfl, hb1⟩
    have HB := hide (bseq hbW hb1)
    clear hbW hb1
    go_wp2_with fail
    go_ret
    exact ⟨by rw [HW.out]; rfl, HB.out⟩
set_option maxHeartbeats 1000000 in
theorem indexLine_any (A : Option Addr) (n c : Nat) (gs : List G4) (w : World) (h : GR w A n gs) :
    Calls Try.prog 32 #[.slice A n c, .func (.func 22) #[] #[]] w fun e w' => (∃ r : Int, e = .returned (.int .i64 r) ∧ decide (0 ≤ r) = gs.any (badLine)) ∧ Below w.heap.size w w' := by
  have hcf : ∀ (args : Array Value) (w : World), (callFunc 22 args).run Try.prog w = .ok (.enter 22 args) w := fun _ _ => by kernel_rfl
  have HR0 := hide h
  have hmax := h.max
  have HLen := Lib.hid h.len
  clear h
  go_enter Try.func32, Try.ntmps32
  go_wp2
  go_loopw [8] (fun iv wr => ∃ j : Nat, j ≤ n ∧ iv = .int .i64 j ∧ Hid ((gs.take j).any (badLine) = false) ∧ Hid (Below w.heap.size w wr)) (fun iv _ => n - (intOf iv).toNat)
  case atStart => exact ⟨0, by omega, rfl, rfl, Below.refl _ _⟩
  case round =>
    obtain ⟨j, hj, rfl, HN, HB⟩ := hrel
    have HR := hide (HR0.out.below HB.out)
    by_cases hlt2 : j < n
    · obtain ⟨b, o, rfl, hbl, hcc⟩ := HR.out.at_ (by omega)
      obtain ⟨g0, g1, g2, g3⟩ := hcc j hlt2
      clear hcc
      have HT := Lib.hid (any_take_succ_g (k := j) (badLine) (by rw [HLen.out]; exact hlt2))
      cases hp : badLine (gth gs j)
      · have HP := Lib.hid hp
        clear hp
        go_wp2_with fail
        refine (badLine_any (gth gs j) _).mono ?_
        rintro e w1 ⟨he, hb1⟩
        rw [HP.out] at he
        subst he
        have HB1 := hide (bseq HB.out hb1)
        clear hb1 g0 g1 g2 g3
        go_wp2
        go_roundw
        case rel => exact ⟨j + 1, by omega, by go_num, by rw [HT.out, HN.out, HP.out]; rfl, HB1.out⟩
        case measure => simp [intOf]; omega
      · have HP := Lib.hid (any_of_gth _ (by rw [HLen.out]; exact hlt2) hp)
        have HP' := Lib.hid hp
        clear hp
        go_wp2_with fail
        refine (badLine_any (gth gs j) _).mono ?_
        rintro e w1 ⟨he, hb1⟩
        rw [HP'.out] at he
        subst he
        have HB1 := hide (bseq HB.out hb1)
        clear hb1 g0 g1 g2 g3
        go_wp2
        go_ret
        exact ⟨⟨j, rfl, by rw [HP.out]; simp⟩, HB1.out⟩
    · obtain rfl : j = n := by omega
      have HN' := Lib.hid (show gs.any (badLine) = false by have := HN.out; rwa [List.take_of_length_le (by rw [HLen.out]; omega)] at this)
      go_wp2
      go_ret
      exact ⟨⟨-1, rfl, by rw [HN'.out]; rfl⟩, HB.out⟩
set_option maxHeartbeats 400000 in
theorem containsLine_any (A : Option Addr) (n c : Nat) (gs : List G4) (w : World) (h : GR w A n gs) :
    Calls Try.prog 21 #[.slice A n c, .func (.func 22) #[] #[]] w fun e w' => e = .returned (.bool (gs.any (badLine))) ∧ Below w.heap.size w w' := by
  have HI := hide (indexLine_any A n c gs w h)
  clear h
  go_enter Try.func21, Try.ntmps21
  go_wp2_with fail
  refine HI.out.mono ?_
  rintro e w1 ⟨⟨r, rfl, hr⟩, hb1⟩
  have HR := Lib.hid hr
  have HB := hide hb1
  clear hr hb1
  go_wp2_with fail
  go_ret
  exact ⟨by rw [← HR.out]; rfl, HB.out⟩

theorem any_bad (gs : List G4) : gs.any badLine = !gs.all lineOk := by
  rw [List.not_all_eq_any_not]
  rfl
set_option maxHeartbeats 1000000 in
theorem clone_any (A : Option Addr) (n c : Nat) (gs : List G4) (w : World) (h : GR w A n gs) (hn : n ≤ 900) :
    Calls Try.prog 25 #[.slice A n c] w fun e w' => (∃ V, e = .returned V ∧ OwnG w' w.heap.size V gs) ∧ Below w.heap.size w w' := by
  have H := hide h
  have HL := Lib.hid h.len
  rcases A with _ | ad
  · have h0 : n = 0 := by
      rcases Nat.eq_zero_or_pos n with h0 | h0
      · exact h0
      · obtain ⟨b, o, e, _⟩ := h.at_ h0; cases e
    have HG := Lib.hid (show gs = [] from List.eq_nil_of_length_eq_zero (by have := h.len; omega))
    have hk : ∀ wx : World, (binOp .eql 25 (.slice none n c) (.slice none 0 0)).run Try.prog wx = .ok (.bool true) wx := fun wx => Lib.run_eql_slice_nil wx 25 32 none n c 0 0 Try.underlying25
    clear h h0
    go_enter Try.func25, Try.ntmps25
    go_wp2_with fail
    go_ret
    exact ⟨⟨_, rfl, by rw [HG.out]; exact World.ownsRow_nil _ _ _ _⟩, Below.refl _ _⟩
  · clear h
    have HO := hide (OwnG.nil0 w w.heap.size (Nat.le_refl _))
    have HB := hide ((Below.refl _ w).alloc (Nat.le_refl _) (.cells #[] 32))
    have HR := hide (H.out.below HB.out)
    have hk := fun (wx : World) => Lib.run_eql_slice_nil (P := Try.prog) wx 25 32 (some ad) n c 0 0 Try.underlying25
    go_enter Try.func25, Try.ntmps25
    go_wp2_with (at_builtin; refine wpList_append_gates HO.out HR.out (.tmp 5) (.tmp 6) rfl rfl rfl rfl (by rw [HL.out]; simp; omega) (by simp) ?_; intro v6 w6 ho6 hg6; have HO6 := hide ho6; have HB6 := hide (HB.out.grown hg6 (by simp) (fun k hk => by simp [Value.ownBlock] at hk; omega)); clear ho6 hg6)
    go_ret
    exact ⟨⟨_, rfl, by simpa using HO6.out⟩, HB6.out⟩
end Go.Proofs.Ytacdagdhkmcbiaa
