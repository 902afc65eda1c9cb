/-
  The registers: RegsValid of the program and of the reference, at every list of numbers.
  No condition.
-/
import Derived.Test.YtmcefihodiindaaInts
namespace Go.Proofs.Ytmcefihodiindaa
open Go.RowKit Go.Sort base

theorem any_take_succ {zs : List Int} {k : Nat} (p : Int → Bool) (h : k < zs.length) : (zs.take (k + 1)).any p = ((zs.take k).any p || p (nth zs k)) := by
  rw [take_succ_nth h]; simp
theorem any_of_nth {zs : List Int} {k : Nat} (p : Int → Bool) (h : k < zs.length) (hp : p (nth zs k) = true) : zs.any p = true := by
  rw [List.any_eq_true]; exact ⟨nth zs k, by rw [nth_lt h]; exact List.getElem_mem h, hp⟩

/- slices.IndexFunc, at a predicate that leaves the world alone -/
set_option maxHeartbeats 400000 in
theorem indexFunc_any (F : FuncId) (cap : Array Value) (p : Int → Bool) (hcf : ∀ (args : Array Value) (w : World), (callFunc F args).run Try.prog w = .ok (.enter F args) w)
    (w : World) (hF : ∀ (z : Int), Calls Try.prog F (#[.int .i64 z] ++ cap) w fun e w' => e = .returned (.bool (p z)) ∧ w = w')
    (A : Option Addr) (n c : Nat) (zs : List Int) (h : IR w A n zs) :
    Calls Try.prog 44 #[.slice A n c, .func (.func F) #[] cap] w fun e w' => (∃ r : Int, e = .returned (.int .i64 r) ∧ decide (0 ≤ r) = zs.any p) ∧ w = w' := by
  obtain ⟨hlen, hmax, hat⟩ := h
  have HF := hide hF
  clear hF
  go_enter Try.func44, Try.ntmps44
  go_wp2
  go_loop [8] (fun i => ∃ k : Nat, k ≤ n ∧ i = .int .i64 k ∧ (zs.take k).any p = false) (fun i => n - (intOf i).toNat)
  case atStart => exact ⟨0, by omega, rfl, by simp⟩
  case round =>
    obtain ⟨k, hk, rfl, hno⟩ := hrel
    have HN := Lib.hid hno
    clear hno
    by_cases hlt : k < n
    · obtain ⟨b, o, rfl, hbl, hc⟩ := hat (by omega)
      have h1 := hc k hlt
      clear hc hat
      go_wp2_with fail
      refine (HF.out _).mono ?_
      rintro e w' ⟨rfl, rfl⟩
      cases hp : p (nth zs k)
      · have HP := Lib.hid hp
        go_wp2
        go_round
        case rel => exact ⟨k + 1, by omega, by go_num, by rw [any_take_succ p (by omega), HN.out, HP.out]; rfl⟩
        case measure => simp [intOf]; omega
      · have HP := Lib.hid (any_of_nth p (by omega) hp)
        go_wp2
        go_ret
        exact ⟨⟨k, rfl, by rw [HP.out]; simp⟩, rfl⟩
    · obtain rfl : k = n := by omega
      rw [List.take_of_length_le (by omega)] at HN
      go_wp2
      go_ret
      exact ⟨⟨-1, rfl, by rw [HN.out]; rfl⟩, rfl⟩
set_option maxHeartbeats 400000 in
theorem containsFunc_any (F : FuncId) (cap : Array Value) (p : Int → Bool) (hcf : ∀ (args : Array Value) (w : World), (callFunc F args).run Try.prog w = .ok (.enter F args) w)
    (w : World) (hF : ∀ (z : Int), Calls Try.prog F (#[.int .i64 z] ++ cap) w fun e w' => e = .returned (.bool (p z)) ∧ w = w')
    (A : Option Addr) (n c : Nat) (zs : List Int) (h : IR w A n zs) :
    Calls Try.prog 32 #[.slice A n c, .func (.func F) #[] cap] w fun e w' => e = .returned (.bool (zs.any p)) ∧ w = w' := by
  have HI := hide (indexFunc_any F cap p hcf w hF A n c zs h)
  clear hF hcf h
  go_enter Try.func32, Try.ntmps32
  go_wp2_with (go_at_call 44; refine HI.out.mono ?_; rintro e w' ⟨⟨r, rfl, hr⟩, rfl⟩; have HR := Lib.hid hr; clear hr)
  go_ret
  exact ⟨by rw [← HR.out]; rfl, rfl⟩

/- the numbers of registers: each from 0 to 63 -/
def badReg (z : Int) : Bool := !(decide (0 ≤ z) && decide (z ≤ 63))
def regsOk (zs : List Int) : Bool := decide (zs.length = 4) && !zs.any badReg

set_option maxHeartbeats 400000 in
theorem badReg_any (z : Int) (w : World) : Calls Try.prog 33 (#[.int .i64 z] ++ #[]) w fun e w' => e = .returned (.bool (badReg z)) ∧ w = w' := by
  show Calls Try.prog 33 #[.int .i64 z] w _
  go_enter Try.func33, Try.ntmps33
  go_wp2_with (go_at_call 34; refine (within_any _ _ _ _).mono ?_; rintro e w' ⟨rfl, rfl⟩)
  go_ret
  exact ⟨by simp [badReg], rfl⟩
set_option maxHeartbeats 400000 in
theorem regsValid_any (A : Option Addr) (n c : Nat) (zs : List Int) (w : World) (h : IR w A n zs) :
    Calls Try.prog 13 #[.slice A n c] w fun e w' => e = .returned (.bool (regsOk zs)) ∧ w = w' := by
  have hlen := h.len
  have HI := hide (containsFunc_any 33 #[] badReg (fun _ _ => by kernel_rfl) w (fun z => badReg_any z w) A n c zs h)
  clear h
  by_cases h4 : n = 4
  · have h4' : ((n : Int) == 4) = true := by simp; omega
    have H4 := Lib.hid h4
    clear h4
    go_enter Try.func13, Try.ntmps13
    go_wp2_with (go_at_call 32; refine HI.out.mono ?_; rintro e w' ⟨rfl, rfl⟩)
    go_ret
    exact ⟨by unfold regsOk; rw [hlen, H4.out]; rfl, rfl⟩
  · have h4' : ((n : Int) == 4) = false := by simp; omega
    have H4 := Lib.hid (show regsOk zs = false by unfold regsOk; simp; omega)
    clear h4
    go_enter Try.func13, Try.ntmps13
    go_wp2_with fail
    go_ret
    exact ⟨by rw [H4.out]; rfl, rfl⟩

set_option maxHeartbeats 400000 in
theorem sRegsValid_any (A : Option Addr) (n c : Nat) (zs : List Int) (w : World) (h : IR w A n zs) :
    Calls Try.prog 11 #[.slice A n c] w fun e w' => e = .returned (.bool (regsOk zs)) ∧ w = w' := by
  obtain ⟨hlen, hmax, hat⟩ := h
  go_enter Try.func11, Try.ntmps11
  go_wp2
  go_loop [3] (fun i => ∃ k : Nat, k ≤ n ∧ i = .int .i64 k ∧ (zs.take k).any badReg = false) (fun i => n - (intOf i).toNat)
  case atStart => exact ⟨0, by omega, rfl, by simp⟩
  case round =>
    obtain ⟨k, hk, rfl, hno⟩ := hrel
    have HN := Lib.hid hno
    clear hno
    by_cases hlt : k < n
    · obtain ⟨b, o, rfl, hbl, hc⟩ := hat (by omega)
      have h1 := hc k hlt
      clear hc hat
      cases hp : badReg (nth zs k)
      · have HP := Lib.hid hp
        have hq : (decide (0 ≤ nth zs k) && decide (nth zs k ≤ 63)) = true := by simpa only [badReg, Bool.not_eq_false'] using hp
        clear hp
        go_wp2_with (go_at_call 31; refine (l1In_b true _ _ _ hq _).mono ?_; rintro e w' ⟨rfl, rfl⟩)
        go_round
        case rel => exact ⟨k + 1, by omega, by go_num, by rw [any_take_succ badReg (by omega), HN.out, HP.out]; rfl⟩
        case measure => simp [intOf]; omega
      · have HP := Lib.hid (show regsOk zs = false by unfold regsOk; rw [any_of_nth badReg (by omega) hp]; simp)
        have hq : (decide (0 ≤ nth zs k) && decide (nth zs k ≤ 63)) = false := by simpa only [badReg, Bool.not_eq_true'] using hp
        clear hp
        go_wp2_with (go_at_call 31; refine (l1In_b false _ _ _ hq _).mono ?_; rintro e w' ⟨rfl, rfl⟩)
        go_ret
        exact ⟨by rw [HP.out]; rfl, rfl⟩
    · obtain rfl : k = n := by omega
      rw [List.take_of_length_le (by omega)] at HN
      have HQ := Lib.hid (show regsOk zs = ((k : Int) == 4) by unfold regsOk; rw [HN.out, hlen, Bool.eq_iff_iff]; simp; omega)
      go_wp2
      go_ret
      exact ⟨by rw [HQ.out]; rfl, rfl⟩

/- the law's own walk -/
set_option maxHeartbeats 400000 in
theorem walk_FnExactRegsValid (A : Option Addr) (n c : Nat) (zs : List Int) (w : World) (h : IR w A n zs) (_ : ∀ n ∈ zs, (Lit.int .i64 n).wf = true) (_ : n ≤ c) :
    Calls Try.prog 3 #[.slice A n c] w fun e w' => e = .returned (.bool true) ∧ Below w.heap.size w w' := by
  by_cases hbig : 1048576 < n
  · have hmax := h.max
    go_enter Try.func3, Try.ntmps3
    go_wp2_with fail
    go_ret
    exact ⟨rfl, Below.refl _ _⟩
  · have H := hide h
    have hmax := h.max
    have hlen := h.len
    clear h
    go_enter Try.func3, Try.ntmps3
    go_wp2_with fail
    refine (toIntS_any A n c zs _ H.out (by omega)).mono ?_
    rintro e w1 ⟨⟨v1, rfl, ho1, rfl⟩, hb1⟩
    have r1 := hide (IR.of_own ho1 hlen)
    go_wp2_with fail
    refine (sRegsValid_any _ _ _ zs _ r1.out).mono ?_
    rintro e w' ⟨rfl, rfl⟩
    go_wp2_with fail
    refine (toIntS_any A n c zs _ (H.out.below hb1) (by omega)).mono ?_
    rintro e w2 ⟨⟨v2, rfl, ho2, rfl⟩, hb2⟩
    have r2 := hide (IR.of_own ho2 hlen)
    go_wp2_with fail
    refine (regsValid_any _ _ _ zs _ r2.out).mono ?_
    rintro e w' ⟨rfl, rfl⟩
    go_wp2_with fail
    refine (toIntS_any A n c zs _ ((H.out.below hb1).below hb2) (by omega)).mono ?_
    rintro e w3 ⟨⟨v3, rfl, ho3, rfl⟩, hb3⟩
    have r3 := hide (IR.of_own ho3 hlen)
    go_wp2_with fail
    refine (eqIntS_any _ _ _ _ _ _ zs zs _ (r2.out.below hb3) r3.out).mono ?_
    rintro e w4 ⟨rfl, q, rfl⟩
    rw [beq_self_eq_true]
    go_wp2_with fail
    go_ret
    exact ⟨rfl, below_drewN ((hb1.trans (hb2.mono hb1.size)).trans (hb3.mono (Nat.le_trans hb1.size hb2.size))) q⟩
end Go.Proofs.Ytmcefihodiindaa
