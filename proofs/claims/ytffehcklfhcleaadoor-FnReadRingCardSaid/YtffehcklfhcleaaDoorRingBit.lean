/-
  Rings: bitOk, ruleOk, RingValid, RuleBit of the program and of the reference.
  No condition.
-/
import Derived.Test.YtffehcklfhcleaaDoorFind
import Derived.Test.YtffehcklfhcleaaDoorWord
import Derived.Test.YtffehcklfhcleaaDoorRingLaw
namespace Go.Proofs.YtffehcklfhcleaaDoor
open Go.RowKit Go.Sort base
theorem ruleQ_out {r : Int} (h : ruleQ r = true) : 0 ≤ r ∧ r ≤ 255 := ruleQ_iff.1 h
set_option maxHeartbeats 400000 in
theorem bitOk_any (z : Int) (w : World) : Calls Tryd.prog 26 #[.int .i64 z] w fun e w' => e = .returned (.bool (bitQ z)) ∧ w = w' := by
  have e1 : bitQ z = (z == 0 || z == 1) := rfl
  have E1 := Lib.hid e1
  clear e1
  by_cases h0 : z = 0
  · subst h0
    go_enter Tryd.func26, Tryd.ntmps26
    go_wp2
    go_ret
    exact ⟨rfl, rfl⟩
  · have e0 : (z == 0) = false := by simpa using h0
    clear h0
    go_enter Tryd.func26, Tryd.ntmps26
    go_wp2
    go_ret
    exact ⟨by rw [E1.out, e0]; rfl, rfl⟩
theorem bitOk_b (b : Bool) (z : Int) (hb : bitQ z = b) (w : World) : Calls Tryd.prog 26 #[.int .i64 z] w fun e w' => e = .returned (.bool b) ∧ w = w' := by subst hb; exact bitOk_any z w
set_option maxHeartbeats 400000 in
theorem badBit_any (z : Int) (w : World) : Calls Tryd.prog 25 (#[.int .i64 z] ++ #[]) w fun e w' => e = .returned (.bool (badBit z)) ∧ w = w' := by
  show Calls Tryd.prog 25 #[.int .i64 z] w _
  go_enter Tryd.func25, Tryd.ntmps25
  go_wp2_with (go_at_call 26; refine (bitOk_any _ _).mono ?_; rintro e w' ⟨rfl, rfl⟩)
  go_ret
  exact ⟨rfl, rfl⟩
set_option maxHeartbeats 400000 in
theorem ringValid_any (A : Option Addr) (n c : Nat) (zs : List Int) (w : World) (h : IR w A n zs) :
    Calls Tryd.prog 11 #[.slice A n c] w fun e w' => e = .returned (.bool (ringQ zs)) ∧ w = w' := by
  have hlen := h.len
  have HI := hide (containsFunc_any 25 #[] badBit (fun _ _ => by kernel_rfl) w (fun z => badBit_any z w) A n c zs h)
  clear h
  by_cases h4 : 3 ≤ n ∧ n ≤ 12
  · have H4 := hide (show (decide ((3 : Int) ≤ (n : Int)) && decide ((n : Int) ≤ 12)) = true by simp; omega)
    have HE := Lib.hid (show ringQ zs = !zs.any badBit by unfold ringQ; rw [hlen]; simp [h4.1, h4.2])
    clear h4 hlen
    go_enter Tryd.func11, Tryd.ntmps11
    go_wp2_with fail
    refine (within_b true _ _ _ H4.out _).mono ?_
    rintro e w' ⟨rfl, rfl⟩
    go_wp2_with fail
    refine HI.out.mono ?_
    rintro e w' ⟨rfl, rfl⟩
    go_wp2_with fail
    go_ret
    exact ⟨by rw [HE.out]; rfl, rfl⟩
  · have H4 := hide (show (decide ((3 : Int) ≤ (n : Int)) && decide ((n : Int) ≤ 12)) = false by simp; omega)
    have HE := Lib.hid (show ringQ zs = false by unfold ringQ; rw [hlen]; simp; omega)
    clear h4 hlen
    go_enter Tryd.func11, Tryd.ntmps11
    go_wp2_with fail
    refine (within_b false _ _ _ H4.out _).mono ?_
    rintro e w' ⟨rfl, rfl⟩
    go_wp2_with fail
    go_ret
    exact ⟨by rw [HE.out]; rfl, rfl⟩
theorem ringValid_b (b : Bool) (A : Option Addr) (n c : Nat) (zs : List Int) (hb : ringQ zs = b) (w : World) (h : IR w A n zs) :
    Calls Tryd.prog 11 #[.slice A n c] w fun e w' => e = .returned (.bool b) ∧ w = w' := by subst hb; exact ringValid_any A n c zs w h
set_option maxHeartbeats 400000 in
theorem sRingValid_any (A : Option Addr) (n c : Nat) (zs : List Int) (w : World) (h : IR w A n zs) :
    Calls Tryd.prog 17 #[.slice A n c] w fun e w' => e = .returned (.bool (ringQ zs)) ∧ w = w' := by
  obtain ⟨hlen, hmax, hat⟩ := h
  go_enter Tryd.func17, Tryd.ntmps17
  go_wp2
  go_loop [3] (fun i => ∃ k : Nat, k ≤ n ∧ i = .int .i64 k ∧ (zs.take k).any badBit = false) (fun i => n - (intOf i).toNat)
  case atStart => exact ⟨0, by omega, rfl, by simp⟩
  case round =>
    obtain ⟨k, hk, rfl, hno⟩ := hrel
    have HN := Lib.hid hno
    clear hno
    by_cases hlt : k < n
    · obtain ⟨b, o, rfl, hbl, hc⟩ := hat (by omega)
      have h1 := hc k hlt
      clear hc hat
      cases hp : badBit (nth zs k)
      · have HP := Lib.hid hp
        have hq : (decide (0 ≤ nth zs k) && decide (nth zs k ≤ 1)) = true := by simp [badBit, bitQ] at hp; simp; omega
        clear hp
        go_wp2_with fail
        refine (l1In_b true _ _ _ hq _).mono ?_
        rintro e w' ⟨rfl, rfl⟩
        go_wp2_with fail
        go_round
        case rel => exact ⟨k + 1, by omega, by go_num, by rw [any_take_succ badBit (by omega), HN.out, HP.out]; rfl⟩
        case measure => simp [intOf]; omega
      · have HP := Lib.hid (show ringQ zs = false by unfold ringQ; rw [any_of_nth badBit (by omega) hp]; simp)
        have hq : (decide (0 ≤ nth zs k) && decide (nth zs k ≤ 1)) = false := by simp [badBit, bitQ] at hp; simp; omega
        clear hp
        go_wp2_with fail
        refine (l1In_b false _ _ _ hq _).mono ?_
        rintro e w' ⟨rfl, rfl⟩
        go_wp2_with fail
        go_ret
        exact ⟨by rw [HP.out]; rfl, rfl⟩
    · obtain rfl : k = n := by omega
      rw [List.take_of_length_le (by omega)] at HN
      have HQ := Lib.hid (show ringQ zs = (decide ((3 : Int) ≤ (k : Int)) && decide ((k : Int) ≤ 12)) by unfold ringQ; rw [HN.out, hlen, Bool.eq_iff_iff]; simp; omega)
      clear hat
      go_wp2_with fail
      refine (l1In_any _ _ _ _).mono ?_
      rintro e w' ⟨rfl, rfl⟩
      go_wp2_with fail
      go_ret
      exact ⟨by rw [HQ.out]; rfl, rfl⟩
theorem sRingValid_b (b : Bool) (A : Option Addr) (n c : Nat) (zs : List Int) (hb : ringQ zs = b) (w : World) (h : IR w A n zs) :
    Calls Tryd.prog 17 #[.slice A n c] w fun e w' => e = .returned (.bool b) ∧ w = w' := by subst hb; exact sRingValid_any A n c zs w h
theorem and_one (x : Int) (h : 0 ≤ x ∧ x < 9223372036854775808) : bits .and .i64 x 1 = x % 2 := by
  obtain ⟨a, rfl⟩ := Int.eq_ofNat_of_zero_le h.1
  have := i64_and_nat a 1 (by omega) (by omega)
  rw [show ((1 : Nat) : Int) = 1 by rfl] at this
  rw [this, Nat.and_one_is_mod]
  omega
theorem xor_bit {x y : Int} (hx : bitQ x = true) (hy : bitQ y = true) : bits .xor .i64 x y = (x + y) % 2 := by
  rcases bitQ_iff.1 hx with rfl | rfl <;> rcases bitQ_iff.1 hy with rfl | rfl <;> decide
end Go.Proofs.YtffehcklfhcleaaDoor
