/-
  Linear rules: RuleLinear of the program and of the reference; RuleFlip.
  No condition.
-/
import Derived.Test.YtefkbjccgajbiaaRingRun
namespace Go.Proofs.Ytefkbjccgajbiaa
open Go.RowKit Go.Sort base
theorem shr_range (x : Int) (k : Nat) (hx : 0 ≤ x ∧ x ≤ 255) : 0 ≤ x / 2 ^ k ∧ x / 2 ^ k ≤ 255 := by
  have h1 : (0 : Int) ≤ x / 2 ^ k := Int.ediv_nonneg hx.1 (Int.pow_nonneg (by omega))
  have h2 : x / 2 ^ k ≤ x := Int.ediv_le_self _ hx.1
  omega
set_option maxHeartbeats 400000 in
theorem l1Bit_any (x : Int) (k : Nat) (hx : 0 ≤ x ∧ x ≤ 255) (hk : k ≤ 8) (w : World) : Calls Try.prog 37 #[.int .i64 x, .int .i64 k] w fun e w' => e = .returned (.int .i64 (rbit x k)) ∧ w = w' := by
  have hr := shr_range x k hx
  have ht : (x / 2 ^ k).tmod 2 = rbit x k := by unfold rbit; exact Int.tmod_eq_emod_of_nonneg hr.1
  obtain ⟨h1, h2⟩ := hx
  go_enter Try.func37, Try.ntmps37
  go_wp2_with fail
  go_ret
  exact ⟨rfl, rfl⟩
theorem rbit_bit (x : Int) (k : Nat) : bitQ (rbit x k) = true := bitQ_mod _
theorem and_xor_one (x y : Int) (hx : 0 ≤ x ∧ x ≤ 255) (hy : 0 ≤ y ∧ y ≤ 255) : bits .and .i64 (bits .xor .i64 x y) 1 = (x % 2 + y % 2) % 2 := by
  obtain ⟨a, rfl⟩ := Int.eq_ofNat_of_zero_le hx.1
  obtain ⟨b, rfl⟩ := Int.eq_ofNat_of_zero_le hy.1
  have hz : a ^^^ b < 2 ^ 63 := Nat.xor_lt_two_pow (by omega) (by omega)
  rw [i64_xor_nat a b (by omega) (by omega), and_one _ (by omega)]
  have : (a ^^^ b) % 2 = (a % 2 + b % 2) % 2 := by
    have h := Nat.xor_mod_two_pow (a := a) (b := b) (n := 1)
    rw [Nat.pow_one] at h
    rw [h]
    rcases Nat.mod_two_eq_zero_or_one a with h1 | h1 <;> rcases Nat.mod_two_eq_zero_or_one b with h2 | h2 <;> rw [h1, h2] <;> rfl
  omega
set_option maxHeartbeats 1000000 in
theorem ruleLin_any (rule : Int) (w : World) : Calls Try.prog 9 #[.int .i64 rule] w fun e w' => e = .returned (.bool (lin rule)) ∧ Below w.heap.size w w' := by
  cases hr : ruleQ rule
  · have HS := Lib.hid (show lin rule = false by simp [lin, hr])
    go_enter Try.func9, Try.ntmps9
    go_wp2_with fail
    refine (ruleOk_b false rule hr _).mono ?_
    rintro e w' ⟨rfl, rfl⟩
    go_wp2_with fail
    go_ret
    exact ⟨by rw [HS.out]; rfl, Below.refl _ _⟩
  · have HS := Lib.hid (show lin rule = linQ rule by simp [lin, hr])
    obtain ⟨h1, h2⟩ := ruleQ_out hr
    go_enter Try.func9, Try.ntmps9
    go_wp2_with fail
    refine (ruleOk_b true rule hr _).mono ?_
    rintro e w' ⟨rfl, rfl⟩
    go_wp2_with fail
    go_loopw [8] (fun i wr => ∃ a : Nat, a ≤ 8 ∧ i = .int .i64 a ∧ Hid (∀ x, x < a → ∀ y, y < 8 → rbit rule (x ^^^ y) = (rbit rule x + rbit rule y) % 2) ∧ Hid (Below w.heap.size w wr)) (fun i _ => 8 - (intOf i).toNat)
    case atStart => exact ⟨0, by omega, rfl, fun x hx => absurd hx (by omega), Below.refl _ _⟩
    case round =>
      obtain ⟨a, ha, rfl, HA, HB⟩ := hrel
      by_cases hlt : a < 8
      · go_wp2_with fail
        go_loopw [11] (fun i wr => ∃ b : Nat, b ≤ 8 ∧ i = .int .i64 b ∧ Hid (∀ y, y < b → rbit rule (a ^^^ y) = (rbit rule a + rbit rule y) % 2) ∧ Hid (Below w.heap.size w wr)) (fun i _ => 8 - (intOf i).toNat)
        case atStart => exact ⟨0, by omega, rfl, fun x hx => absurd hx (by omega), HB⟩
        case round =>
          obtain ⟨b, hb, rfl, HC, HB⟩ := hrel
          by_cases hlb : b < 8
          · have hx := i64_xor_nat a b (by omega) (by omega)
            have hx8 : a ^^^ b < 8 := Nat.xor_lt_two_pow (n := 3) hlt hlb
            have e1 : bits .and .i64 (rule / 2 ^ (a ^^^ b)) 1 = rbit rule (a ^^^ b) := and_one _ (by have := shr_range rule (a ^^^ b) ⟨h1, h2⟩; omega)
            have e2 : bits .and .i64 (bits .xor .i64 (rule / 2 ^ a) (rule / 2 ^ b)) 1 = (rbit rule a + rbit rule b) % 2 := and_xor_one _ _ (shr_range _ _ ⟨h1, h2⟩) (shr_range _ _ ⟨h1, h2⟩)
            go_wp2_with fail
            go_quiet (fail)
            by_cases ht : rbit rule (a ^^^ b) = (rbit rule a + rbit rule b) % 2
            · have e3 : (rbit rule (a ^^^ b) != (rbit rule a + rbit rule b) % 2) = false := by simpa using ht
              have HT := Lib.hid ht
              clear ht
              go_wp2_with fail
              go_roundw
              case rel =>
                refine ⟨b + 1, by omega, by go_num, fun y hy => ?_, below_drewN HB.out _⟩
                rcases Nat.lt_or_ge y b with h | h
                · exact HC.out y h
                · obtain rfl : y = b := by omega
                  exact HT.out
              case measure => simp [intOf]; omega
            · have e3 : (rbit rule (a ^^^ b) != (rbit rule a + rbit rule b) % 2) = true := by simpa using ht
              have HT := Lib.hid (show linQ rule = false by
                cases h : linQ rule
                · rfl
                · exact absurd (linQ_at h hlt hlb) ht)
              clear ht
              go_wp2_with fail
              go_ret
              exact ⟨by rw [HS.out, HT.out]; rfl, below_drewN HB.out _⟩
          · go_wp2_with fail
            go_roundw
            case rel =>
              refine ⟨a + 1, by omega, by go_num, fun x hx y hy => ?_, HB.out⟩
              rcases Nat.lt_or_ge x a with h | h
              · exact HA.out x h y hy
              · obtain rfl : x = a := by omega
                exact HC.out y (by omega)
            case measure => simp [intOf]; omega
      · have HT := Lib.hid (show linQ rule = true by
          unfold linQ
          rw [List.all_eq_true]
          intro x hx
          rw [List.all_eq_true]
          intro y hy
          have := HA.out x (by have := List.mem_range.1 hx; omega) y (by simpa using hy)
          simpa using this)
        go_wp2_with fail
        go_ret
        exact ⟨by rw [HS.out, HT.out]; rfl, HB.out⟩
theorem ruleLin_b (b : Bool) (rule : Int) (w : World) (hb : lin rule = b) : Calls Try.prog 9 #[.int .i64 rule] w fun e w' => e = .returned (.bool b) ∧ Below w.heap.size w w' := by subst hb; exact ruleLin_any rule w
/- the sum of two words bit by bit, as far as a line -/
def xorTo (a b : Nat) : Nat → Int
  | 0 => 0
  | k + 1 => xorTo a b k + (rbit (a : Int) k + rbit (b : Int) k) % 2 * 2 ^ k
theorem xorTo_three : ∀ a : Fin 8, ∀ b : Fin 8, xorTo a.val b.val 3 = ((a.val ^^^ b.val : Nat) : Int) := by decide +kernel
theorem xorTo_range : ∀ a : Fin 8, ∀ b : Fin 8, ∀ k : Fin 4, 0 ≤ xorTo a.val b.val k.val ∧ xorTo a.val b.val k.val < 8 := by decide +kernel
set_option maxHeartbeats 2000000 in
theorem sRuleLin_any (rule : Int) (w : World) : Calls Try.prog 10 #[.int .i64 rule] w fun e w' => e = .returned (.bool (lin rule)) ∧ w = w' := by
  cases hr : ruleQ rule
  · have HS := Lib.hid (show lin rule = false by simp [lin, hr])
    have hr' : (decide (0 ≤ rule) && decide (rule ≤ 255)) = false := hr
    clear hr
    go_enter Try.func10, Try.ntmps10
    go_wp2_with fail
    go_loop [3] (fun i => i = .int .i64 0) (fun _ => 0)
    case atStart => rfl
    case round =>
      subst hrel
      go_wp2_with fail
      refine (l1In_b false _ _ _ hr' _).mono ?_
      rintro e w' ⟨rfl, rfl⟩
      go_wp2_with fail
      refine (l1In_b false _ _ _ hr' _).mono ?_
      rintro e w' ⟨rfl, rfl⟩
      go_wp2_with fail
      go_ret
      exact ⟨by rw [HS.out]; rfl, rfl⟩
  · have HS := Lib.hid (show lin rule = linQ rule by simp [lin, hr])
    have hr' : (decide (0 ≤ rule) && decide (rule ≤ 255)) = true := hr
    obtain ⟨h1, h2⟩ := ruleQ_out hr
    clear hr
    go_enter Try.func10, Try.ntmps10
    go_wp2_with fail
    go_loop [3] (fun i => ∃ a : Nat, a ≤ 8 ∧ i = .int .i64 a ∧ Hid (∀ x, x < a → ∀ y, y < 8 → rbit rule (x ^^^ y) = (rbit rule x + rbit rule y) % 2)) (fun i => 8 - (intOf i).toNat)
    case atStart => exact ⟨0, by omega, rfl, fun x hx => absurd hx (by omega)⟩
    case round =>
      obtain ⟨a, ha, rfl, HA⟩ := hrel
      by_cases hlt : a < 8
      · go_wp2_with fail
        refine (l1In_b true _ _ _ hr' _).mono ?_
        rintro e w' ⟨rfl, rfl⟩
        go_wp2_with fail
        go_loop [4] (fun i => ∃ b : Nat, b ≤ 8 ∧ i = .int .i64 b ∧ Hid (∀ y, y < b → rbit rule (a ^^^ y) = (rbit rule a + rbit rule y) % 2)) (fun i => 8 - (intOf i).toNat)
        case atStart => exact ⟨0, by omega, rfl, fun x hx => absurd hx (by omega)⟩
        case round =>
          obtain ⟨b, hb, rfl, HC⟩ := hrel
          by_cases hlb : b < 8
          · have hx8 : a ^^^ b < 8 := Nat.xor_lt_two_pow (n := 3) hlt hlb
            have X3 := Lib.hid (xorTo_three ⟨a, hlt⟩ ⟨b, hlb⟩)
            have XR := Lib.hid (fun k : Fin 4 => xorTo_range ⟨a, hlt⟩ ⟨b, hlb⟩ k)
            go_wp2_with fail
            go_loop [5, 6] (fun s i => ∃ k : Nat, k ≤ 3 ∧ i = .int .i64 k ∧ s = .int .i64 (xorTo a b k)) (fun _ i => 3 - (intOf i).toNat)
            case atStart => exact ⟨0, by omega, rfl, rfl⟩
            case round =>
              obtain ⟨k, hk, rfl, rfl⟩ := hrel
              by_cases hlk : k < 3
              · have xr := XR.out ⟨k, by omega⟩
                have b1 := bitQ_iff.1 (rbit_bit (a : Int) k)
                have b2 := bitQ_iff.1 (rbit_bit (b : Int) k)
                have XS := Lib.hid (show xorTo a b (k + 1) = xorTo a b k + (rbit (a : Int) k + rbit (b : Int) k) % 2 * 2 ^ k from rfl)
                obtain ⟨x0, hx0⟩ : ∃ x, x = xorTo a b k := ⟨_, rfl⟩
                obtain ⟨y0, hy0⟩ : ∃ y, y = rbit (a : Int) k := ⟨_, rfl⟩
                obtain ⟨z0, hz0⟩ : ∃ z, z = rbit (b : Int) k := ⟨_, rfl⟩
                simp only at xr
                rw [← hx0] at xr XS
                rw [← hy0] at b1 XS
                rw [← hz0] at b2 XS
                have HX0 := Lib.hid hx0
                have HY0 := Lib.hid hy0
                have HZ0 := Lib.hid hz0
                rw [← hx0]
                obtain ⟨xr1, xr2⟩ := xr
                clear hx0 hy0 hz0
                go_wp2_with fail
                refine (l1Bit_any (a : Int) k ⟨by omega, by omega⟩ (by omega) _).mono ?_
                rintro e w' ⟨rfl, rfl⟩
                rw [← HY0.out]
                go_wp2_with fail
                refine (l1Bit_any (b : Int) k ⟨by omega, by omega⟩ (by omega) _).mono ?_
                rintro e w' ⟨rfl, rfl⟩
                rw [← HZ0.out]
                have b1' : 0 ≤ y0 ∧ y0 ≤ 1 := by omega
                have b2' : 0 ≤ z0 ∧ z0 ≤ 1 := by omega
                obtain ⟨c1, c2⟩ := b1'
                obtain ⟨c3, c4⟩ := b2'
                clear b1 b2
                rcases (show k = 0 ∨ k = 1 ∨ k = 2 by omega) with rfl | rfl | rfl
                all_goals
                  go_wp2_with fail
                  go_round
                  case rel => first | exact ⟨0 + 1, by omega, by go_num, by rw [XS.out]; first | rfl | (congr 1; omega)⟩ | exact ⟨1 + 1, by omega, by go_num, by rw [XS.out]; first | rfl | (congr 1; omega)⟩ | exact ⟨2 + 1, by omega, by go_num, by rw [XS.out]; first | rfl | (congr 1; omega)⟩
                  case measure => simp [intOf]
              · obtain rfl : k = 3 := by omega
                rw [show xorTo a b 3 = ((a ^^^ b : Nat) : Int) from X3.out]
                have b1 := bitQ_iff.1 (rbit_bit rule a)
                have b2 := bitQ_iff.1 (rbit_bit rule b)
                have b1' : 0 ≤ rbit rule a ∧ rbit rule a ≤ 1 := by omega
                have b2' : 0 ≤ rbit rule b ∧ rbit rule b ≤ 1 := by omega
                obtain ⟨c1, c2⟩ := b1'
                obtain ⟨c3, c4⟩ := b2'
                clear b1 b2
                go_wp2_with fail
                refine (l1Bit_any rule a ⟨h1, h2⟩ (by omega) _).mono ?_
                rintro e w' ⟨rfl, rfl⟩
                go_wp2_with fail
                refine (l1Bit_any rule b ⟨h1, h2⟩ (by omega) _).mono ?_
                rintro e w' ⟨rfl, rfl⟩
                go_wp2_with fail
                refine (l1Bit_any rule (a ^^^ b) ⟨h1, h2⟩ (by omega) _).mono ?_
                rintro e w' ⟨rfl, rfl⟩
                by_cases ht : rbit rule (a ^^^ b) = (rbit rule a + rbit rule b) % 2
                · have HT := Lib.hid ht
                  have t1 : rbit rule (a ^^^ b) ≤ (rbit rule a + rbit rule b) % 2 := by omega
                  have t2 : (rbit rule a + rbit rule b) % 2 ≤ rbit rule (a ^^^ b) := by omega
                  clear ht
                  go_wp2_with fail
                  go_round
                  case rel =>
                    refine ⟨b + 1, by omega, by go_num, fun y hy => ?_⟩
                    rcases Nat.lt_or_ge y b with h | h
                    · exact HC.out y h
                    · obtain rfl : y = b := by omega
                      exact HT.out
                  case measure => simp [intOf]; omega
                · have HT := Lib.hid (show linQ rule = false by
                    cases h : linQ rule
                    · rfl
                    · exact absurd (linQ_at h hlt hlb) ht)
                  go_wp2_with fail
                  go_ret
                  exact ⟨by rw [HS.out, HT.out]; rfl, rfl⟩
          · go_wp2_with fail
            go_round
            case rel =>
              refine ⟨a + 1, by omega, by go_num, fun x hx y hy => ?_⟩
              rcases Nat.lt_or_ge x a with h | h
              · exact HA.out x h y hy
              · obtain rfl : x = a := by omega
                exact HC.out y (by omega)
            case measure => simp [intOf]; omega
      · have HT := Lib.hid (show linQ rule = true by
          unfold linQ
          rw [List.all_eq_true]
          intro x hx
          rw [List.all_eq_true]
          intro y hy
          have := HA.out x (by have := List.mem_range.1 hx; omega) y (by simpa using hy)
          simpa using this)
        go_wp2_with fail
        refine (l1In_b true _ _ _ hr' _).mono ?_
        rintro e w' ⟨rfl, rfl⟩
        go_wp2_with fail
        go_ret
        exact ⟨by rw [HS.out, HT.out]; rfl, rfl⟩
end Go.Proofs.Ytefkbjccgajbiaa
