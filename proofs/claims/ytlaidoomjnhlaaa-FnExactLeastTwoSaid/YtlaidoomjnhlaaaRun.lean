/-
  What a gate makes of a word, by the program and by the reference.
  No condition.
-/
import Derived.Test.YtlaidoomjnhlaaaSGate
namespace Go.Proofs.Ytlaidoomjnhlaaa
open Go.RowKit Go.Sort base
theorem bt_cast (x a : Nat) : (x : Int) / 2 ^ a % 2 = ((bt x a : Nat) : Int) := by simp [bt]
theorem and_bt {x a : Nat} (hx : x < 256) : bits .and .i64 ((x : Int) / 2 ^ a) 1 = ((bt x a : Nat) : Int) := by
  have e2 : x / 2 ^ a ≤ x := Nat.div_le_self _ _
  rw [← bt_cast, show (x : Int) / 2 ^ a = ((x / 2 ^ a : Nat) : Int) by simp]
  generalize x / 2 ^ a = y at e2 ⊢
  rw [and_one _ (by omega)]
theorem wrap_mul_pow {p z : Nat} (hp : p ≤ 1) (hz : z ≤ 7) : wrap64 ((p : Int) * 2 ^ z) = ((p * 2 ^ z : Nat) : Int) := by
  rcases (show p = 0 ∨ p = 1 by omega) with rfl | rfl
  · simp; decide +kernel
  · have := wrap_pow hz
    simpa using this
theorem mul_pow_lt8 {p z : Nat} (hp : p ≤ 1) (hz : z ≤ 7) : p * 2 ^ z < 256 := by
  have := two_pow_lt8 (show z < 8 by omega)
  rcases (show p = 0 ∨ p = 1 by omega) with rfl | rfl <;> omega
theorem xor_lt8 {x y : Nat} (hx : x < 256) (hy : y < 256) : x ^^^ y < 256 := Nat.xor_lt_two_pow (n := 8) hx hy
theorem xor_cast {x y : Nat} (hx : x < 256) (hy : y < 256) : bits .xor .i64 (x : Int) (y : Int) = ((x ^^^ y : Nat) : Int) := i64_xor_nat x y (by omega) (by omega)
theorem and_cast {x y : Nat} (hx : x < 256) (hy : y < 256) : bits .and .i64 (x : Int) (y : Int) = ((x &&& y : Nat) : Int) := i64_and_nat x y (by omega) (by omega)
set_option maxHeartbeats 8000000 in
theorem run_any (k : Int) (a b c x : Nat) (hk : kindQ k = true) (ha : a ≤ 7) (hb : b ≤ 7) (hc : c ≤ 7) (hx : x < 256) (w : World) :
    Calls Try.prog 14 #[.agg #[.int .i64 k, .int .i64 a, .int .i64 b, .int .i64 c], .int .i64 x] w fun e w' => e = .returned (.int .i64 (runG k a b c x : Nat)) ∧ Below w.heap.size w w' := by
  have HB0 := hide (show Below w.heap.size w (w.alloc (.cells #[.int .i64 k, .int .i64 a, .int .i64 b, .int .i64 c] 33)) by go_grown)
  have HX0 := hide (Box4.made w k a b c 33)
  have ga := and_bt (a := a) hx
  have gb := and_bt (a := b) hx
  have gc := and_bt (a := c) hx
  have hp : bt x a ≤ 1 := by have := bt_01 x a; omega
  have hq : bt x b ≤ 1 := by have := bt_01 x b; omega
  have hr : bt x c ≤ 1 := by have := bt_01 x c; omega
  have HR := Lib.hid (show runG k a b c x = if k = 0 then x ^^^ 2 ^ a
    else if k = 1 then x ^^^ bt x a * 2 ^ b
    else if k = 2 then x ^^^ (bt x a &&& bt x b) * 2 ^ c
    else if k = 3 then x ^^^ (bt x a ^^^ bt x b) * 2 ^ a ^^^ (bt x a ^^^ bt x b) * 2 ^ b
    else x ^^^ (bt x a &&& (bt x b ^^^ bt x c)) * 2 ^ b ^^^ (bt x a &&& (bt x b ^^^ bt x c)) * 2 ^ c from rfl)
  generalize bt x a = p at ga hp HR
  generalize bt x b = q at gb hq HR
  generalize bt x c = r at gc hr HR
  have hpq : p ^^^ q ≤ 1 := by rcases (show p = 0 ∨ p = 1 by omega) with rfl | rfl <;> rcases (show q = 0 ∨ q = 1 by omega) with rfl | rfl <;> decide
  have hpa : p &&& q ≤ 1 := by rcases (show p = 0 ∨ p = 1 by omega) with rfl | rfl <;> rcases (show q = 0 ∨ q = 1 by omega) with rfl | rfl <;> decide
  have hqr : q ^^^ r ≤ 1 := by rcases (show q = 0 ∨ q = 1 by omega) with rfl | rfl <;> rcases (show r = 0 ∨ r = 1 by omega) with rfl | rfl <;> decide
  have hd : p &&& (q ^^^ r) ≤ 1 := by rcases (show p = 0 ∨ p = 1 by omega) with rfl | rfl <;> rcases (show q ^^^ r = 0 ∨ q ^^^ r = 1 by omega) with h | h <;> rw [h] <;> decide
  have G0 := hide (xor_cast hx (two_pow_lt8 (show a < 8 by omega)))
  have G1 := hide (xor_cast hx (mul_pow_lt8 hp hb))
  have G2 := hide (xor_cast hx (mul_pow_lt8 hpa hc))
  have G3 := hide (xor_cast hx (mul_pow_lt8 hpq ha))
  have G3' := hide (xor_cast (xor_lt8 hx (mul_pow_lt8 hpq ha)) (mul_pow_lt8 hpq hb))
  have G4 := hide (xor_cast hx (mul_pow_lt8 hd hb))
  have G4' := hide (xor_cast (xor_lt8 hx (mul_pow_lt8 hd hb)) (mul_pow_lt8 hd hc))
  have W0 := hide (wrap_pow ha)
  have W1 := hide (wrap_mul_pow hp hb)
  have W2 := hide (wrap_mul_pow hpa hc)
  have W3 := hide (wrap_mul_pow hpq ha)
  have W3' := hide (wrap_mul_pow hpq hb)
  have W4 := hide (wrap_mul_pow hd hb)
  have W4' := hide (wrap_mul_pow hd hc)
  have A2 := hide (and_cast (show p < 256 by omega) (show q < 256 by omega))
  have X2 := hide (xor_cast (show p < 256 by omega) (show q < 256 by omega))
  have X4 := hide (xor_cast (show q < 256 by omega) (show r < 256 by omega))
  have A4 := hide (and_cast (show p < 256 by omega) (show q ^^^ r < 256 by omega))
  clear hd hqr hpa hpq
  rcases kind_cases hk with rfl | rfl | rfl | rfl | rfl
  all_goals
    clear hk
    go_enter Try.func14, Try.ntmps14
    go_wp2_with fail
    refine wp_named fun wr hwr => ?_
    have HB1 := hide (show Below w.heap.size w wr by rw [← hwr]; exact HB0.out)
    obtain ⟨c0, c1, c2, c3⟩ : Box4 wr w.heap.size _ a b c := by rw [← hwr]; exact HX0.out
    clear hwr
    go_quiet (fail)
  · go_wp2_with fail
    go_ret
    refine ⟨congrArg (fun z => Ending.returned (.int .i64 z)) ?_, below_drewN HB1.out _⟩
    rw [HR.out, W0.out, G0.out]; rfl
  · go_wp2_with fail
    go_ret
    refine ⟨congrArg (fun z => Ending.returned (.int .i64 z)) ?_, below_drewN HB1.out _⟩
    rw [HR.out, W1.out, G1.out]; rfl
  · go_wp2_with fail
    go_ret
    refine ⟨congrArg (fun z => Ending.returned (.int .i64 z)) ?_, below_drewN HB1.out _⟩
    rw [HR.out, A2.out, W2.out, G2.out]; rfl
  · go_wp2_with fail
    have x2 := X2.out
    go_quiet (fail)
    clear x2
    go_wp2_with fail
    go_ret
    refine ⟨congrArg (fun z => Ending.returned (.int .i64 z)) ?_, below_drewN (below_drewN HB1.out _) _⟩
    rw [HR.out, W3.out, G3.out, W3'.out, G3'.out]; rfl
  · go_wp2_with fail
    go_quiet (fail)
    go_wp2_with fail
    go_ret
    refine ⟨congrArg (fun z => Ending.returned (.int .i64 z)) ?_, below_drewN (below_drewN HB1.out _) _⟩
    rw [HR.out, X4.out, A4.out, W4.out, G4.out, W4'.out, G4'.out]; rfl
end Go.Proofs.Ytlaidoomjnhlaaa
