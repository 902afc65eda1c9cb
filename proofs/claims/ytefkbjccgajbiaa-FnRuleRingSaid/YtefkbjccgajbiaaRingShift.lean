/-
  RingShift by one, and RuleFlip, of the program.
  No condition.
-/
import Derived.Test.YtefkbjccgajbiaaRingRule
import Derived.Test.YtefkbjccgajbiaaRingLin
namespace Go.Proofs.Ytefkbjccgajbiaa
open Go.RowKit Go.Sort base
def ringShift1 (z : List Int) : List Int := if ringQ z then shift z 1 else []
def shPart (z : List Int) (k : Nat) : List Int := tab z.length fun i => if (i + (z.length - 1)) % z.length < k then nth z ((i + (z.length - 1)) % z.length) else 0
theorem shPart_len (z : List Int) (k : Nat) : (shPart z k).length = z.length := tab_len _ _
theorem shPart_zero (z : List Int) : shPart z 0 = List.replicate z.length 0 := by
  simp only [shPart, tab, Nat.not_lt_zero, if_false]
  rw [List.map_const', List.length_range]
theorem mod_back {i n : Nat} (hi : i < n) : (i + (n - 1)) % n = if i = 0 then n - 1 else i - 1 := by
  split
  · rw [Nat.mod_eq_of_lt (by omega)]; omega
  · rw [Nat.mod_eq_sub_mod (by omega), Nat.mod_eq_of_lt (by omega)]; omega
theorem mod_next {k n : Nat} (hk : k < n) : (k + 1) % n = if k + 1 = n then 0 else k + 1 := by
  split
  · rename_i h; rw [h, Nat.mod_self]
  · rw [Nat.mod_eq_of_lt (by omega)]
theorem shPart_set {z : List Int} {k : Nat} (hk : k < z.length) : (shPart z k).set ((k + 1) % z.length) (nth z k) = shPart z (k + 1) := by
  apply List.ext_getElem?
  intro i
  rw [List.getElem?_set, mod_next hk]
  simp only [shPart_len]
  by_cases hi : i < z.length
  · have g : ∀ k, (shPart z k)[i]? = some (if (i + (z.length - 1)) % z.length < k then nth z ((i + (z.length - 1)) % z.length) else 0) := fun k => by simp [shPart, tab, hi]
    rw [g, g]
    by_cases he : (if k + 1 = z.length then 0 else k + 1) = i
    · have em : (i + (z.length - 1)) % z.length = k := by rw [mod_back hi]; split at he <;> split <;> omega
      have hlt : (if k + 1 = z.length then 0 else k + 1) < z.length := by omega
      rw [if_pos he, if_pos hlt, em, if_pos (by omega)]
    · have em : (i + (z.length - 1)) % z.length ≠ k := by rw [mod_back hi]; split at he <;> split <;> omega
      rw [if_neg he]
      generalize (i + (z.length - 1)) % z.length = X at em
      by_cases hX : X < k
      · rw [if_pos hX, if_pos (by omega)]
      · rw [if_neg hX, if_neg (by omega)]
  · have g : ∀ k, (shPart z k)[i]? = none := fun k => by simp [shPart, tab, hi]
    rw [g, g]
    split <;> split <;> first | omega | (split <;> first | omega | rfl) | rfl
theorem shPart_all {z : List Int} (hn : 2 ≤ z.length) : shPart z z.length = shift z 1 := by
  unfold shPart shift
  refine tab_eq fun i hi => ?_
  rw [if_pos (Nat.mod_lt _ (by omega)), Nat.mod_eq_of_lt (show 1 < z.length by omega)]
set_option maxHeartbeats 2000000 in
theorem ringShift1_any (A : Option Addr) (n c : Nat) (z : List Int) (w : World) (ha : IR w A n z) :
    Calls Try.prog 24 #[.slice A n c, .int .i64 1] w (RInts w (ringShift1 z)) := by
  have HA := hide ha
  have hla := ha.len
  cases h2 : ringQ z
  · have HS := Lib.hid (show ringShift1 z = [] by simp [ringShift1, h2])
    clear ha
    go_enter Try.func24, Try.ntmps24
    go_wp2_with fail
    refine (ringValid_b false A n c z h2 _ HA.out).mono ?_
    rintro e w' ⟨rfl, rfl⟩
    go_wp2_with fail
    go_ret
    exact ⟨⟨_, rfl, by rw [HS.out]; exact Own.nil_ _ _⟩, Below.refl _ _⟩
  · have HS := Lib.hid (show ringShift1 z = shift z 1 by simp [ringShift1, h2])
    obtain ⟨l1, l2, b1⟩ := ringQ_out h2
    rw [hla] at l1 l2
    obtain ⟨_, _, hta⟩ := ha
    obtain ⟨p1, o1, rfl, hbl1, hc1⟩ := hta (by omega)
    have HC1 := hide hc1
    have HL := Lib.hid hla
    clear b1 hta hc1 hla
    go_enter Try.func24, Try.ntmps24
    go_wp2_with fail
    refine (ringValid_b true _ n c z h2 _ HA.out).mono ?_
    rintro e w' ⟨rfl, rfl⟩
    go_wp2_with fail
    refine (within_b true 1 0 12 (by decide) _).mono ?_
    rintro e w' ⟨rfl, rfl⟩
    go_wp2_with (at_make; refine wpList_make_ints w.heap.size n rfl _ _ rfl _ _ rfl rfl rfl rfl (by omega) (Nat.le_refl _) ?_; intro wa oa ba ga; have Ba := hide ba; have OA := hide oa; clear oa ba ga)
    generalize hg : w.heap.size = g0 at *
    go_loopw [21] (fun i wr => ∃ k : Nat, k ≤ n ∧ i = .int .i64 k ∧ Hid (Own wr g0 (.slice (some ⟨g0, 0, none⟩) n n) (shPart z k)) ∧ Hid (Below g0 w wr)) (fun i _ => n - (intOf i).toNat)
    case atStart => exact ⟨0, by omega, rfl, by rw [shPart_zero, HL.out]; exact OA.out, Ba.out⟩
    case round =>
      obtain ⟨k, hk, rfl, HO, HB⟩ := hrel
      by_cases hlt : k < n
      · have g1 : wr.cell? ⟨p1, o1 + k, none⟩ = some (.int .i64 (nth z k)) := (HB.out.cell (p := ⟨p1, o1 + k, none⟩) (by omega)).trans (HC1.out k hlt)
        obtain ⟨j, hj⟩ : ∃ j : Nat, j = (k + 1) % n := ⟨_, rfl⟩
        have hjn : j < n := by rw [hj]; exact Nat.mod_lt _ (by omega)
        have ej : ((k : Int) + 1) % (n : Int) = (j : Int) := by rw [hj]; norm_cast
        have g2 := HO.out.cellAt (by rw [shPart_len, HL.out]) j hjn
        have g3 := HO.out.frozenAt (by rw [shPart_len, HL.out]) j
        have so := HO.out.stored (by rw [shPart_len, HL.out]) j (nth z k)
        have SO := hide (show Own (wr.setCell ⟨g0, j, none⟩ (.int .i64 (nth z k))) g0 (.slice (some ⟨g0, 0, none⟩) n n) (shPart z (k + 1)) by
          rw [← shPart_set (by rw [HL.out]; exact hlt), HL.out, ← hj]; exact so.1)
        have SB := hide (show Below g0 w (wr.setCell ⟨g0, j, none⟩ (.int .i64 (nth z k))) from HB.out.setCell (HO.out.lt g0 rfl).1 _)
        clear so hj
        go_wp2_with fail
        go_roundw
        case rel => exact ⟨k + 1, by omega, by go_num, SO.out, SB.out⟩
        case measure => simp [intOf]; omega
      · obtain rfl : k = n := by omega
        go_wp2_with fail
        go_ret
        exact ⟨⟨_, rfl, by rw [HS.out, ← shPart_all (by rw [HL.out]; omega), HL.out, hg]; exact HO.out⟩, by rw [hg]; exact HB.out⟩
def flipTo (rule : Int) (n : Nat) : Int := (List.range n).foldl (fun (s : Int) (k : Nat) => s + rb rule ((k : Int) % 2) ((k : Int) / 2 % 2) ((k : Int) / 4) * 2 ^ k) 0
theorem flipTo_succ (rule : Int) (n : Nat) : flipTo rule (n + 1) = flipTo rule n + rb rule ((n : Int) % 2) ((n : Int) / 2 % 2) ((n : Int) / 4) * 2 ^ n := by
  simp [flipTo, List.range_succ]
theorem or_bit_fin : ∀ k : Fin 8, ∀ j : Fin 128, j.val < 2 ^ k.val → j.val ||| 2 ^ k.val = j.val + 2 ^ k.val := by decide +kernel
theorem or_bit (k j : Nat) (hk : k < 8) (hj : j < 2 ^ k) : bits .or .i64 (j : Int) ((2 ^ k : Nat) : Int) = ((j + 2 ^ k : Nat) : Int) := by
  have : 2 ^ k ≤ 128 := Nat.pow_le_pow_right (n := 2) (by omega) (show k ≤ 7 by omega)
  rw [i64_or_nat j (2 ^ k) (by omega) (by omega)]
  congr 1
  exact or_bit_fin ⟨k, hk⟩ ⟨j, by omega⟩ hj
theorem or_none (j : Nat) (hj : j < 256) : bits .or .i64 (j : Int) 0 = (j : Int) := by
  have := i64_or_nat j 0 (by omega) (by omega)
  simpa using this
set_option maxHeartbeats 4000000 in
theorem ruleFlip_any (rule : Int) (w : World) (h : ruleQ rule = true) :
    Calls Try.prog 25 #[.int .i64 rule] w fun e w' => e = .returned (.int .i64 (ruleFlip rule)) ∧ w = w' := by
  have HS := Lib.hid (show ruleFlip rule = flipTo rule 8 from rfl)
  go_enter Try.func25, Try.ntmps25
  go_wp2_with fail
  refine (ruleOk_b true rule h _).mono ?_
  rintro e w' ⟨rfl, rfl⟩
  go_wp2_with fail
  go_loop [3, 8] (fun s i => ∃ k j : Nat, k ≤ 8 ∧ i = .int .i64 k ∧ s = .int .i64 (j : Int) ∧ j < 2 ^ k ∧ Hid ((j : Int) = flipTo rule k)) (fun _ i => 8 - (intOf i).toNat)
  case atStart => exact ⟨0, 0, by omega, rfl, rfl, by omega, rfl⟩
  case round =>
    obtain ⟨k, j, hk, rfl, rfl, hj, HJ⟩ := hrel
    by_cases hlt : k < 8
    · have HT := Lib.hid (flipTo_succ rule k)
      have ho := or_bit k j hlt hj
      have ho0 := or_none j (by have := Nat.pow_le_pow_right (n := 2) (by omega) (show k ≤ 7 by omega); omega)
      rcases (show k = 0 ∨ k = 1 ∨ k = 2 ∨ k = 3 ∨ k = 4 ∨ k = 5 ∨ k = 6 ∨ k = 7 by omega) with rfl | rfl | rfl | rfl | rfl | rfl | rfl | rfl
      · have HT2 := Lib.hid (show flipTo rule (0 + 1) = flipTo rule 0 + rb rule 0 0 0 * 1 from HT.out)
        clear HT
        have ho' : bits .or .i64 (j : Int) 1 = (j : Int) + 1 := ho
        have hj' : j < 1 := hj
        clear ho hj
        rcases bitQ_iff.1 (rbit_bit rule (4 * 0 + 2 * 0 + 0 : Int).toNat) with hx | hx
        · have HX := Lib.hid (show rb rule 0 0 0 = 0 from hx)
          clear hx ho'
          go_wp2_with fail
          refine (ruleBit_any rule 0 0 0 h (by decide) (by decide) (by decide) _).mono ?_
          rintro e w' ⟨rfl, rfl⟩
          rw [HX.out]
          go_wp2_with fail
          go_round
          case rel => exact ⟨0 + 1, j, by omega, by go_num, rfl, by omega, Lib.hid (HT2.out.trans (by rw [HX.out, ← HJ.out]; omega)).symm⟩
          case measure => simp [intOf]
        · have HX := Lib.hid (show rb rule 0 0 0 = 1 from hx)
          clear hx
          go_wp2_with fail
          refine (ruleBit_any rule 0 0 0 h (by decide) (by decide) (by decide) _).mono ?_
          rintro e w' ⟨rfl, rfl⟩
          rw [HX.out]
          go_wp2_with fail
          go_round
          case rel => exact ⟨0 + 1, j + 1, by omega, by go_num, by simp, by omega, Lib.hid (HT2.out.trans (by rw [HX.out, ← HJ.out]; omega)).symm⟩
          case measure => simp [intOf]
      · have HT2 := Lib.hid (show flipTo rule (1 + 1) = flipTo rule 1 + rb rule 1 0 0 * 2 from HT.out)
        clear HT
        have ho' : bits .or .i64 (j : Int) 2 = (j : Int) + 2 := ho
        have hj' : j < 2 := hj
        clear ho hj
        rcases bitQ_iff.1 (rbit_bit rule (4 * 1 + 2 * 0 + 0 : Int).toNat) with hx | hx
        · have HX := Lib.hid (show rb rule 1 0 0 = 0 from hx)
          clear hx ho'
          go_wp2_with fail
          refine (ruleBit_any rule 1 0 0 h (by decide) (by decide) (by decide) _).mono ?_
          rintro e w' ⟨rfl, rfl⟩
          rw [HX.out]
          go_wp2_with fail
          go_round
          case rel => exact ⟨1 + 1, j, by omega, by go_num, rfl, by omega, Lib.hid (HT2.out.trans (by rw [HX.out, ← HJ.out]; omega)).symm⟩
          case measure => simp [intOf]
        · have HX := Lib.hid (show rb rule 1 0 0 = 1 from hx)
          clear hx
          go_wp2_with fail
          refine (ruleBit_any rule 1 0 0 h (by decide) (by decide) (by decide) _).mono ?_
          rintro e w' ⟨rfl, rfl⟩
          rw [HX.out]
          go_wp2_with fail
          go_round
          case rel => exact ⟨1 + 1, j + 2, by omega, by go_num, by simp, by omega, Lib.hid (HT2.out.trans (by rw [HX.out, ← HJ.out]; omega)).symm⟩
          case measure => simp [intOf]
      · have HT2 := Lib.hid (show flipTo rule (2 + 1) = flipTo rule 2 + rb rule 0 1 0 * 4 from HT.out)
        clear HT
        have ho' : bits .or .i64 (j : Int) 4 = (j : Int) + 4 := ho
        have hj' : j < 4 := hj
        clear ho hj
        rcases bitQ_iff.1 (rbit_bit rule (4 * 0 + 2 * 1 + 0 : Int).toNat) with hx | hx
        · have HX := Lib.hid (show rb rule 0 1 0 = 0 from hx)
          clear hx ho'
          go_wp2_with fail
          refine (ruleBit_any rule 0 1 0 h (by decide) (by decide) (by decide) _).mono ?_
          rintro e w' ⟨rfl, rfl⟩
          rw [HX.out]
          go_wp2_with fail
          go_round
          case rel => exact ⟨2 + 1, j, by omega, by go_num, rfl, by omega, Lib.hid (HT2.out.trans (by rw [HX.out, ← HJ.out]; omega)).symm⟩
          case measure => simp [intOf]
        · have HX := Lib.hid (show rb rule 0 1 0 = 1 from hx)
          clear hx
          go_wp2_with fail
          refine (ruleBit_any rule 0 1 0 h (by decide) (by decide) (by decide) _).mono ?_
          rintro e w' ⟨rfl, rfl⟩
          rw [HX.out]
          go_wp2_with fail
          go_round
          case rel => exact ⟨2 + 1, j + 4, by omega, by go_num, by simp, by omega, Lib.hid (HT2.out.trans (by rw [HX.out, ← HJ.out]; omega)).symm⟩
          case measure => simp [intOf]
      · have HT2 := Lib.hid (show flipTo rule (3 + 1) = flipTo rule 3 + rb rule 1 1 0 * 8 from HT.out)
        clear HT
        have ho' : bits .or .i64 (j : Int) 8 = (j : Int) + 8 := ho
        have hj' : j < 8 := hj
        clear ho hj
        rcases bitQ_iff.1 (rbit_bit rule (4 * 1 + 2 * 1 + 0 : Int).toNat) with hx | hx
        · have HX := Lib.hid (show rb rule 1 1 0 = 0 from hx)
          clear hx ho'
          go_wp2_with fail
          refine (ruleBit_any rule 1 1 0 h (by decide) (by decide) (by decide) _).mono ?_
          rintro e w' ⟨rfl, rfl⟩
          rw [HX.out]
          go_wp2_with fail
          go_round
          case rel => exact ⟨3 + 1, j, by omega, by go_num, rfl, by omega, Lib.hid (HT2.out.trans (by rw [HX.out, ← HJ.out]; omega)).symm⟩
          case measure => simp [intOf]
        · have HX := Lib.hid (show rb rule 1 1 0 = 1 from hx)
          clear hx
          go_wp2_with fail
          refine (ruleBit_any rule 1 1 0 h (by decide) (by decide) (by decide) _).mono ?_
          rintro e w' ⟨rfl, rfl⟩
          rw [HX.out]
          go_wp2_with fail
          go_round
          case rel => exact ⟨3 + 1, j + 8, by omega, by go_num, by simp, by omega, Lib.hid (HT2.out.trans (by rw [HX.out, ← HJ.out]; omega)).symm⟩
          case measure => simp [intOf]
      · have HT2 := Lib.hid (show flipTo rule (4 + 1) = flipTo rule 4 + rb rule 0 0 1 * 16 from HT.out)
        clear HT
        have ho' : bits .or .i64 (j : Int) 16 = (j : Int) + 16 := ho
        have hj' : j < 16 := hj
        clear ho hj
        rcases bitQ_iff.1 (rbit_bit rule (4 * 0 + 2 * 0 + 1 : Int).toNat) with hx | hx
        · have HX := Lib.hid (show rb rule 0 0 1 = 0 from hx)
          clear hx ho'
          go_wp2_with fail
          refine (ruleBit_any rule 0 0 1 h (by decide) (by decide) (by decide) _).mono ?_
          rintro e w' ⟨rfl, rfl⟩
          rw [HX.out]
          go_wp2_with fail
          go_round
          case rel => exact ⟨4 + 1, j, by omega, by go_num, rfl, by omega, Lib.hid (HT2.out.trans (by rw [HX.out, ← HJ.out]; omega)).symm⟩
          case measure => simp [intOf]
        · have HX := Lib.hid (show rb rule 0 0 1 = 1 from hx)
          clear hx
          go_wp2_with fail
          refine (ruleBit_any rule 0 0 1 h (by decide) (by decide) (by decide) _).mono ?_
          rintro e w' ⟨rfl, rfl⟩
          rw [HX.out]
          go_wp2_with fail
          go_round
          case rel => exact ⟨4 + 1, j + 16, by omega, by go_num, by simp, by omega, Lib.hid (HT2.out.trans (by rw [HX.out, ← HJ.out]; omega)).symm⟩
          case measure => simp [intOf]
      · have HT2 := Lib.hid (show flipTo rule (5 + 1) = flipTo rule 5 + rb rule 1 0 1 * 32 from HT.out)
        clear HT
        have ho' : bits .or .i64 (j : Int) 32 = (j : Int) + 32 := ho
        have hj' : j < 32 := hj
        clear ho hj
        rcases bitQ_iff.1 (rbit_bit rule (4 * 1 + 2 * 0 + 1 : Int).toNat) with hx | hx
        · have HX := Lib.hid (show rb rule 1 0 1 = 0 from hx)
          clear hx ho'
          go_wp2_with fail
          refine (ruleBit_any rule 1 0 1 h (by decide) (by decide) (by decide) _).mono ?_
          rintro e w' ⟨rfl, rfl⟩
          rw [HX.out]
          go_wp2_with fail
          go_round
          case rel => exact ⟨5 + 1, j, by omega, by go_num, rfl, by omega, Lib.hid (HT2.out.trans (by rw [HX.out, ← HJ.out]; omega)).symm⟩
          case measure => simp [intOf]
        · have HX := Lib.hid (show rb rule 1 0 1 = 1 from hx)
          clear hx
          go_wp2_with fail
          refine (ruleBit_any rule 1 0 1 h (by decide) (by decide) (by decide) _).mono ?_
          rintro e w' ⟨rfl, rfl⟩
          rw [HX.out]
          go_wp2_with fail
          go_round
          case rel => exact ⟨5 + 1, j + 32, by omega, by go_num, by simp, by omega, Lib.hid (HT2.out.trans (by rw [HX.out, ← HJ.out]; omega)).symm⟩
          case measure => simp [intOf]
      · have HT2 := Lib.hid (show flipTo rule (6 + 1) = flipTo rule 6 + rb rule 0 1 1 * 64 from HT.out)
        clear HT
        have ho' : bits .or .i64 (j : Int) 64 = (j : Int) + 64 := ho
        have hj' : j < 64 := hj
        clear ho hj
        rcases bitQ_iff.1 (rbit_bit rule (4 * 0 + 2 * 1 + 1 : Int).toNat) with hx | hx
        · have HX := Lib.hid (show rb rule 0 1 1 = 0 from hx)
          clear hx ho'
          go_wp2_with fail
          refine (ruleBit_any rule 0 1 1 h (by decide) (by decide) (by decide) _).mono ?_
          rintro e w' ⟨rfl, rfl⟩
          rw [HX.out]
          go_wp2_with fail
          go_round
          case rel => exact ⟨6 + 1, j, by omega, by go_num, rfl, by omega, Lib.hid (HT2.out.trans (by rw [HX.out, ← HJ.out]; omega)).symm⟩
          case measure => simp [intOf]
        · have HX := Lib.hid (show rb rule 0 1 1 = 1 from hx)
          clear hx
          go_wp2_with fail
          refine (ruleBit_any rule 0 1 1 h (by decide) (by decide) (by decide) _).mono ?_
          rintro e w' ⟨rfl, rfl⟩
          rw [HX.out]
          go_wp2_with fail
          go_round
          case rel => exact ⟨6 + 1, j + 64, by omega, by go_num, by simp, by omega, Lib.hid (HT2.out.trans (by rw [HX.out, ← HJ.out]; omega)).symm⟩
          case measure => simp [intOf]
      · have HT2 := Lib.hid (show flipTo rule (7 + 1) = flipTo rule 7 + rb rule 1 1 1 * 128 from HT.out)
        clear HT
        have ho' : bits .or .i64 (j : Int) 128 = (j : Int) + 128 := ho
        have hj' : j < 128 := hj
        clear ho hj
        rcases bitQ_iff.1 (rbit_bit rule (4 * 1 + 2 * 1 + 1 : Int).toNat) with hx | hx
        · have HX := Lib.hid (show rb rule 1 1 1 = 0 from hx)
          clear hx ho'
          go_wp2_with fail
          refine (ruleBit_any rule 1 1 1 h (by decide) (by decide) (by decide) _).mono ?_
          rintro e w' ⟨rfl, rfl⟩
          rw [HX.out]
          go_wp2_with fail
          go_round
          case rel => exact ⟨7 + 1, j, by omega, by go_num, rfl, by omega, Lib.hid (HT2.out.trans (by rw [HX.out, ← HJ.out]; omega)).symm⟩
          case measure => simp [intOf]
        · have HX := Lib.hid (show rb rule 1 1 1 = 1 from hx)
          clear hx
          go_wp2_with fail
          refine (ruleBit_any rule 1 1 1 h (by decide) (by decide) (by decide) _).mono ?_
          rintro e w' ⟨rfl, rfl⟩
          rw [HX.out]
          go_wp2_with fail
          go_round
          case rel => exact ⟨7 + 1, j + 128, by omega, by go_num, by simp, by omega, Lib.hid (HT2.out.trans (by rw [HX.out, ← HJ.out]; omega)).symm⟩
          case measure => simp [intOf]
    · obtain rfl : k = 8 := by omega
      have HE := Lib.hid (show (j : Int) = ruleFlip rule by rw [HS.out]; exact HJ.out)
      go_wp2_with fail
      go_ret
      exact ⟨by rw [← HE.out]; rfl, rfl⟩
end Go.Proofs.Ytefkbjccgajbiaa
