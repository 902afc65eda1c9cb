/-
  The text of a small number by the reference.
  No condition.
-/
import Derived.Deep.RegionWith
import Derived.Deep.DeepCutAuto
import Derived.Test.YtokcappgaokeaaaDoorInv
import Derived.Test.YtokcappgaokeaaaDoorStrs
import Derived.Laws.BytesArg
namespace Go.Proofs.YtokcappgaokeaaaDoor
open Go.RowKit Go.Sort base
theorem upd_ne {L : Nat → Bool} {k j : Nat} (h : upd L k j = true) (hne : (j == k) = false) : L j = true := by simpa [upd, hne] using h
theorem upd_f {L : Nat → Bool} {k j : Nat} (h : upd L k j = false) : L j = false := by simp [upd] at h; exact h.1
def dig (z : Int) : UInt8 := UInt8.ofNat (48 + z.toNat)
theorem txt_dig (z : Nat) (h : z < 10) : txt (z : Int) = ⟨#[dig z]⟩ := by
  have e : Lib.itoa (z : Int) = [dig z] := by
    unfold Lib.itoa
    rw [if_neg (by omega), Int.toNat_natCast, Lib.decDigits, dif_pos h]
    rfl
  rw [txt, e]
theorem txt_step (z : Nat) (h : 10 ≤ z) : txt ((z / 10 : Nat) : Int) ++ ⟨#[dig ((z % 10 : Nat) : Int)]⟩ = txt (z : Int) := by
  have e : Lib.itoa (z : Int) = Lib.itoa ((z / 10 : Nat) : Int) ++ [dig ((z % 10 : Nat) : Int)] := by
    unfold Lib.itoa
    rw [if_neg (by omega), if_neg (by omega), Int.toNat_natCast, Int.toNat_natCast, Lib.decDigits, dif_neg (by omega)]
    rfl
  rw [txt, txt, e]
  apply ByteArray.ext
  simp
set_option maxRecDepth 100000 in
set_option maxHeartbeats 1000000 in
theorem l1Number_dig (z : Int) (w : World) (hz : 0 ≤ z ∧ z ≤ 9) :
    Calls Tryd.prog 27 #[.int .i64 z] w fun e w' => e = .returned (.string ⟨#[dig z]⟩) ∧ Below w.heap.size w w' := by
  obtain ⟨h0, h9⟩ := hz
  have hc := (run_convert_bytes_arg (P := Tryd.prog) (w.alloc (.cells #[.int .u8 (48 + z)] 5)) 28 5 Tryd.underlying28 Tryd.underlying5 w.heap.size 0 1 1 [48 + z] rfl (by
    intro i hi
    obtain rfl : i = 0 := by omega
    exact cell_at rfl rfl) 9 Tryd.underlying9)
  obtain ⟨t, ht⟩ : ∃ t, dig z = t := ⟨_, rfl⟩
  rw [show strOfNums [48 + z] = ⟨#[dig z]⟩ by simp [strOfNums, dig, show (48 + z).toNat = 48 + z.toNat by omega], ht] at hc
  rw [ht]
  clear ht
  go_enter Tryd.func27, Tryd.ntmps27
  go_wp2_with fail
  go_ret
  exact ⟨rfl, by go_grown⟩
structure JN (w : World) (z q m : Nat) (T : ByteArray) (d : UInt8) (L : Nat → Bool) (x24 x25 x26 x27 x28 x29 x30 x31 x32 x33 x2 : Value) (wx : World) : Prop where
  h0 : L 0 = true → x24 = .int .i64 (z : Nat)
  h1 : L 1 = true → x25 = .int .i64 (q : Nat)
  h2 : L 2 = true → x26 = .string T
  h3 : L 3 = true → x27 = .int .i64 (z : Nat)
  h4 : L 4 = true → x28 = .int .i64 ((m : Nat) : Int)
  h5 : L 5 = true → x29 = .int .i64 (48 + ((m : Nat) : Int))
  h6 : L 6 = true → x30 = .int .u8 (48 + ((m : Nat) : Int))
  h7 : L 7 = true → ∃ b, x31 = .slice (some ⟨b, 0, none⟩) 1 1 ∧ w.heap.size ≤ b ∧ wx.cell? ⟨b, 0, none⟩ = some (.int .u8 (48 + ((m : Nat) : Int)))
  h8 : L 8 = true → x32 = .string ⟨#[d]⟩
  h9 : L 9 = true → x33 = .string (T ++ ⟨#[d]⟩)
  h10 : L 10 = true → x2 = .string (T ++ ⟨#[d]⟩)
  b : Below w.heap.size w wx
theorem JN.start {w : World} {z q m : Nat} {T : ByteArray} {d : UInt8} {wx : World} {x24 x25 x26 x27 x28 x29 x30 x31 x32 x33 x2 : Value} (hs : Below w.heap.size w wx) : JN w z q m T d (fun _ => false) x24 x25 x26 x27 x28 x29 x30 x31 x32 x33 x2 wx :=
  ⟨(fun h => by cases h), (fun h => by cases h), (fun h => by cases h), (fun h => by cases h), (fun h => by cases h), (fun h => by cases h), (fun h => by cases h), (fun h => by cases h), (fun h => by cases h), (fun h => by cases h), (fun h => by cases h), hs⟩
theorem JN.p0 {w : World} {z q m : Nat} {T : ByteArray} {d : UInt8} {wx : World} {L : Nat → Bool} {x24 x25 x26 x27 x28 x29 x30 x31 x32 x33 x2 : Value} (h : JN w z q m T d L x24 x25 x26 x27 x28 x29 x30 x31 x32 x33 x2 wx) {v : Value} (hv : v = .int .i64 (z : Nat)) : JN w z q m T d (upd L 0) v x25 x26 x27 x28 x29 x30 x31 x32 x33 x2 wx :=
  ⟨fun _ => hv, fun e => h.h1 (upd_ne e rfl), fun e => h.h2 (upd_ne e rfl), fun e => h.h3 (upd_ne e rfl), fun e => h.h4 (upd_ne e rfl), fun e => h.h5 (upd_ne e rfl), fun e => h.h6 (upd_ne e rfl), fun e => h.h7 (upd_ne e rfl), fun e => h.h8 (upd_ne e rfl), fun e => h.h9 (upd_ne e rfl), fun e => h.h10 (upd_ne e rfl), h.b⟩
theorem JN.p1 {w : World} {z q m : Nat} {T : ByteArray} {d : UInt8} {wx : World} {L : Nat → Bool} {x24 x25 x26 x27 x28 x29 x30 x31 x32 x33 x2 : Value} (h : JN w z q m T d L x24 x25 x26 x27 x28 x29 x30 x31 x32 x33 x2 wx) {v : Value} (hv : v = .int .i64 (q : Nat)) : JN w z q m T d (upd L 1) x24 v x26 x27 x28 x29 x30 x31 x32 x33 x2 wx :=
  ⟨fun e => h.h0 (upd_ne e rfl), fun _ => hv, fun e => h.h2 (upd_ne e rfl), fun e => h.h3 (upd_ne e rfl), fun e => h.h4 (upd_ne e rfl), fun e => h.h5 (upd_ne e rfl), fun e => h.h6 (upd_ne e rfl), fun e => h.h7 (upd_ne e rfl), fun e => h.h8 (upd_ne e rfl), fun e => h.h9 (upd_ne e rfl), fun e => h.h10 (upd_ne e rfl), h.b⟩
theorem JN.p3 {w : World} {z q m : Nat} {T : ByteArray} {d : UInt8} {wx : World} {L : Nat → Bool} {x24 x25 x26 x27 x28 x29 x30 x31 x32 x33 x2 : Value} (h : JN w z q m T d L x24 x25 x26 x27 x28 x29 x30 x31 x32 x33 x2 wx) {v : Value} (hv : v = .int .i64 (z : Nat)) : JN w z q m T d (upd L 3) x24 x25 x26 v x28 x29 x30 x31 x32 x33 x2 wx :=
  ⟨fun e => h.h0 (upd_ne e rfl), fun e => h.h1 (upd_ne e rfl), fun e => h.h2 (upd_ne e rfl), fun _ => hv, fun e => h.h4 (upd_ne e rfl), fun e => h.h5 (upd_ne e rfl), fun e => h.h6 (upd_ne e rfl), fun e => h.h7 (upd_ne e rfl), fun e => h.h8 (upd_ne e rfl), fun e => h.h9 (upd_ne e rfl), fun e => h.h10 (upd_ne e rfl), h.b⟩
theorem JN.p4 {w : World} {z q m : Nat} {T : ByteArray} {d : UInt8} {wx : World} {L : Nat → Bool} {x24 x25 x26 x27 x28 x29 x30 x31 x32 x33 x2 : Value} (h : JN w z q m T d L x24 x25 x26 x27 x28 x29 x30 x31 x32 x33 x2 wx) {v : Value} (hv : v = .int .i64 ((m : Nat) : Int)) : JN w z q m T d (upd L 4) x24 x25 x26 x27 v x29 x30 x31 x32 x33 x2 wx :=
  ⟨fun e => h.h0 (upd_ne e rfl), fun e => h.h1 (upd_ne e rfl), fun e => h.h2 (upd_ne e rfl), fun e => h.h3 (upd_ne e rfl), fun _ => hv, fun e => h.h5 (upd_ne e rfl), fun e => h.h6 (upd_ne e rfl), fun e => h.h7 (upd_ne e rfl), fun e => h.h8 (upd_ne e rfl), fun e => h.h9 (upd_ne e rfl), fun e => h.h10 (upd_ne e rfl), h.b⟩
theorem JN.p5 {w : World} {z q m : Nat} {T : ByteArray} {d : UInt8} {wx : World} {L : Nat → Bool} {x24 x25 x26 x27 x28 x29 x30 x31 x32 x33 x2 : Value} (h : JN w z q m T d L x24 x25 x26 x27 x28 x29 x30 x31 x32 x33 x2 wx) {v : Value} (hv : v = .int .i64 (48 + ((m : Nat) : Int))) : JN w z q m T d (upd L 5) x24 x25 x26 x27 x28 v x30 x31 x32 x33 x2 wx :=
  ⟨fun e => h.h0 (upd_ne e rfl), fun e => h.h1 (upd_ne e rfl), fun e => h.h2 (upd_ne e rfl), fun e => h.h3 (upd_ne e rfl), fun e => h.h4 (upd_ne e rfl), fun _ => hv, fun e => h.h6 (upd_ne e rfl), fun e => h.h7 (upd_ne e rfl), fun e => h.h8 (upd_ne e rfl), fun e => h.h9 (upd_ne e rfl), fun e => h.h10 (upd_ne e rfl), h.b⟩
theorem JN.p6 {w : World} {z q m : Nat} {T : ByteArray} {d : UInt8} {wx : World} {L : Nat → Bool} {x24 x25 x26 x27 x28 x29 x30 x31 x32 x33 x2 : Value} (h : JN w z q m T d L x24 x25 x26 x27 x28 x29 x30 x31 x32 x33 x2 wx) {v : Value} (hv : v = .int .u8 (48 + ((m : Nat) : Int))) : JN w z q m T d (upd L 6) x24 x25 x26 x27 x28 x29 v x31 x32 x33 x2 wx :=
  ⟨fun e => h.h0 (upd_ne e rfl), fun e => h.h1 (upd_ne e rfl), fun e => h.h2 (upd_ne e rfl), fun e => h.h3 (upd_ne e rfl), fun e => h.h4 (upd_ne e rfl), fun e => h.h5 (upd_ne e rfl), fun _ => hv, fun e => h.h7 (upd_ne e rfl), fun e => h.h8 (upd_ne e rfl), fun e => h.h9 (upd_ne e rfl), fun e => h.h10 (upd_ne e rfl), h.b⟩
theorem JN.p8 {w : World} {z q m : Nat} {T : ByteArray} {d : UInt8} {wx : World} {L : Nat → Bool} {x24 x25 x26 x27 x28 x29 x30 x31 x32 x33 x2 : Value} (h : JN w z q m T d L x24 x25 x26 x27 x28 x29 x30 x31 x32 x33 x2 wx) {v : Value} (hv : v = .string ⟨#[d]⟩) : JN w z q m T d (upd L 8) x24 x25 x26 x27 x28 x29 x30 x31 v x33 x2 wx :=
  ⟨fun e => h.h0 (upd_ne e rfl), fun e => h.h1 (upd_ne e rfl), fun e => h.h2 (upd_ne e rfl), fun e => h.h3 (upd_ne e rfl), fun e => h.h4 (upd_ne e rfl), fun e => h.h5 (upd_ne e rfl), fun e => h.h6 (upd_ne e rfl), fun e => h.h7 (upd_ne e rfl), fun _ => hv, fun e => h.h9 (upd_ne e rfl), fun e => h.h10 (upd_ne e rfl), h.b⟩
theorem JN.p9 {w : World} {z q m : Nat} {T : ByteArray} {d : UInt8} {wx : World} {L : Nat → Bool} {x24 x25 x26 x27 x28 x29 x30 x31 x32 x33 x2 : Value} (h : JN w z q m T d L x24 x25 x26 x27 x28 x29 x30 x31 x32 x33 x2 wx) {v : Value} (hv : v = .string (T ++ ⟨#[d]⟩)) : JN w z q m T d (upd L 9) x24 x25 x26 x27 x28 x29 x30 x31 x32 v x2 wx :=
  ⟨fun e => h.h0 (upd_ne e rfl), fun e => h.h1 (upd_ne e rfl), fun e => h.h2 (upd_ne e rfl), fun e => h.h3 (upd_ne e rfl), fun e => h.h4 (upd_ne e rfl), fun e => h.h5 (upd_ne e rfl), fun e => h.h6 (upd_ne e rfl), fun e => h.h7 (upd_ne e rfl), fun e => h.h8 (upd_ne e rfl), fun _ => hv, fun e => h.h10 (upd_ne e rfl), h.b⟩
theorem JN.p10 {w : World} {z q m : Nat} {T : ByteArray} {d : UInt8} {wx : World} {L : Nat → Bool} {x24 x25 x26 x27 x28 x29 x30 x31 x32 x33 x2 : Value} (h : JN w z q m T d L x24 x25 x26 x27 x28 x29 x30 x31 x32 x33 x2 wx) {v : Value} (hv : v = .string (T ++ ⟨#[d]⟩)) : JN w z q m T d (upd L 10) x24 x25 x26 x27 x28 x29 x30 x31 x32 x33 v wx :=
  ⟨fun e => h.h0 (upd_ne e rfl), fun e => h.h1 (upd_ne e rfl), fun e => h.h2 (upd_ne e rfl), fun e => h.h3 (upd_ne e rfl), fun e => h.h4 (upd_ne e rfl), fun e => h.h5 (upd_ne e rfl), fun e => h.h6 (upd_ne e rfl), fun e => h.h7 (upd_ne e rfl), fun e => h.h8 (upd_ne e rfl), fun e => h.h9 (upd_ne e rfl), fun _ => hv, h.b⟩
theorem JN.new {w : World} {z q m : Nat} {T : ByteArray} {d : UInt8} {wx : World} {L : Nat → Bool} {x24 x25 x26 x27 x28 x29 x30 x31 x32 x33 x2 : Value} (h : JN w z q m T d L x24 x25 x26 x27 x28 x29 x30 x31 x32 x33 x2 wx)  : JN w z q m T d (upd L 7) x24 x25 x26 x27 x28 x29 x30 (.slice (some ⟨wx.heap.size, 0, none⟩) 1 1) x32 x33 x2 (wx.alloc (.cells #[.int .u8 (48 + ((m : Nat) : Int))] 5)) := by
  exact ⟨fun e => h.h0 (upd_ne e rfl), fun e => h.h1 (upd_ne e rfl), fun e => h.h2 (upd_ne e rfl), fun e => h.h3 (upd_ne e rfl), fun e => h.h4 (upd_ne e rfl), fun e => h.h5 (upd_ne e rfl), fun e => h.h6 (upd_ne e rfl), fun _ => ⟨_, rfl, h.b.size, cell_at rfl rfl⟩, fun e => h.h8 (upd_ne e rfl), fun e => h.h9 (upd_ne e rfl), fun e => h.h10 (upd_ne e rfl), h.b.alloc h.b.size _⟩
theorem JN.call {w : World} {z q m : Nat} {T : ByteArray} {d : UInt8} {wx : World} {L : Nat → Bool} {x24 x25 x26 x27 x28 x29 x30 x31 x32 x33 x2 : Value} (h : JN w z q m T d L x24 x25 x26 x27 x28 x29 x30 x31 x32 x33 x2 wx) {wy : World} (hb : Below wx.heap.size wx wy) : JN w z q m T d (upd L 2) x24 x25 (.string T) x27 x28 x29 x30 x31 x32 x33 x2 wy := by
  exact ⟨fun e => h.h0 (upd_ne e rfl), fun e => h.h1 (upd_ne e rfl), fun _ => rfl, fun e => h.h3 (upd_ne e rfl), fun e => h.h4 (upd_ne e rfl), fun e => h.h5 (upd_ne e rfl), fun e => h.h6 (upd_ne e rfl), fun e => by obtain ⟨b, e1, e2, e3⟩ := h.h7 (upd_ne e rfl); exact ⟨b, e1, e2, (hb.cell (p := ⟨b, 0, none⟩) (World.block_lt_of_cell? _ _ e3)).trans e3⟩, fun e => h.h8 (upd_ne e rfl), fun e => h.h9 (upd_ne e rfl), fun e => h.h10 (upd_ne e rfl), h.b.trans (hb.mono h.b.size)⟩
set_option maxRecDepth 100000 in
set_option maxHeartbeats 4000000 in
theorem l1Number_step (z q m : Nat) (T : ByteArray) (w : World) (hz : 10 ≤ z ∧ z ≤ 999) (hm : m < 10) (hzq : z = 10 * q + m) (hT : T.size ≤ 100) (hC : ∀ W, Calls Tryd.prog 27 #[.int .i64 (q : Nat)] W fun e w' => e = .returned (.string T) ∧ Below W.heap.size W w') :
    Calls Tryd.prog 27 #[.int .i64 z] w fun e w' => e = .returned (.string (T ++ ⟨#[dig (m : Nat)]⟩)) ∧ Below w.heap.size w w' := by
  obtain ⟨hz1, hz2⟩ := hz
  have HC := hide hC
  have hq1 : (z : Int) / 10 = (q : Int) := by omega
  have hq2 : (z : Int) % 10 = (m : Int) := by omega
  obtain ⟨d, hd⟩ : ∃ d, dig (m : Nat) = d := ⟨_, rfl⟩
  have HV := hide (fun (W : World) (b : Nat) (hc : W.cell? ⟨b, 0, none⟩ = some (.int .u8 (48 + (m : Int)))) => show (convert 28 9 (.slice (some ⟨b, 0, none⟩) 1 1)).run Tryd.prog W = .ok (.string ⟨#[d]⟩) W by
    have := run_convert_bytes_arg (P := Tryd.prog) W 28 5 Tryd.underlying28 Tryd.underlying5 b 0 1 1 [48 + (m : Int)] rfl (by
      intro i hi
      obtain rfl : i = 0 := by omega
      exact hc) 9 Tryd.underlying9
    rw [this, show strOfNums [48 + (m : Int)] = ⟨#[dig (m : Nat)]⟩ by simp [strOfNums, dig, show (48 + (m : Int)).toNat = 48 + m by omega], hd])
  rw [hd]
  have hq99 : q ≤ 99 := by omega
  clear hC hd hzq
  go_enter Tryd.func27, Tryd.ntmps27
  go_upto_region 7 with fail
  refine wp_frame fun a0 ha0 => ?_
  have HA := Lib.hid ha0
  clear ha0
  refine wp_region_inv (fun L a wx => ∃ x24 x25 x26 x27 x28 x29 x30 x31 x32 x33 x2, a = putL a0 [(24, x24), (25, x25), (26, x26), (27, x27), (28, x28), (29, x29), (30, x30), (31, x31), (32, x32), (33, x33), (2, x2)] ∧ Hid (JN w z q m T d L x24 x25 x26 x27 x28 x29 x30 x31 x32 x33 x2 wx)) (by kernel_rfl) (by kernel_rfl) ?_ ?_ ?_
  · exact ⟨_, _, _, _, _, _, _, _, _, _, _, putL_self a0 [24, 25, 26, 27, 28, 29, 30, 31, 32, 33, 2], hide (JN.start (below_drewN (Below.refl _ w) 1))⟩
  · refine ⟨?_, ?_, ?_, ?_, ?_, ?_, ?_, ?_, ?_, ?_, ?_, trivial⟩
    · intro L a wx hL0 hd
      rintro ⟨x24, x25, x26, x27, x28, x29, x30, x31, x32, x33, x2, rfl, HJ⟩
      have hD := hd
      try simp [deps, Region.binds] at hD
      clear hD hd
      rw [← HA.out]
      simp only [putL, List.setIfInBounds_toArray, List.set_cons_succ, List.set_cons_zero]
      go_wp2_with fail
      refine ⟨_, _, _, _, _, _, _, _, _, _, _, ?_, hide (HJ.out.p0 rfl)⟩
      · try rw [← HA.out]
        try simp only [putL, List.setIfInBounds_toArray, List.set_cons_succ, List.set_cons_zero]
    · intro L a wx hL0 hd
      rintro ⟨x24, x25, x26, x27, x28, x29, x30, x31, x32, x33, x2, rfl, HJ⟩
      have hD := hd
      try simp [deps, Region.binds] at hD
      obtain rfl := HJ.out.h0 (by simp [hD])
      clear hD hd
      rw [← HA.out]
      simp only [putL, List.setIfInBounds_toArray, List.set_cons_succ, List.set_cons_zero]
      go_wp2_with fail
      refine ⟨_, _, _, _, _, _, _, _, _, _, _, ?_, hide (HJ.out.p1 rfl)⟩
      · try rw [← HA.out]
        try simp only [putL, List.setIfInBounds_toArray, List.set_cons_succ, List.set_cons_zero]
    · intro L a wx hL0 hd
      rintro ⟨x24, x25, x26, x27, x28, x29, x30, x31, x32, x33, x2, rfl, HJ⟩
      have hD := hd
      try simp [deps, Region.binds] at hD
      obtain rfl := HJ.out.h1 (by simp [hD])
      clear hD hd
      rw [← HA.out]
      simp only [putL, List.setIfInBounds_toArray, List.set_cons_succ, List.set_cons_zero]
      go_wp2_with fail
      refine (HC.out _).mono ?_
      rintro e w1 ⟨rfl, hb⟩
      have HJ2 := hide (HJ.out.call hb)
      clear hb
      go_wp2_with fail
      refine ⟨_, _, _, _, _, _, _, _, _, _, _, ?_, hide (HJ2.out)⟩
      · try rw [← HA.out]
        try simp only [putL, List.setIfInBounds_toArray, List.set_cons_succ, List.set_cons_zero]
    · intro L a wx hL0 hd
      rintro ⟨x24, x25, x26, x27, x28, x29, x30, x31, x32, x33, x2, rfl, HJ⟩
      have hD := hd
      try simp [deps, Region.binds] at hD
      clear hD hd
      rw [← HA.out]
      simp only [putL, List.setIfInBounds_toArray, List.set_cons_succ, List.set_cons_zero]
      go_wp2_with fail
      refine ⟨_, _, _, _, _, _, _, _, _, _, _, ?_, hide (HJ.out.p3 rfl)⟩
      · try rw [← HA.out]
        try simp only [putL, List.setIfInBounds_toArray, List.set_cons_succ, List.set_cons_zero]
    · intro L a wx hL0 hd
      rintro ⟨x24, x25, x26, x27, x28, x29, x30, x31, x32, x33, x2, rfl, HJ⟩
      have hD := hd
      try simp [deps, Region.binds] at hD
      obtain rfl := HJ.out.h3 (by simp [hD])
      clear hD hd
      rw [← HA.out]
      simp only [putL, List.setIfInBounds_toArray, List.set_cons_succ, List.set_cons_zero]
      go_wp2_with fail
      refine ⟨_, _, _, _, _, _, _, _, _, _, _, ?_, hide (HJ.out.p4 rfl)⟩
      · try rw [← HA.out]
        try simp only [putL, List.setIfInBounds_toArray, List.set_cons_succ, List.set_cons_zero]
    · intro L a wx hL0 hd
      rintro ⟨x24, x25, x26, x27, x28, x29, x30, x31, x32, x33, x2, rfl, HJ⟩
      have hD := hd
      try simp [deps, Region.binds] at hD
      obtain rfl := HJ.out.h4 (by simp [hD])
      clear hD hd
      rw [← HA.out]
      simp only [putL, List.setIfInBounds_toArray, List.set_cons_succ, List.set_cons_zero]
      go_wp2_with fail
      refine ⟨_, _, _, _, _, _, _, _, _, _, _, ?_, hide (HJ.out.p5 rfl)⟩
      · try rw [← HA.out]
        try simp only [putL, List.setIfInBounds_toArray, List.set_cons_succ, List.set_cons_zero]
    · intro L a wx hL0 hd
      rintro ⟨x24, x25, x26, x27, x28, x29, x30, x31, x32, x33, x2, rfl, HJ⟩
      have hD := hd
      try simp [deps, Region.binds] at hD
      obtain rfl := HJ.out.h5 (by simp [hD])
      clear hD hd
      rw [← HA.out]
      simp only [putL, List.setIfInBounds_toArray, List.set_cons_succ, List.set_cons_zero]
      go_wp2_with fail
      refine ⟨_, _, _, _, _, _, _, _, _, _, _, ?_, hide (HJ.out.p6 rfl)⟩
      · try rw [← HA.out]
        try simp only [putL, List.setIfInBounds_toArray, List.set_cons_succ, List.set_cons_zero]
    · intro L a wx hL0 hd
      rintro ⟨x24, x25, x26, x27, x28, x29, x30, x31, x32, x33, x2, rfl, HJ⟩
      have hD := hd
      try simp [deps, Region.binds] at hD
      obtain rfl := HJ.out.h6 (by simp [hD])
      clear hD hd
      rw [← HA.out]
      simp only [putL, List.setIfInBounds_toArray, List.set_cons_succ, List.set_cons_zero]
      go_wp2_with fail
      refine ⟨_, _, _, _, _, _, _, _, _, _, _, ?_, hide (HJ.out.new)⟩
      · try rw [← HA.out]
        try simp only [putL, List.setIfInBounds_toArray, List.set_cons_succ, List.set_cons_zero]
    · intro L a wx hL0 hd
      rintro ⟨x24, x25, x26, x27, x28, x29, x30, x31, x32, x33, x2, rfl, HJ⟩
      have hD := hd
      try simp [deps, Region.binds] at hD
      obtain ⟨b, rfl, l1, hc⟩ := HJ.out.h7 (by simp [hD])
      have hcv := HV.out wx b hc
      clear hD hd
      rw [← HA.out]
      simp only [putL, List.setIfInBounds_toArray, List.set_cons_succ, List.set_cons_zero]
      go_wp2_with fail
      refine ⟨_, _, _, _, _, _, _, _, _, _, _, ?_, hide (HJ.out.p8 rfl)⟩
      · try rw [← HA.out]
        try simp only [putL, List.setIfInBounds_toArray, List.set_cons_succ, List.set_cons_zero]
    · intro L a wx hL0 hd
      rintro ⟨x24, x25, x26, x27, x28, x29, x30, x31, x32, x33, x2, rfl, HJ⟩
      have hD := hd
      try simp [deps, Region.binds] at hD
      obtain rfl := HJ.out.h2 (by simp [hD])
      obtain rfl := HJ.out.h8 (by simp [hD])
      clear hD hd
      rw [← HA.out]
      simp only [putL, List.setIfInBounds_toArray, List.set_cons_succ, List.set_cons_zero]
      go_wp2_with fail
      refine ⟨_, _, _, _, _, _, _, _, _, _, _, ?_, hide (HJ.out.p9 rfl)⟩
      · try rw [← HA.out]
        try simp only [putL, List.setIfInBounds_toArray, List.set_cons_succ, List.set_cons_zero]
    · intro L a wx hL0 hd
      rintro ⟨x24, x25, x26, x27, x28, x29, x30, x31, x32, x33, x2, rfl, HJ⟩
      have hD := hd
      try simp [deps, Region.binds] at hD
      obtain rfl := HJ.out.h9 (by simp [hD])
      clear hD hd
      rw [← HA.out]
      simp only [putL, List.setIfInBounds_toArray, List.set_cons_succ, List.set_cons_zero]
      go_wp2_with fail
      refine ⟨_, _, _, _, _, _, _, _, _, _, _, ?_, hide (HJ.out.p10 rfl)⟩
      · try rw [← HA.out]
        try simp only [putL, List.setIfInBounds_toArray, List.set_cons_succ, List.set_cons_zero]
  · intro L a wx hall
    rintro ⟨x24, x25, x26, x27, x28, x29, x30, x31, x32, x33, x2, rfl, HJ⟩
    rw [← HA.out]
    simp only [putL, List.setIfInBounds_toArray, List.set_cons_succ, List.set_cons_zero]
    obtain rfl := HJ.out.h10 (hall 10 (by decide))
    have HB := hide HJ.out.b
    go_wp2_with fail
    go_ret
    exact ⟨rfl, HB.out⟩
theorem l1Number_txt (z : Nat) (w : World) (hz : z ≤ 999) :
    Calls Tryd.prog 27 #[.int .i64 z] w fun e w' => e = .returned (.string (txt z)) ∧ Below w.heap.size w w' := by
  have h1 : ∀ (z : Nat), z < 10 → ∀ W, Calls Tryd.prog 27 #[.int .i64 z] W fun e w' => e = .returned (.string (txt z)) ∧ Below W.heap.size W w' := fun z h W => by
    rw [txt_dig z h]; exact l1Number_dig z W (by omega)
  have hsz : ∀ z : Nat, z ≤ 999 → (txt (z : Int)).size ≤ 100 := fun z h => by
    have := itoa_len (z := (z : Int)) (by simp [Lit.wf, IntKind.min, IntKind.max, IntKind.signed, IntKind.bits]; omega)
    show (Lib.itoa (z : Int)).toArray.size ≤ 100
    simp; omega
  have h2 : ∀ (z : Nat), z < 100 → ∀ W, Calls Tryd.prog 27 #[.int .i64 z] W fun e w' => e = .returned (.string (txt z)) ∧ Below W.heap.size W w' := fun z h W => by
    by_cases h10 : z < 10
    · exact h1 z h10 W
    · rw [← txt_step z (by omega)]
      exact l1Number_step z (z / 10) (z % 10) _ W (by omega) (by omega) (by omega) (hsz _ (by omega)) (h1 (z / 10) (by omega))
  by_cases h10 : z < 100
  · exact h2 z h10 w
  · rw [← txt_step z (by omega)]
    exact l1Number_step z (z / 10) (z % 10) _ w (by omega) (by omega) (by omega) (hsz _ (by omega)) (h2 (z / 10) (by omega))
end Go.Proofs.YtokcappgaokeaaaDoor
