/-
  Rings: the sum of two rings.
  No condition.
-/
import Derived.Test.YtefkbjccgajbiaaRingBit
namespace Go.Proofs.Ytefkbjccgajbiaa
open Go.RowKit Go.Sort base
set_option maxHeartbeats 1000000 in
theorem sum_any (A B : Option Addr) (n c m d : Nat) (a b : List Int) (w : World) (ha : IR w A n a) (hb : IR w B m b) (hnm : n ≤ m) (hn : n ≤ 1000) (ba : Bits n a) (bb : Bits m b) :
    Calls Try.prog 40 #[.slice A n c, .slice B m d] w fun e w' => (∃ v, e = .returned v ∧ Own w' w.heap.size v (sum2 a b)) ∧ Below w.heap.size w w' := by
  obtain ⟨hla, hma, hta⟩ := ha
  obtain ⟨hlb, hmb, htb⟩ := hb
  have BA := hide ba.2
  have BB := hide bb.2
  have HS := Lib.hid (show sum2 a b = tab n fun i => (nth a i + nth b i) % 2 by unfold sum2; rw [hla])
  clear ba bb
  go_enter Try.func40, Try.ntmps40
  go_wp2_with (at_make; refine wpList_make0_ints w.heap.size n rfl _ _ rfl rfl _ rfl rfl (by omega) (Nat.le_refl _) ?_; intro w1 ho1 hb1 _)
  go_loopw [5, 12] (fun v i wr => ∃ (V : Value) (k : Nat), V = v ∧ k ≤ n ∧ i = .int .i64 k ∧ Own wr w.heap.size v (tab k fun i => (nth a i + nth b i) % 2) ∧ Below w.heap.size w wr) (fun _ i _ => n - (intOf i).toNat)
  case atStart => exact ⟨_, 0, rfl, by omega, rfl, ho1, hb1⟩
  case round =>
    obtain ⟨V, k, rfl, hk, rfl, ho, hbw⟩ := hrel
    clear ho1 hb1
    have HO := hide ho
    have HB := hide hbw
    have hs := hbw.size
    clear ho
    by_cases hlt : k < n
    · obtain ⟨b1, o1, rfl, hbl1, hc1⟩ := hta (by omega)
      obtain ⟨b2, o2, rfl, hbl2, hc2⟩ := htb (by omega)
      have h1 : wr.cell? ⟨b1, o1 + k, none⟩ = some (.int .i64 (nth a k)) := (hbw.cell (p := ⟨b1, o1 + k, none⟩) hbl1).trans (hc1 k hlt)
      have h2 : wr.cell? ⟨b2, o2 + k, none⟩ = some (.int .i64 (nth b k)) := (hbw.cell (p := ⟨b2, o2 + k, none⟩) hbl2).trans (hc2 k (by omega))
      have hx := xor_bit (BA.out k hlt) (BB.out k (by omega))
      clear hc1 hc2 hta htb hbw
      go_wp2_with fail
      refine wp_region_drew_tail1 10 V (by kernel_rfl) (by kernel_rfl) (fun _ _ _ h => h) rfl (.tmp 5) rfl rfl ?_
      simp only [List.take_succ_cons, List.take_zero, List.drop_succ_cons, List.drop_zero, Act.put, List.setIfInBounds_toArray, List.set_cons_succ, List.set_cons_zero]
      repeat (go_big_quiet_step ((fail)))
      refine wpQuiet_nil ?_
      intro wd hwd
      obtain ⟨q, hq⟩ := hwd
      have HD := hide (show Own wd w.heap.size V (tab k fun i => (nth a i + nth b i) % 2) by rw [hq]; exact HO.out)
      have HE := hide (show Below w.heap.size w wd by rw [hq]; exact below_drewN HB.out q)
      have hsd : w.heap.size ≤ wd.heap.size := HE.out.size
      clear hq
      go_wp2_with (at_builtin; refine wpList_append1 HD.out (.tmp 15) (.tmp 25) (by rfl) rfl rfl rfl (by rw [tab_len]; omega) hsd ?_; intro v2 w2 ho2 hb2 _ _)
      go_roundw
      case rel => exact ⟨_, k + 1, rfl, by omega, by go_num, by rw [tab_succ]; exact ho2, HE.out.trans hb2⟩
      case measure => simp [intOf]; omega
    · obtain rfl : k = n := by omega
      go_wp2_with fail
      go_ret
      exact ⟨⟨_, rfl, by rw [HS.out]; exact HO.out⟩, HB.out⟩
set_option maxHeartbeats 2000000 in
theorem ruled_any (rule : Int) (A : Option Addr) (n c : Nat) (z : List Int) (w : World) (ha : IR w A n z) (hr : ruleQ rule = true) (hn0 : 0 < n) (hn : n ≤ 1000) (bz : Bits n z) :
    Calls Try.prog 41 #[.int .i64 rule, .slice A n c] w fun e w' => (∃ v, e = .returned v ∧ Own w' w.heap.size v (ruled rule z)) ∧ Below w.heap.size w w' := by
  obtain ⟨hla, hma, hta⟩ := ha
  obtain ⟨b1, o1, rfl, hbl1, hc1⟩ := hta hn0
  have HC := hide hc1
  have BZ := hide bz.2
  have HS := Lib.hid (show ruled rule z = tab n fun i => rb rule (nth z ((i + n - 1) % n)) (nth z i) (nth z ((i + 1) % n)) by unfold ruled; rw [hla])
  have HR := hide hr
  clear bz hr hta hc1
  go_enter Try.func41, Try.ntmps41
  go_wp2_with (at_make; refine wpList_make0_ints w.heap.size n rfl _ _ rfl rfl _ rfl rfl (by omega) (Nat.le_refl _) ?_; intro w1 ho1 hb1 _)
  go_loopw [6, 15] (fun v i wr => ∃ (V : Value) (k : Nat), V = v ∧ k ≤ n ∧ i = .int .i64 k ∧ Own wr w.heap.size v (tab k fun i => rb rule (nth z ((i + n - 1) % n)) (nth z i) (nth z ((i + 1) % n))) ∧ Below w.heap.size w wr) (fun _ i _ => n - (intOf i).toNat)
  case atStart => exact ⟨_, 0, rfl, by omega, rfl, ho1, hb1⟩
  case round =>
    obtain ⟨V, k, rfl, hk, rfl, ho, hbw⟩ := hrel
    clear ho1 hb1
    have HO := hide ho
    have HB := hide hbw
    have hs := hbw.size
    clear ho
    by_cases hlt : k < n
    · have m1 : (k + n - 1) % n < n := Nat.mod_lt _ hn0
      have m2 : (k + 1) % n < n := Nat.mod_lt _ hn0
      have i1 : (0 : Int) ≤ ((k : Int) + (n : Int) - 1) % (n : Int) := Int.emod_nonneg _ (by omega)
      have i2 : ((k : Int) + (n : Int) - 1) % (n : Int) < (n : Int) := Int.emod_lt_of_pos _ (by omega)
      have i3 : (0 : Int) ≤ ((k : Int) + 1) % (n : Int) := Int.emod_nonneg _ (by omega)
      have i4 : ((k : Int) + 1) % (n : Int) < (n : Int) := Int.emod_lt_of_pos _ (by omega)
      have h1 : wr.cell? ⟨b1, o1 + (k + n - 1) % n, none⟩ = some (.int .i64 (nth z ((k + n - 1) % n))) := (hbw.cell (p := ⟨b1, o1 + (k + n - 1) % n, none⟩) hbl1).trans (HC.out _ m1)
      have h2 : wr.cell? ⟨b1, o1 + k, none⟩ = some (.int .i64 (nth z k)) := (hbw.cell (p := ⟨b1, o1 + k, none⟩) hbl1).trans (HC.out k hlt)
      have h3 : wr.cell? ⟨b1, o1 + (k + 1) % n, none⟩ = some (.int .i64 (nth z ((k + 1) % n))) := (hbw.cell (p := ⟨b1, o1 + (k + 1) % n, none⟩) hbl1).trans (HC.out _ m2)
      have M1 := hide m1
      have M2 := hide m2
      clear hbw m1 m2
      go_wp2_with fail
      refine wp_region_drew_tail1 20 V (by kernel_rfl) (by kernel_rfl) (fun _ _ _ h => h) rfl (.tmp 6) rfl rfl ?_
      simp only [List.take_succ_cons, List.take_zero, List.drop_succ_cons, List.drop_zero, Act.put, List.setIfInBounds_toArray, List.set_cons_succ, List.set_cons_zero]
      repeat (go_big_quiet_step ((go_at_call 54; exact quiet_eq (ruleBit_any _ _ _ _ HR.out (BZ.out _ M1.out) (BZ.out _ hlt) (BZ.out _ M2.out) _))))
      refine wpQuiet_nil ?_
      intro wd hwd
      obtain ⟨q, hq⟩ := hwd
      have HD := hide (show Own wd w.heap.size V (tab k fun i => rb rule (nth z ((i + n - 1) % n)) (nth z i) (nth z ((i + 1) % n))) by rw [hq]; exact HO.out)
      have HE := hide (show Below w.heap.size w wd by rw [hq]; exact below_drewN HB.out q)
      have hsd : w.heap.size ≤ wd.heap.size := HE.out.size
      clear hq
      go_wp2_with (at_builtin; refine wpList_append1 HD.out (.tmp 20) (.tmp 40) (by rfl) rfl rfl rfl (by rw [tab_len]; omega) hsd ?_; intro v2 w2 ho2 hb2 _ _)
      go_roundw
      case rel => exact ⟨_, k + 1, rfl, by omega, by go_num, by rw [tab_succ]; exact ho2, HE.out.trans hb2⟩
      case measure => simp [intOf]; omega
    · obtain rfl : k = n := by omega
      go_wp2_with fail
      go_ret
      exact ⟨⟨_, rfl, by rw [HS.out]; exact HO.out⟩, HB.out⟩
end Go.Proofs.Ytefkbjccgajbiaa
