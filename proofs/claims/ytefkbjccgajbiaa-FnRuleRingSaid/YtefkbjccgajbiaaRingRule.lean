/-
  Rings: RuleRing, RingNext, RingBefore of the reference.
  No condition.
-/
import Derived.Test.YtefkbjccgajbiaaRingAdd
namespace Go.Proofs.Ytefkbjccgajbiaa
open Go.RowKit Go.Sort base
set_option maxHeartbeats 2000000 in
theorem sRuleRing_any (rule : Int) (A : Option Addr) (n c : Nat) (z : List Int) (w : World) (ha : IR w A n z) :
    Calls Try.prog 23 #[.int .i64 rule, .slice A n c] w (RInts w (ruleRing rule z)) := by
  have hw := ha.max
  have hla := ha.len
  have HA := hide ha
  have hbn : Below w.heap.size w (w.alloc (.cells #[] 3)) := (Below.refl _ w).alloc (Nat.le_refl _) _
  have HON := hide (Own.nil0 w w.heap.size (Nat.le_refl _))
  have HBN := hide hbn
  have HA1 := hide (ha.below hbn)
  clear hbn
  by_cases h0 : n = 0
  · subst h0
    have HS := Lib.hid (show ruleRing rule z = [] by simp [ruleRing, ringQ, hla])
    clear ha
    go_enter Try.func23, Try.ntmps23
    go_wp2_with fail
    go_loopw [5, 7] (fun v i wr => v = .slice (some ⟨w.heap.size, 0, none⟩) 0 0 ∧ i = .int .i64 0 ∧ wr = w.alloc (.cells #[] 3)) (fun _ _ _ => 0)
    case atStart => exact ⟨rfl, rfl, rfl⟩
    case round =>
      obtain ⟨rfl, rfl, rfl⟩ := hrel
      go_wp2_with fail
      go_ret
      exact ⟨⟨_, rfl, by rw [HS.out]; exact HON.out⟩, HBN.out⟩
  · cases h1 : ringQ z
    · have HS := Lib.hid (show ruleRing rule z = [] by simp [ruleRing, h1])
      clear ha
      go_enter Try.func23, Try.ntmps23
      go_wp2_with fail
      go_loopw [5, 7] (fun v i wr => v = .slice (some ⟨w.heap.size, 0, none⟩) 0 0 ∧ i = .int .i64 0 ∧ wr = w.alloc (.cells #[] 3)) (fun _ _ _ => 0)
      case atStart => exact ⟨rfl, rfl, rfl⟩
      case round =>
        obtain ⟨rfl, rfl, rfl⟩ := hrel
        go_wp2_with fail
        refine (sRingValid_b false A n c z h1 _ HA1.out).mono ?_
        rintro e w' ⟨rfl, rfl⟩
        go_wp2_with fail
        go_ret
        exact ⟨⟨_, rfl, by rw [HS.out]; exact HON.out⟩, HBN.out⟩
    · cases h2 : ruleQ rule
      · have HS := Lib.hid (show ruleRing rule z = [] by simp [ruleRing, h2])
        have h2' : (decide (0 ≤ rule) && decide (rule ≤ 255)) = false := h2
        clear ha h2
        go_enter Try.func23, Try.ntmps23
        go_wp2_with fail
        go_loopw [5, 7] (fun v i wr => v = .slice (some ⟨w.heap.size, 0, none⟩) 0 0 ∧ i = .int .i64 0 ∧ wr = w.alloc (.cells #[] 3)) (fun _ _ _ => 0)
        case atStart => exact ⟨rfl, rfl, rfl⟩
        case round =>
          obtain ⟨rfl, rfl, rfl⟩ := hrel
          go_wp2_with fail
          refine (sRingValid_b true A n c z h1 _ HA1.out).mono ?_
          rintro e w' ⟨rfl, rfl⟩
          go_wp2_with fail
          refine (l1In_b false _ _ _ h2' _).mono ?_
          rintro e w' ⟨rfl, rfl⟩
          go_wp2_with fail
          go_ret
          exact ⟨⟨_, rfl, by rw [HS.out]; exact HON.out⟩, HBN.out⟩
      · obtain ⟨l1, l2, b1⟩ := ringQ_out h1
        rw [hla] at l1 l2 b1
        have BZ := hide b1.2
        have HR := hide h2
        have h2' : (decide (0 ≤ rule) && decide (rule ≤ 255)) = true := h2
        have HS := Lib.hid (show ruleRing rule z = tab n fun i => rb rule (nth z ((i + n - 1) % n)) (nth z i) (nth z ((i + 1) % n)) by simp [ruleRing, h1, h2, ruled, hla])
        obtain ⟨_, hma, hta⟩ := ha
        have hn0 : 0 < n := by omega
        obtain ⟨p1, o1, rfl, hbl1, hc1⟩ := hta hn0
        have HC := hide hc1
        clear b1 hta hc1 HA1 h2
        go_enter Try.func23, Try.ntmps23
        go_wp2_with fail
        go_loopw [5, 7] (fun v i wr => ∃ (V : Value) (k : Nat), V = v ∧ k ≤ n ∧ i = .int .i64 k ∧ Own wr w.heap.size v (tab k fun i => rb rule (nth z ((i + n - 1) % n)) (nth z i) (nth z ((i + 1) % n))) ∧ Below w.heap.size w wr) (fun _ i _ => n - (intOf i).toNat)
        case atStart => exact ⟨_, 0, rfl, by omega, rfl, HON.out, HBN.out⟩
        case round =>
          obtain ⟨V, k, rfl, hk, rfl, ho, hbw⟩ := hrel
          have HO := hide ho
          have HB := hide hbw
          have hs := hbw.size
          clear ho
          by_cases hlt : k < n
          · have m1 : (k + n - 1) % n < n := Nat.mod_lt _ hn0
            have m2 : (k + 1) % n < n := Nat.mod_lt _ hn0
            have i1 : (0 : Int) ≤ ((k : Int) + (n : Int) - 1) % (n : Int) := Int.emod_nonneg _ (by omega)
            have i2 : ((k : Int) + (n : Int) - 1) % (n : Int) < (n : Int) := Int.emod_lt_of_pos _ (by omega)
            have i3 : (0 : Int) ≤ ((k : Int) + 1) % (n : Int) := Int.emod_nonneg _ (by omega)
            have i4 : ((k : Int) + 1) % (n : Int) < (n : Int) := Int.emod_lt_of_pos _ (by omega)
            have g1 : wr.cell? ⟨p1, o1 + (k + n - 1) % n, none⟩ = some (.int .i64 (nth z ((k + n - 1) % n))) := (hbw.cell (p := ⟨p1, o1 + (k + n - 1) % n, none⟩) hbl1).trans (HC.out _ m1)
            have g2 : wr.cell? ⟨p1, o1 + k, none⟩ = some (.int .i64 (nth z k)) := (hbw.cell (p := ⟨p1, o1 + k, none⟩) hbl1).trans (HC.out k hlt)
            have g3 : wr.cell? ⟨p1, o1 + (k + 1) % n, none⟩ = some (.int .i64 (nth z ((k + 1) % n))) := (hbw.cell (p := ⟨p1, o1 + (k + 1) % n, none⟩) hbl1).trans (HC.out _ m2)
            have M1 := hide m1
            have M2 := hide m2
            clear hbw m1 m2
            go_wp2_with fail
            refine (sRingValid_b true _ n c z h1 _ (HA.out.below HB.out)).mono ?_
            rintro e w' ⟨rfl, rfl⟩
            go_wp2_with fail
            refine (l1In_b true _ _ _ h2' _).mono ?_
            rintro e w' ⟨rfl, rfl⟩
            go_wp2_with fail
            refine wp_region_drew_tail1 23 V (by kernel_rfl) (by kernel_rfl) (fun _ _ _ h => h) rfl (.tmp 5) rfl rfl ?_
            simp only [List.take_succ_cons, List.take_zero, List.drop_succ_cons, List.drop_zero, Act.put, List.setIfInBounds_toArray, List.set_cons_succ, List.set_cons_zero]
            repeat (go_big_quiet_step ((go_at_call 53; exact quiet_eq (sRuleBit_any _ _ _ _ HR.out (BZ.out _ M1.out) (BZ.out _ hlt) (BZ.out _ M2.out) _))))
            refine wpQuiet_nil ?_
            intro wd hwd
            obtain ⟨q, hq⟩ := hwd
            have HD := hide (show Own wd w.heap.size V (tab k fun i => rb rule (nth z ((i + n - 1) % n)) (nth z i) (nth z ((i + 1) % n))) by rw [hq]; exact HO.out)
            have HE := hide (show Below w.heap.size w wd by rw [hq]; exact below_drewN HB.out q)
            have hsd : w.heap.size ≤ wd.heap.size := HE.out.size
            clear hq
            go_wp2_with (at_builtin; refine wpList_append1 HD.out (.tmp 24) (.tmp 47) (by rfl) rfl rfl rfl (by rw [tab_len]; omega) hsd ?_; intro v2 w2 ho2 hb2 _ _)
            go_roundw
            case rel => exact ⟨_, k + 1, rfl, by omega, by go_num, by rw [tab_succ]; exact ho2, HE.out.trans hb2⟩
            case measure => simp [intOf]; omega
          · obtain rfl : k = n := by omega
            clear hbw
            go_wp2_with fail
            go_ret
            exact ⟨⟨_, rfl, by rw [HS.out]; exact HO.out⟩, HB.out⟩
set_option maxHeartbeats 1000000 in
theorem sRingNext_any (rule : Int) (A B : Option Addr) (n c m d : Nat) (a b : List Int) (w : World) (ha : IR w A n a) (hb : IR w B m b) :
    Calls Try.prog 44 #[.int .i64 rule, .slice A n c, .slice B m d] w (RInts w (ringNext rule a b)) := by
  have HA := hide ha
  have HB := hide hb
  clear ha hb
  go_enter Try.func44, Try.ntmps44
  go_wp2_with fail
  refine (sRuleRing_any rule B m d b _ HB.out).mono ?_
  rintro e w1 ⟨⟨v1, rfl, ho1⟩, hb1⟩
  have hs1 := hb1.size
  have HA1 := hide (HA.out.below hb1)
  obtain ⟨A1, n1, c1, rfl, r1⟩ := ho1.slice'
  have R1 := hide r1
  clear r1 ho1
  go_wp2_with fail
  refine (sRingAdd_any A1 A n1 c1 n c (ruleRing rule b) a _ R1.out HA1.out).mono ?_
  rintro e w2 ⟨⟨v2, rfl, ho2⟩, hb2⟩
  go_wp2_with fail
  go_ret
  exact ⟨⟨_, rfl, ho2.base_le hs1⟩, bseq hb1 hb2⟩
theorem sRingBefore_any (rule : Int) (A B : Option Addr) (n c m d : Nat) (a b : List Int) (w : World) (ha : IR w A n a) (hb : IR w B m b) :
    Calls Try.prog 45 #[.int .i64 rule, .slice A n c, .slice B m d] w (RInts w (ringNext rule b a)) := by
  have HA := hide ha
  have HB := hide hb
  clear ha hb
  go_enter Try.func45, Try.ntmps45
  go_wp2_with fail
  refine (sRuleRing_any rule A n c a _ HA.out).mono ?_
  rintro e w1 ⟨⟨v1, rfl, ho1⟩, hb1⟩
  have hs1 := hb1.size
  have HB1 := hide (HB.out.below hb1)
  obtain ⟨A1, n1, c1, rfl, r1⟩ := ho1.slice'
  have R1 := hide r1
  clear r1 ho1
  go_wp2_with fail
  refine (sRingAdd_any A1 B n1 c1 m d (ruleRing rule a) b _ R1.out HB1.out).mono ?_
  rintro e w2 ⟨⟨v2, rfl, ho2⟩, hb2⟩
  go_wp2_with fail
  go_ret
  exact ⟨⟨_, rfl, ho2.base_le hs1⟩, bseq hb1 hb2⟩
end Go.Proofs.Ytefkbjccgajbiaa
