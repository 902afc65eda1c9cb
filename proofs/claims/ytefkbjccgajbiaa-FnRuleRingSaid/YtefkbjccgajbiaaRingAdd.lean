/-
  Rings: RuleRing, RingAdd, RingNext, RingBefore of the program and of the reference.
  No condition.
-/
import Derived.Test.YtefkbjccgajbiaaRingSum
namespace Go.Proofs.Ytefkbjccgajbiaa
open Go.RowKit Go.Sort base
def ruleRing (rule : Int) (z : List Int) : List Int := if ruleQ rule && ringQ z then ruled rule z else []
def ringAdd (a b : List Int) : List Int := if pairQ a b then sum2 a b else []
def ringNext (rule : Int) (a b : List Int) : List Int := ringAdd (ruleRing rule b) a
theorem ringQ_out {z : List Int} (h : ringQ z = true) : 3 ≤ z.length ∧ z.length ≤ 12 ∧ Bits z.length z := ringQ_iff.1 h
theorem pairQ_out {a b : List Int} (h : pairQ a b = true) : ringQ a = true ∧ ringQ b = true ∧ a.length = b.length := by
  simpa [pairQ, and_assoc] using h
set_option maxHeartbeats 1000000 in
theorem pairOk_any (A B : Option Addr) (n c m d : Nat) (a b : List Int) (w : World) (ha : IR w A n a) (hb : IR w B m b) :
    Calls Try.prog 39 #[.slice A n c, .slice B m d] w fun e w' => e = .returned (.bool (pairQ a b)) ∧ w = w' := by
  have HA := hide ha
  have HB := hide hb
  have hla := ha.len
  have hlb := hb.len
  clear ha hb
  cases h1 : ringQ a
  · have HS := Lib.hid (show pairQ a b = false by simp [pairQ, h1])
    go_enter Try.func39, Try.ntmps39
    go_wp2_with fail
    refine (ringValid_b false A n c a h1 _ HA.out).mono ?_
    rintro e w' ⟨rfl, rfl⟩
    go_wp2_with fail
    go_ret
    exact ⟨by rw [HS.out]; rfl, rfl⟩
  · cases h2 : ringQ b
    · have HS := Lib.hid (show pairQ a b = false by simp [pairQ, h2])
      go_enter Try.func39, Try.ntmps39
      go_wp2_with fail
      refine (ringValid_b true A n c a h1 _ HA.out).mono ?_
      rintro e w' ⟨rfl, rfl⟩
      go_wp2_with fail
      refine (ringValid_b false B m d b h2 _ HB.out).mono ?_
      rintro e w' ⟨rfl, rfl⟩
      go_wp2_with fail
      go_ret
      exact ⟨by rw [HS.out]; rfl, rfl⟩
    · have HS := Lib.hid (show pairQ a b = ((n : Int) == (m : Int)) by rw [Bool.eq_iff_iff]; simp [pairQ, h1, h2, hla, hlb]; omega)
      go_enter Try.func39, Try.ntmps39
      go_wp2_with fail
      refine (ringValid_b true A n c a h1 _ HA.out).mono ?_
      rintro e w' ⟨rfl, rfl⟩
      go_wp2_with fail
      refine (ringValid_b true B m d b h2 _ HB.out).mono ?_
      rintro e w' ⟨rfl, rfl⟩
      go_wp2_with fail
      go_ret
      exact ⟨by rw [HS.out]; rfl, rfl⟩
theorem pairOk_b (x : Bool) (A B : Option Addr) (n c m d : Nat) (a b : List Int) (w : World) (h : pairQ a b = x) (ha : IR w A n a) (hb : IR w B m b) :
    Calls Try.prog 39 #[.slice A n c, .slice B m d] w fun e w' => e = .returned (.bool x) ∧ w = w' := by subst h; exact pairOk_any A B n c m d a b w ha hb
set_option maxHeartbeats 1000000 in
theorem ringAdd_any (A B : Option Addr) (n c m d : Nat) (a b : List Int) (w : World) (ha : IR w A n a) (hb : IR w B m b) :
    Calls Try.prog 12 #[.slice A n c, .slice B m d] w (RInts w (ringAdd a b)) := by
  have HA := hide ha
  have HB := hide hb
  have hla := ha.len
  have hlb := hb.len
  clear ha hb
  cases h1 : pairQ a b
  · have HS := Lib.hid (show ringAdd a b = [] by simp [ringAdd, h1])
    go_enter Try.func12, Try.ntmps12
    go_wp2_with fail
    refine (pairOk_b false A B n c m d a b _ h1 HA.out HB.out).mono ?_
    rintro e w' ⟨rfl, rfl⟩
    go_wp2_with fail
    go_ret
    exact ⟨⟨_, rfl, by rw [HS.out]; exact Own.nil_ _ _⟩, Below.refl _ _⟩
  · have HS := Lib.hid (show ringAdd a b = sum2 a b by simp [ringAdd, h1])
    obtain ⟨q1, q2, q3⟩ := pairQ_out h1
    obtain ⟨l1, l2, b1⟩ := ringQ_out q1
    obtain ⟨_, _, b2⟩ := ringQ_out q2
    rw [hla] at l1 l2 b1
    rw [hlb] at b2
    have HB1 := hide b1
    have HB2 := hide b2
    clear q1 q2 b1 b2
    go_enter Try.func12, Try.ntmps12
    go_wp2_with fail
    refine (pairOk_b true A B n c m d a b _ h1 HA.out HB.out).mono ?_
    rintro e w' ⟨rfl, rfl⟩
    go_wp2_with fail
    refine (sum_any A B n c m d a b _ HA.out HB.out (by omega) (by omega) HB1.out HB2.out).mono ?_
    rintro e w1 ⟨⟨v1, rfl, ho1⟩, hb1⟩
    go_wp2_with fail
    go_ret
    exact ⟨⟨_, rfl, by rw [HS.out]; exact ho1⟩, hb1⟩
set_option maxHeartbeats 1000000 in
theorem ruleRing_any (rule : Int) (A : Option Addr) (n c : Nat) (z : List Int) (w : World) (ha : IR w A n z) :
    Calls Try.prog 14 #[.int .i64 rule, .slice A n c] w (RInts w (ruleRing rule z)) := by
  have HA := hide ha
  have hla := ha.len
  clear ha
  cases h1 : ruleQ rule
  · have HS := Lib.hid (show ruleRing rule z = [] by simp [ruleRing, h1])
    go_enter Try.func14, Try.ntmps14
    go_wp2_with fail
    refine (ruleOk_b false rule h1 _).mono ?_
    rintro e w' ⟨rfl, rfl⟩
    go_wp2_with fail
    go_ret
    exact ⟨⟨_, rfl, by rw [HS.out]; exact Own.nil_ _ _⟩, Below.refl _ _⟩
  · cases h2 : ringQ z
    · have HS := Lib.hid (show ruleRing rule z = [] by simp [ruleRing, h2])
      go_enter Try.func14, Try.ntmps14
      go_wp2_with fail
      refine (ruleOk_b true rule h1 _).mono ?_
      rintro e w' ⟨rfl, rfl⟩
      go_wp2_with fail
      refine (ringValid_b false A n c z h2 _ HA.out).mono ?_
      rintro e w' ⟨rfl, rfl⟩
      go_wp2_with fail
      go_ret
      exact ⟨⟨_, rfl, by rw [HS.out]; exact Own.nil_ _ _⟩, Below.refl _ _⟩
    · have HS := Lib.hid (show ruleRing rule z = ruled rule z by simp [ruleRing, h1, h2])
      obtain ⟨l1, l2, b1⟩ := ringQ_out h2
      rw [hla] at l1 l2 b1
      have HB1 := hide b1
      clear b1
      go_enter Try.func14, Try.ntmps14
      go_wp2_with fail
      refine (ruleOk_b true rule h1 _).mono ?_
      rintro e w' ⟨rfl, rfl⟩
      go_wp2_with fail
      refine (ringValid_b true A n c z h2 _ HA.out).mono ?_
      rintro e w' ⟨rfl, rfl⟩
      go_wp2_with fail
      refine (ruled_any rule A n c z _ HA.out h1 (by omega) (by omega) HB1.out).mono ?_
      rintro e w1 ⟨⟨v1, rfl, ho1⟩, hb1⟩
      go_wp2_with fail
      go_ret
      exact ⟨⟨_, rfl, by rw [HS.out]; exact ho1⟩, hb1⟩
set_option maxHeartbeats 1000000 in
theorem sRingAdd_any (A B : Option Addr) (n c m d : Nat) (a b : List Int) (w : World) (ha : IR w A n a) (hb : IR w B m b) :
    Calls Try.prog 43 #[.slice A n c, .slice B m d] w (RInts w (ringAdd a b)) := by
  have hw := ha.max
  have hla := ha.len
  have hlb := hb.len
  have HA := hide ha
  have HB := hide hb
  have hbn : Below w.heap.size w (w.alloc (.cells #[] 3)) := (Below.refl _ w).alloc (Nat.le_refl _) _
  have HON := hide (Own.nil0 w w.heap.size (Nat.le_refl _))
  have HBN := hide hbn
  have HA1 := hide (ha.below hbn)
  have HB1 := hide (hb.below hbn)
  clear hbn
  by_cases h0 : n = 0
  · subst h0
    have HS := Lib.hid (show ringAdd a b = [] by simp [ringAdd, pairQ, ringQ, hla])
    clear ha hb
    go_enter Try.func43, Try.ntmps43
    go_wp2_with fail
    go_loopw [5, 6] (fun v i wr => v = .slice (some ⟨w.heap.size, 0, none⟩) 0 0 ∧ i = .int .i64 0 ∧ wr = w.alloc (.cells #[] 3)) (fun _ _ _ => 0)
    case atStart => exact ⟨rfl, rfl, rfl⟩
    case round =>
      obtain ⟨rfl, rfl, rfl⟩ := hrel
      go_wp2_with fail
      go_ret
      exact ⟨⟨_, rfl, by rw [HS.out]; exact HON.out⟩, HBN.out⟩
  · cases h1 : ringQ a
    · have HS := Lib.hid (show ringAdd a b = [] by simp [ringAdd, pairQ, h1])
      clear ha hb
      go_enter Try.func43, Try.ntmps43
      go_wp2_with fail
      go_loopw [5, 6] (fun v i wr => v = .slice (some ⟨w.heap.size, 0, none⟩) 0 0 ∧ i = .int .i64 0 ∧ wr = w.alloc (.cells #[] 3)) (fun _ _ _ => 0)
      case atStart => exact ⟨rfl, rfl, rfl⟩
      case round =>
        obtain ⟨rfl, rfl, rfl⟩ := hrel
        go_wp2_with fail
        refine (sRingValid_b false A n c a h1 _ HA1.out).mono ?_
        rintro e w' ⟨rfl, rfl⟩
        go_wp2_with fail
        go_ret
        exact ⟨⟨_, rfl, by rw [HS.out]; exact HON.out⟩, HBN.out⟩
    · cases h2 : ringQ b
      · have HS := Lib.hid (show ringAdd a b = [] by simp [ringAdd, pairQ, h2])
        clear ha hb
        go_enter Try.func43, Try.ntmps43
        go_wp2_with fail
        go_loopw [5, 6] (fun v i wr => v = .slice (some ⟨w.heap.size, 0, none⟩) 0 0 ∧ i = .int .i64 0 ∧ wr = w.alloc (.cells #[] 3)) (fun _ _ _ => 0)
        case atStart => exact ⟨rfl, rfl, rfl⟩
        case round =>
          obtain ⟨rfl, rfl, rfl⟩ := hrel
          go_wp2_with fail
          refine (sRingValid_b true A n c a h1 _ HA1.out).mono ?_
          rintro e w' ⟨rfl, rfl⟩
          go_wp2_with fail
          refine (sRingValid_b false B m d b h2 _ HB1.out).mono ?_
          rintro e w' ⟨rfl, rfl⟩
          go_wp2_with fail
          go_ret
          exact ⟨⟨_, rfl, by rw [HS.out]; exact HON.out⟩, HBN.out⟩
      · by_cases h3 : n = m
        · subst h3
          obtain ⟨l1, l2, b1⟩ := ringQ_out h1
          obtain ⟨_, _, b2⟩ := ringQ_out h2
          rw [hla] at l1 l2 b1
          rw [hlb] at b2
          have HBa := hide b1.2
          have HBb := hide b2.2
          have HS := Lib.hid (show ringAdd a b = tab n fun i => (nth a i + nth b i) % 2 by simp [ringAdd, pairQ, h1, h2, hla, hlb, sum2])
          obtain ⟨_, hma, hta⟩ := ha
          obtain ⟨_, hmb, htb⟩ := hb
          obtain ⟨p1, o1, rfl, hbl1, hc1⟩ := hta (by omega)
          obtain ⟨p2, o2, rfl, hbl2, hc2⟩ := htb (by omega)
          have HC1 := hide hc1
          have HC2 := hide hc2
          clear b1 b2 hta htb hc1 hc2 HA1 HB1
          go_enter Try.func43, Try.ntmps43
          go_wp2_with fail
          go_loopw [5, 6] (fun v i wr => ∃ (V : Value) (k : Nat), V = v ∧ k ≤ n ∧ i = .int .i64 k ∧ Own wr w.heap.size v (tab k fun i => (nth a i + nth b i) % 2) ∧ Below w.heap.size w wr) (fun _ i _ => n - (intOf i).toNat)
          case atStart => exact ⟨_, 0, rfl, by omega, rfl, HON.out, HBN.out⟩
          case round =>
            obtain ⟨V, k, rfl, hk, rfl, ho, hbw⟩ := hrel
            have HO := hide ho
            have HBW := hide hbw
            have hs := hbw.size
            clear ho
            by_cases hlt : k < n
            · have g1 : wr.cell? ⟨p1, o1 + k, none⟩ = some (.int .i64 (nth a k)) := (hbw.cell (p := ⟨p1, o1 + k, none⟩) hbl1).trans (HC1.out k hlt)
              have g2 : wr.cell? ⟨p2, o2 + k, none⟩ = some (.int .i64 (nth b k)) := (hbw.cell (p := ⟨p2, o2 + k, none⟩) hbl2).trans (HC2.out k hlt)
              have z1 : 0 ≤ nth a k ∧ nth a k ≤ 1 := by have := bitQ_iff.1 (HBa.out k hlt); omega
              have z2 : 0 ≤ nth b k ∧ nth b k ≤ 1 := by have := bitQ_iff.1 (HBb.out k hlt); omega
              obtain ⟨y1, y2⟩ := z1
              obtain ⟨y3, y4⟩ := z2
              clear hbw
              go_wp2_with fail
              refine (sRingValid_b true _ n c a h1 _ (HA.out.below HBW.out)).mono ?_
              rintro e w' ⟨rfl, rfl⟩
              go_wp2_with fail
              refine (sRingValid_b true _ n d b h2 _ (HB.out.below HBW.out)).mono ?_
              rintro e w' ⟨rfl, rfl⟩
              go_wp2_with fail
              refine wp_region_drew_tail1 11 V (by kernel_rfl) (by kernel_rfl) (fun _ _ _ h => h) rfl (.tmp 5) rfl rfl ?_
              simp only [List.take_succ_cons, List.take_zero, List.drop_succ_cons, List.drop_zero, Act.put, List.setIfInBounds_toArray, List.set_cons_succ, List.set_cons_zero]
              repeat (go_big_quiet_step ((fail)))
              refine wpQuiet_nil ?_
              intro wd hwd
              obtain ⟨q, hq⟩ := hwd
              have HD := hide (show Own wd w.heap.size V (tab k fun i => (nth a i + nth b i) % 2) by rw [hq]; exact HO.out)
              have HE := hide (show Below w.heap.size w wd by rw [hq]; exact below_drewN HBW.out q)
              have hsd : w.heap.size ≤ wd.heap.size := HE.out.size
              clear hq
              go_wp2_with (at_builtin; refine wpList_append1 HD.out (.tmp 29) (.tmp 40) (by rfl) rfl rfl rfl (by rw [tab_len]; omega) hsd ?_; intro v2 w2 ho2 hb2 _ _)
              go_roundw
              case rel => exact ⟨_, k + 1, rfl, by omega, by go_num, by rw [tab_succ]; exact ho2, HE.out.trans hb2⟩
              case measure => simp [intOf]; omega
            · obtain rfl : k = n := by omega
              clear hbw
              go_wp2_with fail
              go_ret
              exact ⟨⟨_, rfl, by rw [HS.out]; exact HO.out⟩, HBW.out⟩
        · have e1 : ((n : Int) == (m : Int)) = false := by simp; omega
          have HS := Lib.hid (show ringAdd a b = [] by simp [ringAdd, pairQ, hla, hlb]; omega)
          clear ha hb
          go_enter Try.func43, Try.ntmps43
          go_wp2_with fail
          go_loopw [5, 6] (fun v i wr => v = .slice (some ⟨w.heap.size, 0, none⟩) 0 0 ∧ i = .int .i64 0 ∧ wr = w.alloc (.cells #[] 3)) (fun _ _ _ => 0)
          case atStart => exact ⟨rfl, rfl, rfl⟩
          case round =>
            obtain ⟨rfl, rfl, rfl⟩ := hrel
            go_wp2_with fail
            refine (sRingValid_b true A n c a h1 _ HA1.out).mono ?_
            rintro e w' ⟨rfl, rfl⟩
            go_wp2_with fail
            refine (sRingValid_b true B m d b h2 _ HB1.out).mono ?_
            rintro e w' ⟨rfl, rfl⟩
            go_wp2_with fail
            go_ret
            exact ⟨⟨_, rfl, by rw [HS.out]; exact HON.out⟩, HBN.out⟩
end Go.Proofs.Ytefkbjccgajbiaa
