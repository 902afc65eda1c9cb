/-
  slices.Backward over numbers, and backwards of the program.
  No condition.
-/
import Derived.RangeFuncBox
import Derived.RangeFuncLeaves
import Derived.Shelf.Abstract
import Derived.WalkKit
import Derived.OwnWalkIn
import Derived.TacticsInMore
import Derived.LoopNIn
import Derived.LoopIn
import Derived.Maps.AppendAt
import Derived.Test.YtefkbjccgajbiaaRingShift
namespace Go.Proofs.Ytefkbjccgajbiaa
open Go.RowKit Go.Shelf Go.Sort base
attribute [local go_sem] Oper.semAt_some
def uptoL {α : Type} (f : Nat → α) (k : Nat) : List α := (List.range k).map f
theorem uptoL_succ {α : Type} (f : Nat → α) (k : Nat) : uptoL f (k + 1) = uptoL f k ++ [f k] := by simp [uptoL, List.range_succ]
theorem uptoL_length {α : Type} (f : Nat → α) (k : Nat) : (uptoL f k).length = k := by simp [uptoL]
/-- what comes in the k-th round -/
def bk (zs : List Int) (len k : Nat) : Nat × Int := (len - 1 - k, nth zs (len - 1 - k))
theorem bk_eq {zs : List Int} {len k j : Nat} (h : j + k + 1 = len) : bk zs len k = (j, nth zs j) := by
  simp [bk, show len - 1 - k = j by omega]
/-- what a round keeps: what lay below, and the iterator's box -/
def KpB (n₀ Bs : Nat) (W W' : World) : Prop := Below n₀ W W' ∧ ∀ u, Boxed W Bs 25 u → Boxed W' Bs 25 u
theorem KpB.refl (n₀ Bs : Nat) (W : World) : KpB n₀ Bs W W := ⟨Below.refl _ _, fun _ h => h⟩
theorem KpB.trans {n₀ Bs : Nat} {A B C : World} (h : KpB n₀ Bs A B) (k : KpB n₀ Bs B C) : KpB n₀ Bs A C := ⟨h.1.trans k.1, fun u hu => k.2 u (h.2 u hu)⟩
set_option maxRecDepth 100000 in
set_option maxHeartbeats 2000000 in
theorem back1_in (F : Fence) (n : Nat) (h65 : F.fn 65) (hro : F.round = none) (hn : 1 ≤ n) (l Bs n₀ b off len cap : Nat) (zs : List Int) (hlen : len ≤ 1000000) (hb : b < n₀) (J Jx : List (Nat × Int) → World → Prop)
    (hY : ∀ pre x W, J pre W → pre.length < len → YieldAt F (n - 1) Try.prog l #[.int .i64 (x.1 : Int), .int .i64 x.2] W fun e W' =>
      (e = .returned (.bool true) ∧ J (pre ++ [x]) W' ∧ KpB n₀ Bs W W') ∨ (e = .returned (.bool false) ∧ Jx (pre ++ [x]) W'))
    (W : World) (hBs : Boxed W Bs 25 (.slice (some ⟨b, off, none⟩) len cap)) (hc : ∀ j, j < len → W.cell? ⟨b, off + j, none⟩ = some (.int .i64 (nth zs j))) (h0 : J [] W) :
    CallsIn F n Try.prog 65 #[.func (.yield l) #[] #[], .pointer (some ⟨Bs, 0, none⟩)] W fun e W' => (∃ v, e = .returned v) ∧
      ((∃ ys, ys = uptoL (bk zs len) len ∧ J ys W') ∨ (∃ pre, (∃ k, k ≤ len ∧ pre = uptoL (bk zs len) k) ∧ Jx pre W')) := by
  have hb0 := hBs.cell
  refine callsIn_of_wp Try.func65 rfl h65 ?_ hro
  simp only [Try.ntmps65, List.size_toArray, List.length_cons, List.length_nil, Nat.reduceAdd, Nat.reduceSub, Array.replicate_succ, Array.replicate_zero, List.push_toArray, List.append_toArray, List.nil_append, List.cons_append]
  gi_wp2
  clear hb0
  gi_loopw [3] (fun i wr => ∃ (k : Nat) (i' : Int), k ≤ len ∧ i = .int .i64 i' ∧ (k : Int) + i' = (len : Int) - 1 ∧ J (uptoL (bk zs len) k) wr ∧ KpB n₀ Bs W wr)
    (fun i _ => (intOf i + 1).toNat)
  case atStart => exact ⟨0, _, Nat.zero_le _, rfl, by omega, h0, KpB.refl _ _ _⟩
  case round =>
    obtain ⟨k, i', hk, rfl, hik, hJs, hnx⟩ := hrel
    by_cases hlt : 0 ≤ i'
    · obtain ⟨j, rfl⟩ := Int.eq_ofNat_of_zero_le hlt
      have hjk : j + k + 1 = len := by omega
      have hcx : wr.cell? ⟨b, off + j, none⟩ = some (.int .i64 (nth zs j)) := (hnx.1.cell (p := ⟨b, off + j, none⟩) hb).trans (hc j (by omega))
      have hbx := (hnx.2 _ hBs).cell
      have hjl : j < len := by omega
      obtain ⟨fn, tmps, assign, body, hy, hR⟩ := hY _ (j, nth zs j) wr hJs (by rw [uptoL_length]; omega)
      dsimp only at hy
      clear hik
      gi_wp2
      refine hR.mono ?_
      rintro e W3 (⟨rfl, hJ3, hk3⟩ | ⟨rfl, hJx3⟩)
      · gi_wp2
        go_roundw
        case rel => exact ⟨k + 1, (j : Int) - 1, by omega, by simp, by omega, by rw [uptoL_succ, bk_eq hjk]; exact hJ3, hnx.trans hk3⟩
        case measure => first | (simp [intOf]; done) | (simp [intOf]; omega)
      · gi_wp2
        refine bodyPost_ret (results_none rfl _ _ _) rfl ?_
        exact ⟨⟨_, rfl⟩, .inr ⟨_, ⟨k + 1, by omega, by rw [uptoL_succ, bk_eq hjk]⟩, hJx3⟩⟩
    · obtain rfl : i' = -1 := by omega
      obtain rfl : k = len := by omega
      gi_wp2
      go_end0
      first | exact ⟨⟨_, rfl⟩, .inl ⟨_, rfl, hJs⟩⟩ | exact ⟨⟨_, rfl⟩, .inl hJs⟩
set_option maxHeartbeats 1000000 in
theorem backward_in (F : Fence) (n : Nat) (h63 : F.fn 63) (hro : F.round = none) (a : Option Addr) (len cap : Nat) (w : World) :
    CallsIn F n Try.prog 63 #[.slice a len cap] w fun e w' => e = .returned (.func (.func 65) #[] #[.pointer (some ⟨w.heap.size, 0, none⟩)]) ∧ w' = w.alloc (.cells #[.slice a len cap] 25) := by
  refine callsIn_of_wp Try.func63 rfl h63 ?_ hro
  simp only [Try.ntmps63, List.size_toArray, List.length_cons, List.length_nil, Nat.reduceAdd, Nat.reduceSub, Array.replicate_succ, Array.replicate_zero, List.push_toArray, List.append_toArray, List.nil_append, List.cons_append]
  gi_wp2
  go_ret
  exact ⟨rfl, rfl⟩
theorem back_stops (F : Fence) (n : Nat) (h65 : F.fn 65) (hro : F.round = none) (hn : 1 ≤ n) (Bs n₀ b off len cap : Nat) (zs : List Int) (hlen : len ≤ 1000000) (hb : b < n₀) (w : World) (hn₀ : n₀ ≤ w.heap.size)
    (hBs : Boxed w Bs 25 (.slice (some ⟨b, off, none⟩) len cap)) (hc : ∀ j, j < len → w.cell? ⟨b, off + j, none⟩ = some (.int .i64 (nth zs j))) :
    SeqStopsK F n Try.prog 65 #[.pointer (some ⟨Bs, 0, none⟩)] (fun x : Nat × Int => #[Value.int .i64 (x.1 : Int), Value.int .i64 x.2]) (KpB n₀ Bs) (fun ys => ys = uptoL (bk zs len) len)
      (fun pre => ∃ k, k ≤ len ∧ pre = uptoL (bk zs len) k) len w := fun l J Jx W hW _ _ hY h0 => by
  refine back1_in F n h65 hro hn l Bs n₀ b off len cap zs hlen hb J Jx hY W ?_ (fun j hj => ((hW.mono hn₀).cell (p := ⟨b, off + j, none⟩) hb).trans (hc j hj)) h0
  exact (hW.block Bs hBs.lt).trans hBs
theorem bk_flip (z : List Int) : (uptoL (bk z z.length) z.length).map Prod.snd = flip z := by
  apply List.ext_getElem
  · simp [uptoL, flip]
  · intro i h1 h2
    have hi : i < z.length := by simpa [flip] using h2
    simp only [uptoL, bk, flip, List.getElem_map, List.getElem_range, List.getElem_reverse]
    rw [nth_lt (by omega)]
def ringFlip (z : List Int) : List Int := if ringQ z then flip z else []
set_option maxRecDepth 100000 in
set_option maxHeartbeats 2000000 in
theorem backwards_any (A : Option Addr) (m c : Nat) (z : List Int) (w : World) (ha : IR w A m z) (h0 : 0 < m) (hm : m ≤ 1000) :
    Calls Try.prog 55 #[.slice A m c] w (RInts w (flip z)) := by
  obtain ⟨hla, _, hta⟩ := ha
  obtain ⟨b1, o1, rfl, hbl1, hc1⟩ := hta h0
  have HC1 := hide hc1
  clear hta hc1
  refine (callsIn_wide (n := 5)).1 ?_
  obtain ⟨i0, hi, hz0, hz1, hz2⟩ := info_parts int_info
  refine callsIn_of_wp_marks Try.func55 rfl trivial ?_ rfl
  simp only [Try.ntmps55, List.size_toArray, List.length_cons, List.length_nil, Nat.reduceAdd, Nat.reduceSub, Array.replicate_succ, Array.replicate_zero, List.push_toArray, List.append_toArray, List.nil_append, List.cons_append]
  gi_wp2_with (first | (gi_at_make; refine wpListIn_make_own _ rfl _ _ 25 rfl w.heap.size 3 i0 (.int .i64 0) 1 Try.underlying25 hi hz0 hz1 _ _ _ m rfl rfl rfl (by rw [hz2]; omega) (by unfold maxLen; omega) (Nat.le_refl _) ?_; intro w1 ho1 hg1) | (refine ⟨trivial, ?_⟩; gi_at_call 63; refine (backward_in Fence.wide _ trivial rfl _ _ _ _).mono ?_; rintro e w' ⟨rfl, rfl⟩))
  have hs1 : w.heap.size ≤ w1.heap.size := hg1.size
  have bO := Boxed.new w1 25 (.slice (some ⟨w.heap.size, 0, none⟩) 0 m)
  have bN := Boxed.new (w1.alloc (.cells #[.slice (some ⟨w.heap.size, 0, none⟩) 0 m] 25)) 25 (.slice (some ⟨b1, o1, none⟩) m c)
  rw [World.size_alloc] at bN
  have hB1 : Below w.heap.size w w1 := (Below.refl _ _).grown hg1 (Nat.le_refl _) (by simp)
  have hB0 : Below w.heap.size w ((w1.alloc (.cells #[.slice (some ⟨w.heap.size, 0, none⟩) 0 m] 25)).alloc (.cells #[.slice (some ⟨b1, o1, none⟩) m c] 25)) := (hB1.alloc hs1 _).alloc (by simp; omega) _
  have hr0 : ((w1.alloc (.cells #[.slice (some ⟨w.heap.size, 0, none⟩) 0 m] 25)).alloc (.cells #[.slice (some ⟨b1, o1, none⟩) m c] 25)).ownsRow w.heap.size 3 1 (.slice (some ⟨w.heap.size, 0, none⟩) 0 m) 0 [] := (ho1.alloc _).alloc _
  refine wpIn_rangeFunc_ownG rfl (by decide) (gf := 65) (lb := #[.pointer (some ⟨w1.heap.size + 1, 0, none⟩)]) rfl trivial (enters_of Try.func65 (by kernel_rfl) rfl)
    (back_stops Fence.wide (5 - 1) trivial rfl (by decide) (w1.heap.size + 1) w.heap.size b1 o1 m c z (by omega) hbl1 _ (by simp; omega) bN (fun j hj => (hB0.cell (p := ⟨b1, o1 + j, none⟩) hbl1).trans (HC1.out j hj)))
    (fun h k => KpB.trans h k)
    (fun W l o o' hl h hcc hww => ⟨belowK_b (by simp; omega) W l o o' hl h hcc hww, fun u hu => hu.kept (grownBy_putObj' W l o') (fun e => by cases e; rw [show W.heap[w1.heap.size + 1]? = _ from hu] at h; cases h; cases hcc)⟩)
    (Below.refl _ _) (fun _ => rfl)
    (fun pre W => (∃ v, Boxed W w1.heap.size 25 v ∧ W.ownsRow w.heap.size 3 1 v (pre.map Prod.snd).length ((pre.map Prod.snd).map (Value.int .i64)) ∧ True) ∧ Below w.heap.size w W)
    (fun _ _ _ => False)
    (OwnFrom.and (Go.Own.from (holdsRow_own w.heap.size w1.heap.size 25 3 1 (fun pre : List (Nat × Int) => (pre.map Prod.snd).length) (fun pre => (pre.map Prod.snd).map (Value.int .i64)) (fun _ _ => True)) _) (ownFrom_below (Nat.le_refl _) (by simp; omega)))
    (fun _ _ _ _ _ hs _ _ => hs)
    ⟨⟨_, bO.alloc _, hr0, trivial⟩, hB0⟩
    (fun x => { tmps := #[.slice (some ⟨b1, o1, none⟩) m c, undef, .slice none 0 0, .pointer (some ⟨w1.heap.size, 0, none⟩), undef, .int .i64 x.2, .slice (some ⟨b1, o1, none⟩) m c, .int .i64 m, .slice (some ⟨w.heap.size, 0, none⟩) 0 m, .slice (some ⟨b1, o1, none⟩) m c,
      .func (.func 65) #[] #[.pointer (some ⟨w1.heap.size + 1, 0, none⟩)], .int .i64 x.1, .int .i64 x.2, undef, undef, undef, undef, undef], defers := [] }) ?assign ?body ?done ?stop
  case assign =>
    intro l x W K hK
    gi_wp2
    exact hK
  case body =>
    rintro l pre x W ⟨⟨v, hv, hrow, _⟩, hB⟩ hlt
    have hc := hv.cell
    have hpl : (pre.map Prod.snd).length = pre.length := by simp
    rw [hpl] at hrow
    clear hpl
    gi_wp2_with (gi_at_builtin; refine wpListIn_append_own _ rfl _ _ 25 rfl w.heap.size 3 i0 (.int .i64 0) 1 8 Try.underlying25 hi hz0 hz1 hz2 rfl (by decide) _ _ _ rfl (hrow.alloc _) ⟨W.heap.size, 0, none⟩ 1 1 [.int .i64 x.2] rfl rfl (cell_one_new _ _ _) (by simp [Value.oneCell']) (by unfold maxLen; omega) (by omega) (by have := hB.size; simp; omega) ?_; intro v' w2 hown' hgrow _; obtain ⟨g', cap', rfl⟩ := ownsRow_succ hown'; obtain ⟨hv1, hv2, hr2, hk2, hb2⟩ := hv.appended (by decide) hrow hB.size hs1 hown' hgrow; have hc1 := hv1.cell; have hf1 := hv1.frozen)
    exact ⟨hk2.from _, ⟨hb2, fun u hu => ((hu.alloc _).kept hgrow (hu.not_row (by decide) hrow)).kept (grownBy_setCell' w2 w1.heap.size _) (by simp)⟩, ⟨_, hv2, by simpa using hr2, trivial⟩, hB.trans hb2⟩
  case done =>
    rintro D ys W hD rfl ⟨⟨v, hv, hrow, _⟩, hB⟩ hK
    have hc := hv.cell
    gi_wp2
    refine ⟨by simp, .inl ⟨_, _, rfl, run_takeDeferred hK, ?_⟩⟩
    have hO : Own (W.putObj D (.deferred none)) w.heap.size v (flip z) := by
      have e := bk_flip z
      rw [hla] at e
      rw [← e]
      exact ownsRow_putObj hrow _ hK rfl
    exact ⟨_, results_tmp rfl _ _ _, ⟨v, rfl, hO⟩, hB.trans (belowK_b (w := w) (Nat.le_refl _) W D _ _ (by simp at hD; omega) hK rfl rfl)⟩
  case stop =>
    rintro D c pre W _ _ h _
    exact h.elim
set_option maxHeartbeats 1000000 in
theorem ringFlip_any (A : Option Addr) (n c : Nat) (z : List Int) (w : World) (ha : IR w A n z) :
    Calls Try.prog 26 #[.slice A n c] w (RInts w (ringFlip z)) := by
  have HA := hide ha
  have hla := ha.len
  clear ha
  cases h2 : ringQ z
  · have HS := Lib.hid (show ringFlip z = [] by simp [ringFlip, h2])
    go_enter Try.func26, Try.ntmps26
    go_wp2_with fail
    refine (ringValid_b false A n c z h2 _ HA.out).mono ?_
    rintro e w' ⟨rfl, rfl⟩
    go_wp2_with fail
    go_ret
    exact ⟨⟨_, rfl, by rw [HS.out]; exact Own.nil_ _ _⟩, Below.refl _ _⟩
  · have HS := Lib.hid (show ringFlip z = flip z by simp [ringFlip, h2])
    obtain ⟨l1, l2, b1⟩ := ringQ_out h2
    rw [hla] at l1 l2 b1
    clear b1
    go_enter Try.func26, Try.ntmps26
    go_wp2_with fail
    refine (ringValid_b true A n c z h2 _ HA.out).mono ?_
    rintro e w' ⟨rfl, rfl⟩
    go_wp2_with fail
    refine (backwards_any A n c z _ HA.out (by omega) (by omega)).mono ?_
    rintro e w1 ⟨⟨v1, rfl, ho1⟩, hb1⟩
    go_wp2_with fail
    go_ret
    exact ⟨⟨_, rfl, by rw [HS.out]; exact ho1⟩, hb1⟩
end Go.Proofs.Ytefkbjccgajbiaa
