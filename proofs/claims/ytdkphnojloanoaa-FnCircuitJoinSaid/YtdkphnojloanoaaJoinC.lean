/-
  What the gates of a circuit cost, by the program.
  No condition.
-/
import Derived.Outline
import Derived.Deep.Cut
import Derived.Test.YtdkphnojloanoaaCirc2
namespace Go.Proofs.Ytdkphnojloanoaa
open Go.RowKit Go.Sort base
attribute [local go_sem] heap_redrawn
def costL (gs : List G4) : Int := (gs.map fun g => kCost g.1).sum
theorem costL_append (a b : List G4) : costL (a ++ b) = costL a + costL b := by simp [costL]
theorem costL_snoc (gs : List G4) (g : G4) : costL (gs ++ [g]) = costL gs + kCost g.1 := by simp [costL]
theorem kCost_le (k : Int) : 0 ≤ kCost k ∧ kCost k ≤ 7 := by unfold kCost; split <;> (try split) <;> (try split) <;> (try split) <;> omega
theorem nat_at (k : Int) (hk : kindQ k = true) : ∃ s l c : Value, (∀ w, (Instr.index 91 (.agg natCells) (.int .i64 k)).run Try.prog w = .ok (.agg #[s, l, c, .int .i64 (kCost k)]) w) ∧ ∀ w, (Instr.field 90 (.agg #[s, l, c, .int .i64 (kCost k)]) 3).run Try.prog w = .ok (.int .i64 (kCost k)) w := by
  have hk5 : k = 0 ∨ k = 1 ∨ k = 2 ∨ k = 3 ∨ k = 4 := by simp [kindQ] at hk; omega
  rcases hk5 with rfl | rfl | rfl | rfl | rfl
  · exact ⟨.string ⟨#[110, 111, 116]⟩, .int .i64 1, .int .i64 1, fun _ => by kernel_rfl, fun _ => by kernel_rfl⟩
  · exact ⟨.string ⟨#[99, 111, 112, 121]⟩, .int .i64 3, .int .i64 2, fun _ => by kernel_rfl, fun _ => by kernel_rfl⟩
  · exact ⟨.string ⟨#[98, 111, 116, 104]⟩, .int .i64 7, .int .i64 4, fun _ => by kernel_rfl, fun _ => by kernel_rfl⟩
  · exact ⟨.string ⟨#[115, 119, 97, 112]⟩, .int .i64 3, .int .i64 3, fun _ => by kernel_rfl, fun _ => by kernel_rfl⟩
  · exact ⟨.string ⟨#[105, 102]⟩, .int .i64 7, .int .i64 6, fun _ => by kernel_rfl, fun _ => by kernel_rfl⟩
theorem gate_kind {l : Int} {g : G4} (h : gateOk l g = true) : kindQ g.1 = true := by
  unfold gateOk gateQ at h
  cases hk : kindQ g.1
  · simp [hk] at h
  · rfl
set_option maxHeartbeats 4000000 in
theorem cost_any (l : Int) (A : Option Addr) (n c : Nat) (gs : List G4) (w : World) (h : GR w A n gs) (hq : circQ l gs = true) :
    Calls Try.prog 39 #[.int .i64 l, .slice A n c] w fun e w' => e = .returned (.int .i64 (costL gs)) ∧ Below w.heap.size w w' := by
  have HR0 := hide h
  have hmax := h.max
  have HLen := Lib.hid h.len
  have HQ := Lib.hid hq
  obtain ⟨_, h24, hall⟩ := circQ_out hq
  have hn24 : n ≤ 24 := by rw [← h.len]; exact h24
  have HAll := Lib.hid hall
  clear h hq h24 hall
  go_enter Try.func39, Try.ntmps39
  go_wp2_with fail
  refine (circuitValid_b true l A n c gs _ HR0.out HQ.out).mono ?_
  rintro e w1 ⟨rfl, hb1⟩
  have B1 := hide hb1
  clear hb1
  go_wp2_with fail
  go_loopw [5, 14] (fun sv iv wr => ∃ (j : Nat) (z : Int), j ≤ n ∧ iv = .int .i64 j ∧ sv = .int .i64 z ∧ 0 ≤ z ∧ z ≤ 7 * j ∧ Hid (z = costL (gs.take j)) ∧ Hid (Below w.heap.size w wr)) (fun _ iv _ => n - (intOf iv).toNat)
  case atStart => exact ⟨0, 0, by omega, rfl, rfl, by omega, by omega, by simp [costL, Hid], B1⟩
  case round =>
    obtain ⟨j, z, hj, rfl, rfl, hz0, hz1, HZ, HB⟩ := hrel
    by_cases hlt : j < n
    · have HR := hide (HR0.out.below HB.out)
      obtain ⟨b, o, rfl, hbl, hcc⟩ := HR.out.at_ (by omega)
      obtain ⟨g0, g1, g2, g3⟩ := hcc j hlt
      clear hcc
      have hall := HAll.out
      have hkq : kindQ (gth gs j).1 = true := gate_kind (by rw [List.all_eq_true] at hall; exact hall _ (gth_mem (by rw [HLen.out]; exact hlt)))
      obtain ⟨s, x1, x2, hi, hf⟩ := nat_at _ hkq
      obtain ⟨hk0, hk7⟩ := kCost_le (gth gs j).1
      have HS := Lib.hid (show z + kCost (gth gs j).1 = costL (gs.take (j + 1)) by rw [take_succ_gth (by rw [HLen.out]; exact hlt), costL_snoc, ← HZ.out])
      obtain ⟨kc, hkc⟩ : ∃ kc, kCost (gth gs j).1 = kc := ⟨_, rfl⟩
      rw [hkc] at hi hf hk0 hk7 HS
      obtain ⟨k, hk⟩ : ∃ k, (gth gs j).1 = k := ⟨_, rfl⟩
      rw [hk] at hi g0
      have hz7 : z ≤ 168 := by omega
      have hs := HB.out.size
      clear hall hkq hkc hk
      go_upto_region 7 with fail
      refine wp_named fun wb hwb => ?_
      have HBb := hide (show Below w.heap.size w wb by rw [← hwb]; exact HB.out.alloc hs _)
      have c0 : wb.cell? ⟨wr.heap.size, 0, none⟩ = some (.int .i64 k) := by rw [← hwb]; exact cell_at rfl rfl
      have k0 := cell_regrown c0
      clear hwb g0 g1 g2 g3
      refine wp_region_below (by kernel_rfl) (by kernel_rfl) ?_
      repeat (go_big_quiet_step ((go_at_call 69; exact below_of rfl natures_b)))
      refine wpQuiet_nil ?_
      intro p
      obtain ⟨w9, hw9⟩ : ∃ w9, grow (redrawn wb p.d) p.os = w9 := ⟨_, rfl⟩
      have hb9 : Below wb.heap.size wb w9 := by rw [← hw9]; exact below_regrown wb p.d p.os
      have B9 := hide (bseq HBb.out hb9)
      rw [hw9]
      clear hw9 k0 c0 hb9
      go_wp2_with fail
      go_roundw
      case rel => exact ⟨j + 1, z + kc, by omega, by go_num, rfl, by omega, by omega, HS.out, B9.out⟩
      case measure => simp [intOf]; omega
    · obtain rfl : j = n := by omega
      have HE := Lib.hid (show z = costL gs by have := HZ.out; rwa [List.take_of_length_le (by rw [HLen.out]; omega)] at this)
      go_wp2_with fail
      go_ret
      exact ⟨by rw [← HE.out]; rfl, HB.out⟩
end Go.Proofs.Ytdkphnojloanoaa
