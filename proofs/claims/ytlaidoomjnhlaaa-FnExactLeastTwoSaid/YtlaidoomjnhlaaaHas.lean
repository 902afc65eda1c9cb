/-
  Does a list of numbers have one? The first numbers of a list: 's[:k]'.
  No condition.
-/
import Derived.Test.YtlaidoomjnhlaaaWord
namespace Go.Proofs.Ytlaidoomjnhlaaa
open Go.RowKit Go.Sort base
/-- does a list have a number? -/
def hasQ (zs : List Int) (x : Int) : Bool := zs.contains x
theorem hasQ_iff {zs : List Int} {x : Int} : hasQ zs x = true ↔ x ∈ zs := by simp [hasQ]
theorem hasQ_no {zs : List Int} {x : Int} : hasQ zs x = false ↔ x ∉ zs := by simp [hasQ]
theorem hasQ_snoc (zs : List Int) (y x : Int) : hasQ (zs ++ [y]) x = (hasQ zs x || x == y) := by rw [Bool.eq_iff_iff]; simp [hasQ]
set_option maxHeartbeats 400000 in
theorem l1Has_any (A : Option Addr) (n c : Nat) (zs : List Int) (x : Int) (w : World) (h : IR w A n zs) :
    Calls Try.prog 12 #[.slice A n c, .int .i64 x] w fun e w' => e = .returned (.bool (hasQ zs x)) ∧ w = w' := by
  obtain ⟨hlen, hmax, hat⟩ := h
  go_enter Try.func12, Try.ntmps12
  go_wp2
  go_loop [5] (fun i => ∃ k : Nat, k ≤ n ∧ i = .int .i64 k ∧ hasQ (zs.take k) x = false) (fun i => n - (intOf i).toNat)
  case atStart => exact ⟨0, by omega, rfl, rfl⟩
  case round =>
    obtain ⟨k, hk, rfl, hno⟩ := hrel
    have HN := Lib.hid hno
    clear hno
    by_cases hlt : k < n
    · obtain ⟨b, o, rfl, hbl, hc⟩ := hat (by omega)
      have h1 := hc k hlt
      have HT := Lib.hid (take_succ_nth (zs := zs) (k := k) (by omega))
      have HM := Lib.hid (nth_mem (zs := zs) (k := k) (by omega))
      clear hc hat
      by_cases hp : nth zs k = x
      · have e1 : (nth zs k == x) = true := by simpa using hp
        have HP := Lib.hid hp
        clear hp
        go_wp2_with fail
        go_ret
        exact ⟨by rw [show hasQ zs x = true by rw [← HP.out]; exact hasQ_iff.2 HM.out]; rfl, rfl⟩
      · have e1 : (nth zs k == x) = false := by simpa using hp
        have HP := Lib.hid hp
        clear hp
        go_wp2
        go_round
        case rel => exact ⟨k + 1, by omega, by go_num, by rw [HT.out, hasQ_snoc, HN.out]; simp; exact fun e => HP.out e.symm⟩
        case measure => simp [intOf]; omega
    · obtain rfl : k = n := by omega
      rw [List.take_of_length_le (by omega)] at HN
      go_wp2_with fail
      go_ret
      exact ⟨by rw [HN.out]; rfl, rfl⟩
theorem l1Has_b (b : Bool) (A : Option Addr) (n c : Nat) (zs : List Int) (x : Int) (w : World) (h : IR w A n zs) (hb : hasQ zs x = b) :
    Calls Try.prog 12 #[.slice A n c, .int .i64 x] w fun e w' => e = .returned (.bool b) ∧ w = w' := by subst hb; exact l1Has_any A n c zs x w h
/-- 's[:k]' -/
theorem run_take (b o n c k : Nat) (hk : k ≤ c) (wx : World) : (Instr.slice 22 (.slice (some ⟨b, o, none⟩) n c) none (some (.int .i64 (k : Int))) none).run Try.prog wx = .ok (.slice (some ⟨b, o, none⟩) k c) wx := by
  have h1 : (0 : Int) ≤ (k : Int) := by omega
  have h2 : (k : Int) ≤ (c : Int) := by omega
  simp [Instr.slice, run_underlying Try.underlying22, Instr.sliceBounds, run_sliceBound _ _ _ _ h1 h2, go_sem]
  exact fun h => absurd h (by omega)
theorem IRk.drewN {K : IntKind} {w : World} {A : Option Addr} {n : Nat} {zs : List Int} (h : IRk K w A n zs) (q : Nat) : IRk K (w.drewN q) A n zs := h.keep (Nat.le_refl _) fun _ _ => rfl
theorem IRk.take {K : IntKind} {w : World} {A : Option Addr} {n k : Nat} {zs : List Int} (h : IRk K w A n zs) (hk : k ≤ n) : IRk K w A k (zs.take k) := by
  refine ⟨by have := h.len; simp; omega, by have := h.max; omega, fun h0 => ?_⟩
  obtain ⟨b, o, e, hb, hc⟩ := h.at_ (by omega)
  refine ⟨b, o, e, hb, fun i hi => ?_⟩
  rw [hc i (by omega)]
  simp [nth, hi]
end Go.Proofs.Ytlaidoomjnhlaaa
