/-
  slices.IndexFunc and slices.ContainsFunc over lists of numbers, at a predicate that leaves the world alone.
  No condition.
-/
import Derived.Test.YtokcappgaokeaaaDoorInts
namespace Go.Proofs.YtokcappgaokeaaaDoor
open Go.RowKit Go.Sort base

/- slices.IndexFunc, at a predicate that leaves the world alone -/
set_option maxHeartbeats 400000 in
theorem indexFunc_any (F : FuncId) (cap : Array Value) (p : Int → Bool) (hcf : ∀ (args : Array Value) (w : World), (callFunc F args).run Tryd.prog w = .ok (.enter F args) w)
    (w : World) (hF : ∀ (z : Int), Calls Tryd.prog F (#[.int .i64 z] ++ cap) w fun e w' => e = .returned (.bool (p z)) ∧ w = w')
    (A : Option Addr) (n c : Nat) (zs : List Int) (h : IR w A n zs) :
    Calls Tryd.prog 41 #[.slice A n c, .func (.func F) #[] cap] w fun e w' => (∃ r : Int, e = .returned (.int .i64 r) ∧ decide (0 ≤ r) = zs.any p) ∧ w = w' := by
  obtain ⟨hlen, hmax, hat⟩ := h
  have HF := hide hF
  clear hF
  go_enter Tryd.func41, Tryd.ntmps41
  go_wp2
  go_loop [8] (fun i => ∃ k : Nat, k ≤ n ∧ i = .int .i64 k ∧ (zs.take k).any p = false) (fun i => n - (intOf i).toNat)
  case atStart => exact ⟨0, by omega, rfl, by simp⟩
  case round =>
    obtain ⟨k, hk, rfl, hno⟩ := hrel
    have HN := Lib.hid hno
    clear hno
    by_cases hlt : k < n
    · obtain ⟨b, o, rfl, hbl, hc⟩ := hat (by omega)
      have h1 := hc k hlt
      clear hc hat
      go_wp2_with fail
      refine (HF.out _).mono ?_
      rintro e w' ⟨rfl, rfl⟩
      cases hp : p (nth zs k)
      · have HP := Lib.hid hp
        go_wp2
        go_round
        case rel => exact ⟨k + 1, by omega, by go_num, by rw [any_take_succ p (by omega), HN.out, HP.out]; rfl⟩
        case measure => simp [intOf]; omega
      · have HP := Lib.hid (any_of_nth p (by omega) hp)
        go_wp2
        go_ret
        exact ⟨⟨k, rfl, by rw [HP.out]; simp⟩, rfl⟩
    · obtain rfl : k = n := by omega
      rw [List.take_of_length_le (by omega)] at HN
      go_wp2
      go_ret
      exact ⟨⟨-1, rfl, by rw [HN.out]; rfl⟩, rfl⟩
set_option maxHeartbeats 400000 in
theorem containsFunc_any (F : FuncId) (cap : Array Value) (p : Int → Bool) (hcf : ∀ (args : Array Value) (w : World), (callFunc F args).run Tryd.prog w = .ok (.enter F args) w)
    (w : World) (hF : ∀ (z : Int), Calls Tryd.prog F (#[.int .i64 z] ++ cap) w fun e w' => e = .returned (.bool (p z)) ∧ w = w')
    (A : Option Addr) (n c : Nat) (zs : List Int) (h : IR w A n zs) :
    Calls Tryd.prog 29 #[.slice A n c, .func (.func F) #[] cap] w fun e w' => e = .returned (.bool (zs.any p)) ∧ w = w' := by
  have HI := hide (indexFunc_any F cap p hcf w hF A n c zs h)
  clear hF hcf h
  go_enter Tryd.func29, Tryd.ntmps29
  go_wp2_with (go_at_call 41; refine HI.out.mono ?_; rintro e w' ⟨⟨r, rfl, hr⟩, rfl⟩; have HR := Lib.hid hr; clear hr)
  go_ret
  exact ⟨by rw [← HR.out]; rfl, rfl⟩

end Go.Proofs.YtokcappgaokeaaaDoor
