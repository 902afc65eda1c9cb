/-
  The texts of rings, by the program and by the reference; the rings of texts.
  No condition.
-/
import Derived.Test.YtffehcklfhcleaaDoorWords
import Derived.Laws.BytesArg
namespace Go.Proofs.YtffehcklfhcleaaDoor
open Go.RowKit Go.Sort base
/-- the text of a ring, as a string's value -/
def ringStr (zs : List Int) : ByteArray := if ringQ zs then ⟨(digs zs).toArray⟩ else ⟨#[]⟩
theorem ring_digit {zs : List Int} (h : ringQ zs = true) : ∀ z ∈ zs, 0 ≤ z ∧ z ≤ 9 := by
  intro z hz
  obtain ⟨_, _, _, hb⟩ := ringQ_iff.1 h
  obtain ⟨k, hk, rfl⟩ := List.getElem_of_mem hz
  have := bitQ_iff.1 (hb k hk)
  rw [nth_lt hk] at this
  omega
set_option maxHeartbeats 400000 in
theorem ringText_any (A : Option Addr) (n c : Nat) (zs : List Int) (w : World) (h : IR w A n zs) :
    Calls Tryd.prog 8 #[.slice A n c] w fun e w' => e = .returned (.string (ringStr zs)) ∧ Below w.heap.size w w' := by
  have H := hide h
  clear h
  cases hq : ringQ zs
  · have HE := Lib.hid (show ringStr zs = ⟨#[]⟩ by simp [ringStr, hq])
    go_enter Tryd.func8, Tryd.ntmps8
    go_wp2_with fail
    refine (ringValid_b false _ _ _ _ hq _ H.out).mono ?_
    rintro e w' ⟨rfl, rfl⟩
    go_wp2_with fail
    go_ret
    exact ⟨by rw [HE.out]; rfl, Below.refl _ _⟩
  · have HE := Lib.hid (show ringStr zs = ⟨(digs zs).toArray⟩ by simp [ringStr, hq])
    have hn : n ≤ 100 := by have := (ringQ_iff.1 hq).2.1; have := H.out.len; omega
    go_enter Tryd.func8, Tryd.ntmps8
    go_wp2_with fail
    refine (ringValid_b true _ _ _ _ hq _ H.out).mono ?_
    rintro e w' ⟨rfl, rfl⟩
    go_wp2_with fail
    refine (joined_any _ _ _ _ _ H.out hn (ring_digit hq)).mono ?_
    rintro e w1 ⟨rfl, hb⟩
    go_wp2_with fail
    go_ret
    exact ⟨by rw [HE.out]; rfl, hb⟩
set_option maxHeartbeats 1000000 in
theorem l1Number_dig (z : Int) (w : World) (hz : 0 ≤ z ∧ z ≤ 9) :
    Calls Tryd.prog 18 #[.int .i64 z] w fun e w' => e = .returned (.string ⟨#[dig z]⟩) ∧ Below w.heap.size w w' := by
  obtain ⟨h0, h9⟩ := hz
  have hc := (run_convert_bytes_arg (P := Tryd.prog) (w.alloc (.cells #[.int .u8 (48 + z)] 5)) 27 5 Tryd.underlying27 Tryd.underlying5 w.heap.size 0 1 1 [48 + z] rfl (by
    intro i hi
    obtain rfl : i = 0 := by omega
    exact cell_at rfl rfl) 9 Tryd.underlying9)
  obtain ⟨t, ht⟩ : ∃ t, dig z = t := ⟨_, rfl⟩
  rw [show strOfNums [48 + z] = ⟨#[dig z]⟩ by simp [strOfNums, dig, show (48 + z).toNat = 48 + z.toNat by omega], ht] at hc
  rw [ht]
  clear ht
  go_enter Tryd.func18, Tryd.ntmps18
  go_wp2_with fail
  go_ret
  exact ⟨rfl, by go_grown⟩
set_option maxHeartbeats 2000000 in
theorem sRingText_any (A : Option Addr) (n c : Nat) (zs : List Int) (w : World) (h : IR w A n zs) :
    Calls Tryd.prog 6 #[.slice A n c] w fun e w' => e = .returned (.string (ringStr zs)) ∧ Below w.heap.size w w' := by
  have H := hide h
  have HLen := Lib.hid h.len
  have hmax := h.max
  clear h
  cases hq : ringQ zs
  · have HE := Lib.hid (show ringStr zs = ⟨#[]⟩ by simp [ringStr, hq])
    have HQ := Lib.hid hq
    clear hq
    go_enter Tryd.func6, Tryd.ntmps6
    go_wp2_with fail
    go_loopw [3, 4] (fun s i wr => s = .string ⟨#[]⟩ ∧ i = .int .i64 0 ∧ w = wr) (fun _ _ _ => 0)
    case atStart => exact ⟨rfl, rfl, rfl⟩
    case round =>
      obtain ⟨rfl, rfl, rfl⟩ := hrel
      by_cases h0 : 0 < n
      · go_wp2_with fail
        refine (sRingValid_b false _ _ _ _ HQ.out _ H.out).mono ?_
        rintro e w' ⟨rfl, rfl⟩
        go_wp2_with fail
        go_ret
        exact ⟨by rw [HE.out]; rfl, Below.refl _ _⟩
      · go_wp2_with fail
        go_ret
        exact ⟨by rw [HE.out]; rfl, Below.refl _ _⟩
  · have HE := Lib.hid (show ringStr zs = ⟨(digs zs).toArray⟩ by simp [ringStr, hq])
    have HQ := Lib.hid hq
    have hn : n ≤ 100 := by have := (ringQ_iff.1 hq).2.1; have := HLen.out; omega
    have HZ := hide (ring_digit hq)
    clear hq
    go_enter Tryd.func6, Tryd.ntmps6
    go_wp2_with fail
    go_loopw [3, 4] (fun s i wr => ∃ (k : Nat) (S : ByteArray), k ≤ n ∧ s = .string S ∧ Hid (S = ⟨(digs (zs.take k)).toArray⟩) ∧ i = .int .i64 k ∧ Hid (Below w.heap.size w wr)) (fun _ i _ => n - (intOf i).toNat)
    case atStart => exact ⟨0, ⟨#[]⟩, by omega, rfl, Lib.hid rfl, rfl, Below.refl _ _⟩
    case round =>
      obtain ⟨k, S, hk, rfl, HS, rfl, HB⟩ := hrel
      have H1 := hide (H.out.below HB.out)
      by_cases hlt : k < n
      · obtain ⟨b, o, rfl, hbl, hcc⟩ := H1.out.at_ (by omega)
        have c0 := hcc k hlt
        have HD := HZ.out (nth zs k) (nth_mem (by have := HLen.out; omega))
        have HT := Lib.hid (show S ++ ⟨#[dig (nth zs k)]⟩ = ⟨(digs (zs.take (k + 1))).toArray⟩ by rw [HS.out, take_succ_nth (by have := HLen.out; omega)]; apply ByteArray.ext; simp [digs])
        have HD' := hide HD
        have hsz : S.size ≤ 100 := by rw [HS.out]; show (digs (zs.take k)).toArray.size ≤ 100; simp [digs]; omega
        clear hcc HD
        go_wp2_with fail
        refine (sRingValid_b true _ _ _ _ HQ.out _ H1.out).mono ?_
        rintro e w' ⟨rfl, rfl⟩
        go_wp2_with fail
        refine (l1Number_dig _ _ HD'.out).mono ?_
        rintro e w1 ⟨rfl, hb1⟩
        have HB1 := hide (bseq HB.out hb1)
        clear hb1 c0
        go_wp2_with fail
        go_roundw
        case rel => exact ⟨k + 1, _, by omega, rfl, HT, by go_num, HB1.out⟩
        case measure => simp [intOf]; omega
      · obtain rfl : k = n := by omega
        have HS2 := Lib.hid (show S = ⟨(digs zs).toArray⟩ by have := HS.out; rwa [List.take_of_length_le (by have := HLen.out; omega)] at this)
        go_wp2_with fail
        go_ret
        exact ⟨by rw [HE.out, ← HS2.out]; rfl, HB.out⟩
end Go.Proofs.YtffehcklfhcleaaDoor
