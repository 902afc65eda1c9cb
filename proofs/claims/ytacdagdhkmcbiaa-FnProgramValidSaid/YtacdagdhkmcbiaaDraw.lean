/-
  The reader of codes (l20Rd) of the reference's draws: what 'pick' and 'odd' give, and what they do to memory.
  No condition.
-/
import Derived.Test.YtacdagdhkmcbiaaWord
namespace Go.Proofs.Ytacdagdhkmcbiaa
open Go.RowKit Go.Sort base

/- block R is a reader at place p, over bytes that lie in an elder block -/
structure Rd (w : World) (R : Nat) (p : Nat) : Prop where
  ex : ∃ A n c zs, w.heap[R]? = some (.cells #[.slice A n c, .int .i64 p] 61 (0, 0)) ∧ IRk .u8 w A n zs ∧ (∀ i, 0 ≤ nth zs i ∧ nth zs i ≤ 255) ∧ n ≤ 2000 ∧ (∀ b o, A = some ⟨b, o, none⟩ → 0 < n → b < R)

/- what a pick leaves: the reader is one place farther on, nothing else has turned -/
def Picked (w : World) (R p : Nat) (m : Int) (e : Ending) (w' : World) : Prop :=
  ∃ (r : Int) (q : Nat), e = .returned (.int .i64 r) ∧ 0 ≤ r ∧ (1 ≤ m → r < m) ∧ (m < 1 → r = 0) ∧ w' = (w.setCell ⟨R, 1, none⟩ (.int .i64 ((p + 1 : Nat) : Int))).drewN q

theorem cell_block {w : World} {R i : Nat} {cs : Array Value} {t : TypeId} {v : Value} (h : w.heap[R]? = some (.cells cs t (0, 0))) (hv : cs[i]? = some v) : w.cell? ⟨R, i, none⟩ = some v := by
  rw [cell_of_row w R i cs t (0, 0) h]; exact hv
theorem frozen_block {w : World} {R i : Nat} {cs : Array Value} {t : TypeId} (h : w.heap[R]? = some (.cells cs t (0, 0))) : w.frozen? ⟨R, i, none⟩ = false := frozen_of_row w R i cs t h

set_option maxHeartbeats 1000000 in
theorem pick_any (R p : Nat) (m : Int) (w : World) (h : Rd w R p) (hp : p ≤ 1000000) (hm : -1000000 ≤ m ∧ m ≤ 1000000) :
    Calls Try.prog 29 #[.pointer (some ⟨R, 0, none⟩), .int .i64 m] w (Picked w R p m) := by
  obtain ⟨A, n, c, zs, hb, ⟨hlen, hmax, hat⟩, hz, hn, hbR⟩ := h.ex
  have c0 := cell_block (i := 0) hb rfl
  have c1 := cell_block (i := 1) hb rfl
  have f1 := frozen_block (i := 1) hb
  obtain ⟨hm1, hm2⟩ := hm
  clear hb h
  by_cases h1 : m < 1
  · go_enter Try.func29, Try.ntmps29
    go_wp2_with fail
    go_ret
    exact ⟨0, 0, rfl, by omega, by omega, by omega, rfl⟩
  · by_cases h0 : n = 0
    · have e0 : ((n : Int) == 0) = true := by simp; omega
      clear h0 hat
      go_enter Try.func29, Try.ntmps29
      go_wp2_with fail
      go_ret
      exact ⟨0, 0, rfl, by omega, by omega, by omega, rfl⟩
    · have e0 : ((n : Int) == 0) = false := by simp; omega
      obtain ⟨b, o, rfl, hbl, hc⟩ := hat (by omega)
      have hlt := hbR b o rfl (by omega)
      by_cases hk : p < n
      · have h2 := hc p hk
        have h3 := hz p
        have hne : R ≠ b := by omega
        clear hc hat hz hbR
        go_enter Try.func29, Try.ntmps29
        go_wp2_with fail
        go_ret
        exact ⟨_, 0, rfl, Int.emod_nonneg _ (by omega), fun h => Int.emod_lt_of_pos _ (by omega), fun h => absurd h (by omega), rfl⟩
      · have hne : R ≠ b := by omega
        have hr1 : (0 : Int) ≤ (p : Int) % (n : Int) := Int.emod_nonneg _ (by omega)
        have hr2 : (p : Int) % (n : Int) < (n : Int) := Int.emod_lt_of_pos _ (by omega)
        have hs1 : (0 : Int) ≤ ((p : Int) * 7 + 3) % (n : Int) := Int.emod_nonneg _ (by omega)
        have hs2 : ((p : Int) * 7 + 3) % (n : Int) < (n : Int) := Int.emod_lt_of_pos _ (by omega)
        have hd1 : (0 : Int) ≤ (p : Int) / (n : Int) := Int.ediv_nonneg (by omega) (by omega)
        have hd2 : (p : Int) / (n : Int) ≤ (p : Int) := Int.ediv_le_self _ (by omega)
        have h2 := hc (p % n) (Nat.mod_lt _ (by omega))
        have h3 := hz (p % n)
        have h4 := hc ((p * 7 + 3) % n) (Nat.mod_lt _ (by omega))
        have h5 := hz ((p * 7 + 3) % n)
        clear hc hat hz hbR
        go_enter Try.func29, Try.ntmps29
        go_wp2_with fail
        refine wp_named fun wr hwr => ?_
        have c0' : wr.cell? ⟨R, 0, none⟩ = some (.slice (some ⟨b, o, none⟩) n c) := by rw [← hwr, World.cell?_setCell_other _ _ _ _ (by simp)]; exact c0
        have h2' : wr.cell? ⟨b, o + p % n, none⟩ = some (.int .u8 (nth zs (p % n))) := by rw [← hwr, World.cell?_setCell_other _ _ _ _ (by simp)]; exact h2
        have h4' : wr.cell? ⟨b, o + (p * 7 + 3) % n, none⟩ = some (.int .u8 (nth zs ((p * 7 + 3) % n))) := by rw [← hwr, World.cell?_setCell_other _ _ _ _ (by simp)]; exact h4
        have HW := Lib.hid hwr
        clear hwr c0 c1 f1 h2 h4
        go_quiet (fail)
        generalize hx : (nth zs (p % n) * 131 + nth zs ((p * 7 + 3) % n) * 1117 + (p : Int) * 29 + (p : Int) / (n : Int) * 53) = x
        have hx1 : 0 ≤ x ∧ x ≤ 1000000000 := by omega
        clear hx hr1 hr2 hs1 hs2 hd1 hd2 h3 h5
        obtain ⟨z, hz, hz2⟩ := xor_small x (x / 64) (by omega) (by omega)
        obtain ⟨hx1, hx2⟩ := hx1
        go_wp2_with fail
        go_ret
        rw [← HW.out]
        exact ⟨_, nq, rfl, Int.emod_nonneg _ (by omega), fun h => Int.emod_lt_of_pos _ (by omega), fun h => absurd h (by omega), rfl⟩

/- a reader at a place that is at most p -/
def RdB (w : World) (R p : Nat) : Prop := ∃ p0, p0 ≤ p ∧ Rd w R p0
theorem RdB.mono {w : World} {R p q : Nat} (h : RdB w R p) (hq : p ≤ q) : RdB w R q := by
  obtain ⟨p0, h0, h1⟩ := h; exact ⟨p0, by omega, h1⟩
theorem Rd.lt {w : World} {R p : Nat} (h : Rd w R p) : R < w.heap.size := by
  obtain ⟨A, n, c, zs, hb, _⟩ := h.ex
  exact (Array.getElem?_eq_some_iff.1 hb).1
theorem RdB.lt {w : World} {R p : Nat} (h : RdB w R p) : R < w.heap.size := by
  obtain ⟨p0, _, h1⟩ := h; exact h1.lt
/- a reader is kept while its own block, and all elder ones, are as they were -/
theorem Rd.kept {w w' : World} {R p : Nat} (h : Rd w R p) (hs : w.heap.size ≤ w'.heap.size) (hk : ∀ k, k ≤ R → w'.heap[k]? = w.heap[k]?) : Rd w' R p := by
  have hlt := h.lt
  obtain ⟨A, n, c, zs, hb, hr, hz, hn, hbR⟩ := h.ex
  refine ⟨A, n, c, zs, by rw [hk R (Nat.le_refl _)]; exact hb, ⟨hr.len, hr.max, fun h0 => ?_⟩, hz, hn, hbR⟩
  obtain ⟨b, o, e, hlt2, hc⟩ := hr.at_ h0
  have := hbR b o e h0
  exact ⟨b, o, e, by omega, fun i hi => (World.cell?_of_block (hk b (by omega))).trans (hc i hi)⟩
theorem RdB.kept {w w' : World} {R p : Nat} (h : RdB w R p) (hs : w.heap.size ≤ w'.heap.size) (hk : ∀ k, k ≤ R → w'.heap[k]? = w.heap[k]?) : RdB w' R p := by
  obtain ⟨p0, h0, h1⟩ := h; exact ⟨p0, h0, h1.kept hs hk⟩
theorem RdB.below {w w' : World} {R p : Nat} (h : RdB w R p) (hb : Below w.heap.size w w') : RdB w' R p := h.kept hb.size fun k hk => hb.block k (by have := h.lt; omega)
theorem RdB.grown {w w' : World} {R p : Nat} {row : Option Nat} (h : RdB w R p) (hb : w.grownBy w' row) (hr : ∀ k, row = some k → R < k) : RdB w' R p :=
  h.kept hb.size fun k hk => hb.block k (by have := h.lt; omega) (fun e => by have := hr k e.symm; omega)

theorem pick_b (R p : Nat) (m : Int) (w : World) (h : RdB w R p) (hp : p ≤ 1000000) (hm : -1000000 ≤ m ∧ m ≤ 1000000) :
    Calls Try.prog 29 #[.pointer (some ⟨R, 0, none⟩), .int .i64 m] w fun e w' => ∃ r : Int, e = .returned (.int .i64 r) ∧ 0 ≤ r ∧ (1 ≤ m → r < m) ∧ (m < 1 → r = 0) ∧ RdB w' R (p + 1) ∧ w.grownBy w' (some R) := by
  obtain ⟨p0, hp0, hr⟩ := h
  refine (pick_any R p0 m w hr (by omega) hm).mono ?_
  rintro e w' ⟨r, q, rfl, h1, h2, h3, rfl⟩
  obtain ⟨A, n, c, zs, hb, hrd, hz, hn, hbR⟩ := hr.ex
  have hlt := hr.lt
  refine ⟨r, rfl, h1, h2, h3, ⟨p0 + 1, by omega, ⟨A, n, c, zs, ?_, ⟨hrd.len, hrd.max, fun h0 => ?_⟩, hz, hn, hbR⟩⟩, ⟨rfl, rfl, rfl, by simp [World.setCell], fun k _ hne => ?_⟩⟩
  · show (w.setCell ⟨R, 1, none⟩ (.int .i64 ((p0 + 1 : Nat) : Int))).heap[R]? = _
    rw [heap_setCell_same w R 1 _ _ _ hb]
    rfl
  · obtain ⟨b, o, e, hl, hc⟩ := hrd.at_ h0
    have := hbR b o e h0
    refine ⟨b, o, e, by simp [World.setCell]; exact hl, fun i hi => ?_⟩
    show (w.setCell ⟨R, 1, none⟩ (.int .i64 ((p0 + 1 : Nat) : Int))).cell? _ = _
    rw [World.cell?_setCell_other _ _ _ _ (by simp)]
    exact hc i hi
  · exact heap_setCell_other w ⟨R, 1, none⟩ k _ (fun e => hne (by simp [e]))

/- some bool, and the reader at most one place farther on -/
def Odd (w : World) (R p : Nat) (e : Ending) (w' : World) : Prop := ∃ b : Bool, e = .returned (.bool b) ∧ RdB w' R (p + 1) ∧ w.grownBy w' (some R)
set_option maxHeartbeats 400000 in
theorem odd_b (R p : Nat) (m : Int) (w : World) (h : RdB w R p) (hp : p ≤ 1000000) (hm : -1000000 ≤ m ∧ m ≤ 1000000) :
    Calls Try.prog 28 #[.pointer (some ⟨R, 0, none⟩), .int .i64 m] w (Odd w R p) := by
  have H := hide h
  obtain ⟨hm1, hm2⟩ := hm
  clear h
  by_cases h0 : 0 < m
  · go_enter Try.func28, Try.ntmps28
    go_wp2_with fail
    refine (pick_b R p m _ H.out hp ⟨hm1, hm2⟩).mono ?_
    rintro e w' ⟨r, rfl, h1, h2, h3, hr, hg⟩
    have HR := hide hr
    have HG := hide hg
    clear hr hg
    go_wp2_with fail
    go_ret
    exact ⟨_, rfl, HR.out, HG.out⟩
  · go_enter Try.func28, Try.ntmps28
    go_wp2_with fail
    go_ret
    exact ⟨false, rfl, H.out.mono (by omega), World.grownBy.refl _ _⟩
set_option maxHeartbeats 400000 in
theorem open_b (A : Option Addr) (n c : Nat) (zs : List Int) (w : World) (h : IRk .u8 w A n zs) (hz : ∀ z ∈ zs, (Lit.int .u8 z).wf = true) (hc : n ≤ c) :
    Calls Try.prog 18 #[.slice A n c] w fun e w' => ∃ R, e = .returned (.pointer (some ⟨R, 0, none⟩)) ∧ w.heap.size ≤ R ∧ RdB w' R 0 ∧ Below w.heap.size w w' := by
  have hz' : ∀ i, 0 ≤ nth zs i ∧ nth zs i ≤ 255 := fun i => by
    rcases Nat.lt_or_ge i zs.length with hi | hi
    · have := hz (nth zs i) (by rw [nth_lt hi]; exact List.getElem_mem hi)
      simpa [Lit.wf, IntKind.min, IntKind.max, IntKind.signed, IntKind.bits, nth_lt hi] using this
    · simp [nth, List.getElem?_eq_none hi]
  have HZ := hide hz'
  have H := hide h
  have hmax := h.max
  have hlen := h.len
  clear h hz hz'
  by_cases h0 : 2000 < n
  · go_enter Try.func18, Try.ntmps18
    go_wp2_with fail
    go_ret
    refine ⟨w.heap.size, rfl, Nat.le_refl _, ⟨0, Nat.le_refl _, ⟨A, 2000, c, zs.take 2000, heap_alloc_last _ _, ⟨by simp; omega, by omega, fun _ => ?_⟩, fun i => ?_, Nat.le_refl _, fun b o e hn => ?_⟩⟩, by go_grown⟩
    · obtain ⟨b, o, e, hb, hcell⟩ := H.out.at_ (by omega)
      refine ⟨b, o, e, by simp; omega, fun i hi => ?_⟩
      rw [World.cell?_alloc_lt _ _ _ hb, hcell i (by omega)]
      simp [nth, hi]
    · rcases Nat.lt_or_ge i 2000 with hi | hi
      · have := HZ.out i
        simpa [nth, hi] using this
      · simp [nth, List.getElem?_take, Nat.not_lt.2 hi]
    · obtain ⟨b', o', e', hb, _⟩ := H.out.at_ (by omega)
      rw [e] at e'
      simp at e'
      omega
  · go_enter Try.func18, Try.ntmps18
    go_wp2_with fail
    go_ret
    refine ⟨w.heap.size, rfl, Nat.le_refl _, ⟨0, Nat.le_refl _, ⟨A, n, c, zs, heap_alloc_last _ _, H.out.below (by go_grown), HZ.out, by omega, fun b o e hn => ?_⟩⟩, by go_grown⟩
    obtain ⟨b', o', e', hb, _⟩ := H.out.at_ hn
    rw [e] at e'
    simp at e'
    omega
end Go.Proofs.Ytacdagdhkmcbiaa
