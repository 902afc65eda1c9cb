/-
  The parser of the program: part, with its deferred closure; both by induction.
  No condition.
-/
import Derived.Test.YtacdagdhkmcbiaaIUntil
import Derived.Laws.ResultCell
namespace Go.Proofs.Ytacdagdhkmcbiaa
open Go.RowKit Go.Sort base
set_option maxHeartbeats 1000000 in
theorem part1_any (bp P d : Nat) (u : FrameMode) (w : World) (hb : w.cell? ⟨bp, 0, none⟩ = some (.pointer (some ⟨P, 0, none⟩))) (hc : w.cell? ⟨P, 2, none⟩ = some (.int .i64 ((d + 1 : Nat) : Int))) (hz : w.frozen? ⟨P, 2, none⟩ = false) (hd : d ≤ 10) :
    CallsD Try.prog 37 #[.pointer (some ⟨bp, 0, none⟩)] u w fun e u' w' => u' = u ∧ (e = .returned (.tuple #[]) ∧ w' = w.setCell ⟨P, 2, none⟩ (.int .i64 (d : Nat))) := by
  go_enter_d Try.func37, Try.ntmps37
  have hc2 : w.cell? ⟨P, 2, none⟩ = some (.int .i64 ((d : Int) + 1)) := by rw [hc]; simp
  clear hc
  go_wp2_with fail
  go_end0
  exact ⟨rfl, by simp⟩
def zero10 : Array Value := #[.int .i64 0, .int .i64 0, .int .i64 0, .int .i64 0, .slice none 0 0, .slice none 0 0, .int .i64 0, .int .i64 0, .int .i64 0, .int .i64 0]
/-- part under way -/
structure PT (w : World) (P : Nat) (A : Option Addr) (N c : Nat) (gs : List G4) (at_ d : Nat) (k0 k1 k2 k3 : Int) (v4 v5 : Value) (wr : World) : Prop where
  ps : PS P A N c gs at_ d wr
  bp : wr.heap[w.heap.size]? = some (.cells #[.pointer (some ⟨P, 0, none⟩)] 53 (0, 0))
  bl : wr.heap[w.heap.size + 1]? = some (.cells #[.int .i64 k0, .int .i64 k1, .int .i64 k2, .int .i64 k3] 32 (0, 0))
  br : wr.heap[w.heap.size + 2]? = some (.cells #[.int .i64 0, .int .i64 0, .int .i64 0, .int .i64 0, .slice none 0 0, .slice none 0 0, .int .i64 0, .int .i64 0, .int .i64 0, .int .i64 0] 69 (0, 0))
  bb : wr.heap[w.heap.size + 3]? = some (.cells #[.int .i64 k0, .int .i64 k1, .int .i64 k2, .int .i64 k3, v4, v5, .int .i64 0, .int .i64 0, .int .i64 0, .int .i64 0] 69 (0, 0))
  gr : w.grownBy wr (some P)
  Pl : P < w.heap.size
  sz : w.heap.size + 4 ≤ wr.heap.size
theorem PT.call {w wr wy : World} {P N c at_ d at' d' : Nat} {A : Option Addr} {gs : List G4} {k0 k1 k2 k3 : Int} {v4 v5 : Value} (h : PT w P A N c gs at_ d k0 k1 k2 k3 v4 v5 wr) (hg : wr.grownBy wy (some P)) (ps : PS P A N c gs at' d' wy) : PT w P A N c gs at' d' k0 k1 k2 k3 v4 v5 wy := by
  have h1 := h.sz
  have h2 := h.Pl
  exact ⟨ps, (hg.block _ (by omega) (by simp; omega)).trans h.bp, (hg.block _ (by omega) (by simp; omega)).trans h.bl, (hg.block _ (by omega) (by simp; omega)).trans h.br, (hg.block _ (by omega) (by simp; omega)).trans h.bb, grown_seq h.gr hg, h2, by have := hg.size; omega⟩
theorem PT.set4 {w wr : World} {P N c at_ d : Nat} {A : Option Addr} {gs : List G4} {k0 k1 k2 k3 : Int} {v4 v5 : Value} (h : PT w P A N c gs at_ d k0 k1 k2 k3 v4 v5 wr) (hA : ∀ b o, A = some ⟨b, o, none⟩ → 0 < N → b < w.heap.size) (v : Value) :
    PT w P A N c gs at_ d k0 k1 k2 k3 v v5 (wr.setCell ⟨w.heap.size + 3, 4, none⟩ v) := by
  have hg := set1_grown wr (w.heap.size + 3) 4 v
  have h1 := h.sz
  have h2 := h.Pl
  exact ⟨h.ps.grown0 hg (by simp; omega) (fun b o e h0 => by have := hA b o e h0; simp; omega), (hg.block _ (by omega) (by simp)).trans h.bp, (hg.block _ (by omega) (by simp)).trans h.bl, (hg.block _ (by omega) (by simp)).trans h.br, heap_setCell_same wr _ 4 _ _ _ h.bb, grown_far h.gr hg (by simp), h2, by have := hg.size; omega⟩
theorem PT.set5 {w wr : World} {P N c at_ d : Nat} {A : Option Addr} {gs : List G4} {k0 k1 k2 k3 : Int} {v4 v5 : Value} (h : PT w P A N c gs at_ d k0 k1 k2 k3 v4 v5 wr) (hA : ∀ b o, A = some ⟨b, o, none⟩ → 0 < N → b < w.heap.size) (v : Value) :
    PT w P A N c gs at_ d k0 k1 k2 k3 v4 v (wr.setCell ⟨w.heap.size + 3, 5, none⟩ v) := by
  have hg := set1_grown wr (w.heap.size + 3) 5 v
  have h1 := h.sz
  have h2 := h.Pl
  exact ⟨h.ps.grown0 hg (by simp; omega) (fun b o e h0 => by have := hA b o e h0; simp; omega), (hg.block _ (by omega) (by simp)).trans h.bp, (hg.block _ (by omega) (by simp)).trans h.bl, (hg.block _ (by omega) (by simp)).trans h.br, heap_setCell_same wr _ 5 _ _ _ h.bb, grown_far h.gr hg (by simp), h2, by have := hg.size; omega⟩
theorem PT.start {w : World} {P N c at_ d : Nat} {A : Option Addr} {gs : List G4} {k0 k1 k2 k3 : Int} (h : PS P A N c gs at_ d w) (d' : Nat) :
    PT w P A N c gs at_ d' k0 k1 k2 k3 (.slice none 0 0) (.slice none 0 0) (((((w.setCell ⟨P, 2, none⟩ (.int .i64 (d' : Int))).alloc (.cells #[.pointer (some ⟨P, 0, none⟩)] 53)).alloc (.cells #[.int .i64 k0, .int .i64 k1, .int .i64 k2, .int .i64 k3] 32)).alloc (.cells #[.int .i64 0, .int .i64 0, .int .i64 0, .int .i64 0, .slice none 0 0, .slice none 0 0, .int .i64 0, .int .i64 0, .int .i64 0, .int .i64 0] 69)).alloc (.cells #[.int .i64 k0, .int .i64 k1, .int .i64 k2, .int .i64 k3, .slice none 0 0, .slice none 0 0, .int .i64 0, .int .i64 0, .int .i64 0, .int .i64 0] 69)) := by
  have hz : (w.setCell ⟨P, 2, none⟩ (.int .i64 (d' : Int))).heap.size = w.heap.size := by simp [World.setCell]
  have hs := h.setDeep d'
  have hg0 := set1_grown w P 2 (.int .i64 (d' : Int))
  have hl := h.lt
  generalize w.setCell ⟨P, 2, none⟩ (.int .i64 (d' : Int)) = w0 at *
  have hb : Below w0.heap.size w0 ((((w0.alloc (.cells #[.pointer (some ⟨P, 0, none⟩)] 53)).alloc (.cells #[.int .i64 k0, .int .i64 k1, .int .i64 k2, .int .i64 k3] 32)).alloc (.cells #[.int .i64 0, .int .i64 0, .int .i64 0, .int .i64 0, .slice none 0 0, .slice none 0 0, .int .i64 0, .int .i64 0, .int .i64 0, .int .i64 0] 69)).alloc (.cells #[.int .i64 k0, .int .i64 k1, .int .i64 k2, .int .i64 k3, .slice none 0 0, .slice none 0 0, .int .i64 0, .int .i64 0, .int .i64 0, .int .i64 0] 69)) := by go_grown
  refine ⟨hs.below hb, ?_, ?_, ?_, ?_, ?_, hl, ?_⟩
  · rw [← hz]; exact block_alloc (block_alloc (block_alloc (heap_alloc_new w0 _) _) _) _
  · rw [← hz]
    have := heap_alloc_new (w0.alloc (.cells #[.pointer (some ⟨P, 0, none⟩)] 53)) (.cells #[.int .i64 k0, .int .i64 k1, .int .i64 k2, .int .i64 k3] 32)
    rw [World.size_alloc] at this
    exact block_alloc (block_alloc this _) _
  · rw [← hz]
    have := heap_alloc_new ((w0.alloc (.cells #[.pointer (some ⟨P, 0, none⟩)] 53)).alloc (.cells #[.int .i64 k0, .int .i64 k1, .int .i64 k2, .int .i64 k3] 32)) (.cells #[.int .i64 0, .int .i64 0, .int .i64 0, .int .i64 0, .slice none 0 0, .slice none 0 0, .int .i64 0, .int .i64 0, .int .i64 0, .int .i64 0] 69)
    rw [World.size_alloc, World.size_alloc] at this
    exact block_alloc this _
  · rw [← hz]
    have := heap_alloc_new (((w0.alloc (.cells #[.pointer (some ⟨P, 0, none⟩)] 53)).alloc (.cells #[.int .i64 k0, .int .i64 k1, .int .i64 k2, .int .i64 k3] 32)).alloc (.cells #[.int .i64 0, .int .i64 0, .int .i64 0, .int .i64 0, .slice none 0 0, .slice none 0 0, .int .i64 0, .int .i64 0, .int .i64 0, .int .i64 0] 69)) (.cells #[.int .i64 k0, .int .i64 k1, .int .i64 k2, .int .i64 k3, .slice none 0 0, .slice none 0 0, .int .i64 0, .int .i64 0, .int .i64 0, .int .i64 0] 69)
    rw [World.size_alloc, World.size_alloc, World.size_alloc] at this
    exact this
  · exact grown_seq hg0 ⟨hb.os, hb.tape, hb.output, hb.size, fun k hk _ => hb.block k hk⟩
  · simp [hz]
theorem PT.cells {w wr : World} {P N c at_ d : Nat} {A : Option Addr} {gs : List G4} {k0 k1 k2 k3 : Int} {v4 v5 : Value} (h : PT w P A N c gs at_ d k0 k1 k2 k3 v4 v5 wr) :
    wr.cell? ⟨w.heap.size, 0, none⟩ = some (.pointer (some ⟨P, 0, none⟩)) ∧ wr.cell? ⟨w.heap.size + 3, 4, none⟩ = some v4 ∧ wr.cell? ⟨w.heap.size + 3, 5, none⟩ = some v5 ∧ ∀ i, wr.frozen? ⟨w.heap.size + 3, i, none⟩ = false :=
  ⟨by rw [cell_of_row wr _ 0 _ _ (0, 0) h.bp]; rfl, by rw [cell_of_row wr _ 4 _ _ (0, 0) h.bb]; rfl, by rw [cell_of_row wr _ 5 _ _ (0, 0) h.bb]; rfl, fun i => frozen_of_row wr _ i _ _ h.bb⟩
end Go.Proofs.Ytacdagdhkmcbiaa
