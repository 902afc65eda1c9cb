/-
  The number of a table of two lines, by the reference.
  No condition.
-/
import Derived.Test.YtlaidoomjnhlaaaLeastLaw
import Derived.Test.YtlaidoomjnhlaaaInts
import Derived.BigQuiet
namespace Go.Proofs.Ytlaidoomjnhlaaa
open Go.RowKit Go.Sort base
def ints4 (t : T4) : List Int := [(t.1 : Int), (t.2.1 : Int), (t.2.2.1 : Int), (t.2.2.2 : Int)]
def Small4 (t : T4) : Prop := t.1 < 4 ∧ t.2.1 < 4 ∧ t.2.2.1 < 4 ∧ t.2.2.2 < 4
set_option maxHeartbeats 1000000 in
theorem rank_any (A : Option Addr) (c : Nat) (t : T4) (w : World) (h : IR w A 4 (ints4 t)) (ht : Small4 t) :
    Calls Try.prog 9 #[.slice A 4 c] w fun e w' => e = .returned (.int .i64 (rank4 t)) ∧ ∃ q, w' = w.drewN q := by
  obtain ⟨a, b, cc, d⟩ := t
  obtain ⟨ha, hb, hc, hd⟩ := ht
  simp only at ha hb hc hd
  obtain ⟨g, o, rfl, hg, hcell⟩ := h.at_ (by omega)
  have c0 : w.cell? ⟨g, o, none⟩ = some (.int .i64 (a : Int)) := hcell 0 (by omega)
  have c1 : w.cell? ⟨g, o + 1, none⟩ = some (.int .i64 (b : Int)) := hcell 1 (by omega)
  have c2 : w.cell? ⟨g, o + 2, none⟩ = some (.int .i64 (cc : Int)) := hcell 2 (by omega)
  have c3 : w.cell? ⟨g, o + 3, none⟩ = some (.int .i64 (d : Int)) := hcell 3 (by omega)
  have HE := Lib.hid (show ((rank4 (a, b, cc, d) : Nat) : Int) = 64 * (a : Int) + 16 * (b : Int) + 4 * (cc : Int) + (d : Int) by unfold rank4; simp)
  clear hcell h
  go_enter Try.func9, Try.ntmps9
  go_wp2_with fail
  go_quiet (fail)
  go_wp2_with fail
  go_ret
  exact ⟨by rw [HE.out]; rfl, _, rfl⟩
end Go.Proofs.Ytlaidoomjnhlaaa
