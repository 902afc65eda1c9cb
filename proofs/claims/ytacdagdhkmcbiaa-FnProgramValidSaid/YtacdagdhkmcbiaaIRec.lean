/-
  The parser of the program: the deferred closure of parse, which recovers.
  No condition.
-/
import Derived.Test.YtacdagdhkmcbiaaIPartB
import Derived.Recover
import Derived.Laws.Pointers
namespace Go.Proofs.Ytacdagdhkmcbiaa
open Go.RowKit Go.Sort base
def caught : List PanicEntry := [{ v := .iface 52 (.agg #[]), recovered := true }]
theorem ta_left (v : Value) (w : World) : (Instr.typeAssert (.iface 52 v) 20 52 true).run Try.prog w = .ok (.tuple #[v, .bool true]) w := by kernel_rfl
theorem rec_idle (p0 p1 : Nat) (w : World) :
    CallsD Try.prog 24 #[.pointer (some ⟨p0, 0, none⟩), .pointer (some ⟨p1, 0, none⟩)] .returning w fun e u' w' => e = .returned (.tuple #[]) ∧ u' = .returning ∧ w' = w := by
  refine callsD_of_wpS Try.func24 rfl fun c₀ cs hu => ?_
  apply wpS_seq
  apply wpS_region
  simp [wpOpsS, go_sem, recoverD, hu, Try.ntmps24, Exit.thenS, Array.replicate_succ, Array.replicate_zero]
  refine wpS_of_wp ?_
  go_wp2_with fail
  cases c₀
  simp_all [bodyPostS, results, Try.results24]
theorem rec_left (p0 p1 : Nat) (v0 v1 : Value) (w : World) (h0 : w.cell? ⟨p0, 0, none⟩ = some v0) (h1 : w.cell? ⟨p1, 0, none⟩ = some v1) (z0 : w.frozen? ⟨p0, 0, none⟩ = false) (z1 : w.frozen? ⟨p1, 0, none⟩ = false) (hne : p0 ≠ p1) :
    CallsD Try.prog 24 #[.pointer (some ⟨p0, 0, none⟩), .pointer (some ⟨p1, 0, none⟩)] (.panicking leftChain) w fun e u' w' => e = .returned (.tuple #[]) ∧ u' = .panicking caught ∧ w' = ((w.setCell ⟨p0, 0, none⟩ (.slice none 0 0)).setCell ⟨p1, 0, none⟩ (.bool false)).alloc (.cells #[] 52) := by
  have hne2 : p1 ≠ p0 := fun e => hne e.symm
  have l0 : p0 < w.heap.size := World.block_lt_of_cell? w _ h0
  have l1 : p1 < w.heap.size := World.block_lt_of_cell? w _ h1
  refine callsD_of_wpS Try.func24 rfl fun c₀ cs hu => ?_
  apply wpS_seq
  apply wpS_region
  simp [wpOpsS, go_sem, recoverD, hu, Try.ntmps24, Exit.thenS, leftChain, Array.replicate_succ, Array.replicate_zero]
  refine wpS_of_wp ?_
  have hta := ta_left
  have l1' : p1 < w.heap.size + 1 := by omega
  go_wp2_with fail
  simp [bodyPostS, results, Try.results24, caught]
end Go.Proofs.Ytacdagdhkmcbiaa
