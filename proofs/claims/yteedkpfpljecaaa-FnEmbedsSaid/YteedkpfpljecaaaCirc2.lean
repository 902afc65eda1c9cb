/-
  Circuits by the program: which are valid; what one makes of a word.
  No condition.
-/
import Derived.Test.YteedkpfpljecaaaCirc
namespace Go.Proofs.Yteedkpfpljecaaa
open Go.RowKit Go.Sort base
def badGate (l : Int) (g : G4) : Bool := !gateOk l g
theorem any_take_succ_g {gs : List G4} {k : Nat} (p : G4 → Bool) (h : k < gs.length) : (gs.take (k + 1)).any p = ((gs.take k).any p || p (gth gs k)) := by
  rw [take_succ_gth h]; simp
theorem any_of_gth {gs : List G4} {k : Nat} (p : G4 → Bool) (h : k < gs.length) (hp : p (gth gs k) = true) : gs.any p = true := by
  rw [List.any_eq_true]; exact ⟨gth gs k, gth_mem h, hp⟩
end Go.Proofs.Yteedkpfpljecaaa
