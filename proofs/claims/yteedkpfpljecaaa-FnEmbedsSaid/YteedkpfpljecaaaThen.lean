/-
  One function behind another one: FuncThen of the program and of the reference.
  No condition.
-/
import Derived.Test.YteedkpfpljecaaaMade
namespace Go.Proofs.Yteedkpfpljecaaa
open Go.RowKit Go.Sort base
def funcThen (i m o : Int) (f g : List Int) : List Int := if fnOk i m f && fnOk m o g then tab f.length fun k => nth g (nth f k).toNat else []
theorem fnOk_ne {i o : Int} {f : List Int} (h : fnOk i o f = true) : 0 < f.length := by
  obtain ⟨hi, _, hl, _⟩ := fnOk_out h
  rcases pw_cases hi with ⟨_, e⟩ | ⟨_, e⟩ | ⟨_, e⟩ | ⟨_, e⟩ <;> omega
theorem fnOk_len {i o : Int} {f : List Int} (h : fnOk i o f = true) : f.length ≤ 16 := by
  obtain ⟨hi, _, hl, _⟩ := fnOk_out h
  exact in14_len hi hl
theorem funcThen_len (i m o : Int) (f g : List Int) : (funcThen i m o f g).length ≤ 4000000 := by
  unfold funcThen
  split
  · rename_i h
    rw [Bool.and_eq_true] at h
    rw [tab_len]; have := fnOk_len h.1; omega
  · simp
end Go.Proofs.Yteedkpfpljecaaa
