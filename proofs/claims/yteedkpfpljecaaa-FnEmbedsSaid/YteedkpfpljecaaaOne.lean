/-
  OneToOne of the program and of the reference.
  No condition.
-/
import Derived.Test.YteedkpfpljecaaaMost
namespace Go.Proofs.Yteedkpfpljecaaa
open Go.RowKit Go.Sort base
def oneToOne (i o : Int) (f : List Int) : Bool := sameMost i o f == 1
set_option maxHeartbeats 400000 in
theorem oneToOne_any (i o : Int) (A : Option Addr) (n c : Nat) (f : List Int) (w : World) (h : IR w A n f) :
    Calls Try.prog 9 #[.int .i64 i, .int .i64 o, .slice A n c] w fun e w' => e = .returned (.bool (oneToOne i o f)) ∧ Below w.heap.size w w' := by
  have H := hide h
  clear h
  go_enter Try.func9, Try.ntmps9
  go_wp2_with fail
  refine (sameMost_any i o A n c f _ H.out).mono ?_
  rintro e w1 ⟨rfl, hb1⟩
  go_wp2_with fail
  go_ret
  exact ⟨rfl, hb1⟩
set_option maxHeartbeats 400000 in
theorem sOneToOne_any (i o : Int) (A : Option Addr) (n c : Nat) (f : List Int) (w : World) (h : IR w A n f) :
    Calls Try.prog 14 #[.int .i64 i, .int .i64 o, .slice A n c] w fun e w' => e = .returned (.bool (oneToOne i o f)) ∧ w = w' := by
  have H := hide h
  clear h
  go_enter Try.func14, Try.ntmps14
  go_wp2_with fail
  refine (sSameMost_any i o A n c f _ H.out).mono ?_
  rintro e w1 ⟨rfl, rfl⟩
  go_wp2_with fail
  go_ret
  exact ⟨rfl, rfl⟩
end Go.Proofs.Yteedkpfpljecaaa
