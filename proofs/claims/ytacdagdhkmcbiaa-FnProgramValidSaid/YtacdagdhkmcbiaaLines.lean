/-
  Which statements are valid, by the program.
  No condition.
-/
import Derived.Test.YtacdagdhkmcbiaaLinesA
import Derived.Test.YtacdagdhkmcbiaaLinesB
import Derived.Test.YtacdagdhkmcbiaaLinesC
import Derived.Test.YtacdagdhkmcbiaaSLines
namespace Go.Proofs.Ytacdagdhkmcbiaa
open Go.RowKit Go.Sort base
set_option maxHeartbeats 400000 in
theorem lineValid_any (k v w n : Int) (W : World) :
    Calls Try.prog 23 #[.agg #[.int .i64 k, .int .i64 v, .int .i64 w, .int .i64 n]] W fun e w' => e = .returned (.bool (lineQ k v w n)) ∧ Below W.heap.size W w' := by
  cases hk : inR 0 8 k
  · have HQ := Lib.hid (show lineQ k v w n = false by simp [lineQ, hk])
    have HK := Lib.hid hk
    clear hk
    go_enter Try.func23, Try.ntmps23
    go_wp2_with fail
    refine (within_b false _ _ _ HK.out _).mono ?_
    rintro e w' ⟨rfl, rfl⟩
    go_wp2_with fail
    go_ret
    exact ⟨by rw [HQ.out]; rfl, by go_grown⟩
  · rcases kind9 hk with rfl | rfl | rfl | rfl | rfl | rfl | rfl | rfl | rfl
    · exact lineValid_0 v w n W
    · exact lineValid_1 v w n W
    · exact lineValid_2 v w n W
    · exact lineValid_3 v w n W
    · exact lineValid_4 v w n W
    · exact lineValid_5 v w n W
    · exact lineValid_6 v w n W
    · exact lineValid_7 v w n W
    · exact lineValid_8 v w n W
theorem lineValid_b (b : Bool) (k v w n : Int) (h : lineQ k v w n = b) (W : World) :
    Calls Try.prog 23 #[.agg #[.int .i64 k, .int .i64 v, .int .i64 w, .int .i64 n]] W fun e w' => e = .returned (.bool b) ∧ Below W.heap.size W w' := by subst h; exact lineValid_any k v w n W
end Go.Proofs.Ytacdagdhkmcbiaa
