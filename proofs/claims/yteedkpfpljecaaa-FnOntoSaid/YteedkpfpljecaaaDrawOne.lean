/-
  The draws of a function that is often a table.
  No condition.
-/
import Derived.Test.YteedkpfpljecaaaDrawFunc
import Derived.Test.YteedkpfpljecaaaDrawTab
namespace Go.Proofs.Yteedkpfpljecaaa
open Go.RowKit Go.Sort base
/- numbers of lines and a list, whole -/
def DrawnF3 (w : World) (e : Ending) (w' : World) : Prop :=
  (∃ (i o : Int) (v : Value) (f : List Int), e = .returned (.tuple #[.int .i64 i, .int .i64 o, v]) ∧ Own w' w.heap.size v f ∧ f.length ≤ 17) ∧ Below w.heap.size w w'
set_option maxHeartbeats 1000000 in
theorem drawOneToOne_any (A : Option Addr) (n c : Nat) (zs : List Int) (w : World) (h : IRk .u8 w A n zs) (hz : ∀ z ∈ zs, (Lit.int .u8 z).wf = true) (hc : n ≤ c) :
    Calls Try.prog 13 #[.slice A n c] w (DrawnF3 w) := by
  have H := hide h
  have HZ := hide hz
  clear h hz
  go_enter Try.func13, Try.ntmps13
  go_wp2_with fail
  refine (open_b A n c zs _ H.out HZ.out hc).mono ?_
  rintro e w1 ⟨R, rfl, hR, hr, hb⟩
  have H1 := hide hr
  have B1 := hide hb
  have hs1 := hb.size
  clear hr hb
  go_wp2_with fail
  refine (pick_b R 0 2 _ H1.out (by omega) (by omega)).mono ?_
  rintro e w2 ⟨r2, rfl, a2, b2, _, hr, hg⟩
  have H2 := hide hr
  have B2 := hide (below_of_drawn B1.out hg hR)
  have hs2 := B2.out.size
  clear hr hg b2
  by_cases h2 : r2 = 0
  · subst h2
    go_wp2_with fail
    refine (l20Table_b R 1 20 _ H2.out (by omega) (by omega)).mono ?_
    rintro e w3 ⟨l, v, f, rfl, ho, hl, _, hrg⟩
    have B3 := hide (below_of_drawn B2.out hrg.gr hR)
    have O3 := hide (ho.base_le hs2)
    clear ho hrg
    go_wp2_with fail
    go_ret3
    exact ⟨⟨_, _, _, _, rfl, O3.out, hl⟩, B3.out⟩
  · have e2 : (r2 == 0) = false := by simpa using h2
    clear h2
    go_wp2_with fail
    refine (l20Funced_any R 1 9 _ H2.out (by omega) (by omega)).mono ?_
    rintro e w3 ⟨i, o, v, f, rfl, ho, hl, _, hr, hg⟩
    have B3 := hide (below_of_drawn B2.out hg hR)
    have O3 := hide (ho.base_le hs2)
    clear hr hg ho
    go_wp2_with fail
    go_ret3
    exact ⟨⟨_, _, _, _, rfl, O3.out, hl⟩, B3.out⟩
set_option maxHeartbeats 1000000 in
theorem drawOnto_any (A : Option Addr) (n c : Nat) (zs : List Int) (w : World) (h : IRk .u8 w A n zs) (hz : ∀ z ∈ zs, (Lit.int .u8 z).wf = true) (hc : n ≤ c) :
    Calls Try.prog 6 #[.slice A n c] w (DrawnF3 w) := by
  have H := hide (drawOneToOne_any A n c zs w h hz hc)
  clear h hz
  go_enter Try.func6, Try.ntmps6
  go_wp2_with fail
  refine H.out.mono ?_
  rintro e w1 ⟨⟨i, o, v, f, rfl, ho, hl⟩, hb⟩
  have O1 := hide ho
  have B1 := hide hb
  clear ho hb
  go_wp2_with fail
  go_ret3
  exact ⟨⟨_, _, _, _, rfl, O1.out, hl⟩, B1.out⟩
end Go.Proofs.Yteedkpfpljecaaa
