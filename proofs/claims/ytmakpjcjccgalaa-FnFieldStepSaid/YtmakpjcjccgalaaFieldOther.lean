/-
  FieldStep, FieldBack and FieldTurn of what they have made.
  No condition.
-/
import Derived.Test.YtmakpjcjccgalaaFieldSame
namespace Go.Proofs.Ytmakpjcjccgalaa
open Go.RowKit Go.Sort base
theorem stepOfBack (s : Int) (A : Option Addr) (n c : Nat) (sh : Bool) (bs : List Bool) (w : World) (hb : BR w A n (backL s sh bs)) (hn : n ≤ 1048576) (hv : fldOk s bs = true) :
    Calls Try.prog 12 #[.agg #[.int .i64 (outS s bs), .slice A n c, .bool (outN s sh bs)]] w (RF w s sh bs) := by
  obtain ⟨⟨o1, o2, o3⟩, _, ⟨f2, _⟩, _, e1, _⟩ := laws_ok (sh := sh) hv
  have := steps_ok_any (outS s bs) A n c (outN s sh bs) (backL s sh bs) w hb hn wf_outS
  rw [o1, o2] at this ⊢
  obtain ⟨⟨p1, p2, _⟩, _⟩ := laws_ok (sh := !sh) f2
  rw [p1, p2, e1, Bool.not_not] at this
  exact this
theorem stepOther (s : Int) (A : Option Addr) (n c : Nat) (sh : Bool) (bs : List Bool) (w : World) (hb : BR w A n bs) (hn : n ≤ 1048576) (hs : (Lit.int .i64 s).wf = true) (hv : fldOk s bs = true) :
    Calls Try.prog 12 #[.agg #[.int .i64 s, .slice A n c, .bool (!sh)]] w (RF w (outS s bs) (outN s (!sh) bs) (backL s sh bs)) := by
  obtain ⟨_, _, _, _, _, _, e3, _⟩ := laws_ok (sh := sh) hv
  have := steps_ok_any s A n c (!sh) bs w hb hn hs
  rw [e3] at this
  exact this
theorem backOfStep (s : Int) (A : Option Addr) (n c : Nat) (sh : Bool) (bs : List Bool) (w : World) (hb : BR w A n (stepL s sh bs)) (hn : n ≤ 1048576) (hv : fldOk s bs = true) :
    Calls Try.prog 13 #[.agg #[.int .i64 (outS s bs), .slice A n c, .bool (outN s sh bs)]] w (RF w s sh bs) := by
  obtain ⟨⟨o1, o2, o3⟩, ⟨f1, _⟩, _, _, _, e2, _⟩ := laws_ok (sh := sh) hv
  have := backs_ok_any (outS s bs) A n c (outN s sh bs) (stepL s sh bs) w hb hn wf_outS
  rw [o1, o2] at this ⊢
  obtain ⟨⟨p1, p2, _⟩, _⟩ := laws_ok (sh := !sh) f1
  rw [p1, p2, e2, Bool.not_not] at this
  exact this
theorem turnOfStep (s : Int) (A : Option Addr) (n c : Nat) (sh : Bool) (bs : List Bool) (w : World) (hb : BR w A n (stepL s sh bs)) (hn : n ≤ 1048576) (hv : fldOk s bs = true) :
    Calls Try.prog 14 #[.agg #[.int .i64 (outS s bs), .slice A n c, .bool (outN s sh bs)]] w (RF w (outS s bs) (outN s sh bs) (turnL s (stepL s sh bs))) := by
  obtain ⟨⟨o1, o2, o3⟩, ⟨f1, _⟩, _⟩ := laws_ok (sh := sh) hv
  have := turns_any (outS s bs) A n c (outN s sh bs) (stepL s sh bs) w hb hn wf_outS
  rw [o1, o2] at this ⊢
  obtain ⟨⟨p1, _, p3⟩, _⟩ := laws_ok (sh := !sh) f1
  rw [p1, p3] at this
  exact this
theorem stepOfTurn (s : Int) (A : Option Addr) (n c : Nat) (sh : Bool) (bs : List Bool) (w : World) (hb : BR w A n (turnL s bs)) (hn : n ≤ 1048576) (hv : fldOk s bs = true) :
    Calls Try.prog 12 #[.agg #[.int .i64 (outS s bs), .slice A n c, .bool (outK s sh bs)]] w (RF w (outS s bs) (outN s sh bs) (turnL s (stepL s sh bs))) := by
  obtain ⟨⟨o1, o2, o3⟩, _, _, ⟨f3, _⟩, _, _, _, e4⟩ := laws_ok (sh := sh) hv
  have := steps_ok_any (outS s bs) A n c (outK s sh bs) (turnL s bs) w hb hn wf_outS
  rw [o1, o3] at this
  rw [o1, o2, o3]
  obtain ⟨⟨p1, p2, _⟩, _⟩ := laws_ok (sh := sh) f3
  rw [p1, p2, e4] at this
  exact this
/-- a goal that is not looked into -/
structure Shut (p : Prop) : Prop where
  out : p
theorem nil_len {n : Nat} {l : List Bool} (h : l.length = n) (e : l = []) : ((n : Int) == 0) = true := by subst e; subst h; rfl
theorem turn_ok {s : Int} {sh : Bool} {bs : List Bool} (hv : fldOk s bs = true) : fldOk (outS s bs) (turnL s (stepL s sh bs)) = true := by
  obtain ⟨⟨o1, _, _⟩, ⟨f1, _⟩, _⟩ := laws_ok (sh := sh) hv
  obtain ⟨_, _, _, ⟨f3, _⟩, _⟩ := laws_ok (sh := sh) f1
  rw [o1]; exact f3
end Go.Proofs.Ytmakpjcjccgalaa
