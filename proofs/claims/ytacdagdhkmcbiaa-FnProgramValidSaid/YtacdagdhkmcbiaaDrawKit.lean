/-
  What the draws of lists have in common: a list that is filled by picks; the reader beside it.
  No condition.
-/
import Derived.Test.YtacdagdhkmcbiaaDraw
import Derived.Lib.MinMax
namespace Go.Proofs.Ytacdagdhkmcbiaa
open Go.RowKit Go.Sort base
theorem own_ne {w : World} {base R : Nat} {v : Value} {zs : List Int} (h : Own w base v zs) (hR : R < base) : v.ownBlock = none ∨ v.ownBlock ≠ some R := by
  cases hv : v.ownBlock with
  | none => exact .inl rfl
  | some k => right; intro e; have := (h.lt k hv).1; simp at e; omega
theorem grown_own {a b c : World} {row r : Option Nat} (h : a.grownBy b row) (k : b.grownBy c r) (hr : ∀ x, r = some x → a.heap.size ≤ x) : a.grownBy c row :=
  ⟨k.os.trans h.os, k.tape.trans h.tape, k.output.trans h.output, Nat.le_trans h.size k.size, fun i hi hne => (k.block i (Nat.lt_of_lt_of_le hi h.size) (fun e => by have := hr i e.symm; omega)).trans (h.block i hi hne)⟩
theorem rd_alloc {w : World} {R p : Nat} (h : RdB w R p) (o : Obj) : RdB (w.alloc o) R p := h.below ((Below.refl _ w).alloc (Nat.le_refl _) o)
theorem IRk.grown {K : IntKind} {w w' : World} {A : Option Addr} {n : Nat} {zs : List Int} {row : Option Nat} (h : IRk K w A n zs) (hg : w.grownBy w' row) (hne : ∀ b o, A = some ⟨b, o, none⟩ → some b ≠ row) : IRk K w' A n zs :=
  ⟨h.len, h.max, fun hn => by
    obtain ⟨b, o, e, hb, hc⟩ := h.at_ hn
    exact ⟨b, o, e, by have := hg.size; omega, fun i hi => (World.cell?_of_block (hg.block b hb (hne b o e))).trans (hc i hi)⟩⟩
/- some numbers in a slice of the call's own, and the reader at most at place p -/
def DrawnInts (w : World) (R p L : Nat) (e : Ending) (w' : World) : Prop :=
  ∃ v zs, e = .returned v ∧ Own w' w.heap.size v zs ∧ zs.length ≤ L ∧ RdB w' R p ∧ w.grownBy w' (some R)
/- some number, and the reader at most at place p -/
def DrawnInt (w : World) (R p : Nat) (e : Ending) (w' : World) : Prop :=
  ∃ x : Int, e = .returned (.int .i64 x) ∧ RdB w' R p ∧ w.grownBy w' (some R)
/- the list as it is filled -/
def Filled (w : World) (R p : Nat) (v : Value) (wr : World) (k : Nat) : Prop :=
  ∃ zs, Own wr w.heap.size v zs ∧ zs.length = k ∧ RdB wr R (p + k) ∧ w.grownBy wr (some R)
theorem Filled.step {w wr w1 w2 : World} {R p k : Nat} {v v2 : Value} {zs : List Int} {x : Int} (hR : R < w.heap.size) (ho : Own wr w.heap.size v zs) (hl : zs.length = k) (hgw : w.grownBy wr (some R))
    (hr : RdB w1 R (p + k + 1)) (hg : wr.grownBy w1 (some R)) (ho2 : Own w2 w.heap.size v2 (zs ++ [x])) (hg2 : w1.grownBy w2 v.ownBlock) : Filled w R p v2 w2 (k + 1) := by
  have hlt : ∀ i, v.ownBlock = some i → w.heap.size ≤ i := fun i hi => (ho.lt i hi).1
  refine ⟨zs ++ [x], ho2, by simp [hl], ?_, ?_⟩
  · exact (show RdB w1 R (p + (k + 1)) from hr).grown hg2 (fun k hk => by have := hlt k hk; omega)
  · exact grown_own (grown_seq hgw hg) hg2 hlt
end Go.Proofs.Ytacdagdhkmcbiaa
