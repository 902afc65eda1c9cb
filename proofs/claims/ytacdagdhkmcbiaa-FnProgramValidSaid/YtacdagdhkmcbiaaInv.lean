/-
  A region that draws its order, by an invariant: each operation is walked once, at whatever moment it comes up.
  No condition.
-/
import Derived.Test.YtacdagdhkmcbiaaBase
namespace Go.Proofs.Ytacdagdhkmcbiaa.base
open Go.RowKit Go.Sort
/-- every operation waits for elder ones alone -/
def topoB (md : Region.Mode) (ops : Array Oper) : Bool :=
  (List.range ops.size).all fun i => ((ops[i]?).map fun o => o.after.all fun e => !Region.binds md e || decide (e.on < i)).getD true
/-- the exits of a step: the normal one leads to J, the others to Q -/
def endAt (Q : Exit → Act → World → Prop) (J : Act → World → Prop) : Exit → Act → World → Prop
  | .normal, a, w => J a w
  | x, a, w => Q x a w
def deps (md : Region.Mode) (o : Oper) (L : Nat → Bool) : Prop := ∀ e ∈ o.after, Region.binds md e = true → L e.on = true
def upd (L : Nat → Bool) (i : Nat) : Nat → Bool := fun j => L j || j == i
section
variable {P : Program} {ops : Array Oper} {md : Region.Mode} {Q : Exit → Act → World → Prop} {I : (Nat → Bool) → Act → World → Prop}
theorem wpOp_of_list {i : Nat} {o : Oper} {J : Act → World → Prop} {a : Act} {w : World} (ho : ops[i]? = some o)
    (h : wpList P ops (endAt Q J) [o] a w) : wpOp P ops Q i J a w := by
  have hQ : LetsOut (endAt Q J) → LetsOut Q := fun ⟨a, w, h⟩ => ⟨a, w, h⟩
  unfold wpOp
  simp only [ho]
  unfold wpList at h
  split
  · rename_i hw
    rw [if_pos hw] at h
    rcases h with h | ⟨h1, h2⟩
    · left
      unfold Oper.wp at *
      generalize (execOp a.eval o).run P w = r at *
      cases r with
      | ok n w' =>
        cases n <;> simp only [Oper.upon] at h ⊢ <;>
          first
            | exact h
            | exact Calls.mono h (fun e w'' he => by cases e <;> first | exact he | exact hQ he)
            | exact Rows.mono h (fun _ _ he => he)
      | halt x w' => cases x <;> simp only [Oper.upon] at h ⊢ <;> exact h
    · exact .inr ⟨h1, hQ h2⟩
  · rename_i hw
    rw [if_neg hw] at h
    exact h
theorem count_set {listed : Array Bool} {i : Nat} (h : listed.getD i true = false) : (listed.setIfInBounds i true).toList.count false + 1 = listed.toList.count false := by
  have hi : i < listed.size := by
    rcases Nat.lt_or_ge i listed.size with h1 | h1
    · exact h1
    · rw [Array.getD, dif_neg (by omega)] at h; cases h
  have he : listed.toList[i]'(by simpa using hi) = false := by
    rw [Array.getD, dif_pos hi] at h; simpa using h
  rw [Array.toList_setIfInBounds, List.count_set (by simpa using hi)]
  have hm : 0 < listed.toList.count false := List.count_pos_iff.2 (he ▸ List.getElem_mem _)
  simp only [he]
  have e1 : (if false == false then 1 else 0) = 1 := rfl
  have e2 : (if true == false then 1 else 0) = 0 := rfl
  rw [e1, e2]
  omega
theorem all_listed {listed : Array Bool} (ht : topoB md ops = true) (hr : Region.ready md ops listed = []) (hs : listed.size = ops.size) : ∀ n i, i < n → i < ops.size → listed.getD i false = true := by
  intro n
  induction n with
  | zero => intro i h; omega
  | succ n ih =>
    intro i hi hlt
    cases hl : listed.getD i false with
    | true => rfl
    | false =>
      exfalso
      have h1 := List.all_eq_true.1 ht i (List.mem_range.2 hlt)
      have ho : ops[i]? = some ops[i] := by simp [hlt]
      rw [ho] at h1
      simp only [Option.map_some, Option.getD_some, Array.all_eq_true_iff_forall_mem, Bool.or_eq_true, Bool.not_eq_true', decide_eq_true_eq] at h1
      have : i ∈ Region.ready md ops listed := mem_ready.2 ⟨by rw [Array.getD, dif_pos (by omega)] at hl ⊢; exact hl, ops[i], ho, fun e he hb => ih _ (by
        rcases h1 e he with h2 | h2
        · rw [hb] at h2; cases h2
        · omega) (by
        rcases h1 e he with h2 | h2
        · rw [hb] at h2; cases h2
        · omega)⟩
      rw [hr] at this
      cases this
theorem wpAny_inv (ht : topoB md ops = true)
    (hstep : ∀ (i : Nat) (o : Oper) (L : Nat → Bool) (a : Act) (w : World), ops[i]? = some o → L i = false → deps md o L → I L a w → wpOp P ops Q i (I (upd L i)) a w)
    (hend : ∀ (L : Nat → Bool) (a : Act) (w : World), (∀ i, i < ops.size → L i = true) → I L a w → Q .normal a w) :
    ∀ (fuel : Nat) (listed : Array Bool) (a : Act) (w : World), listed.size = ops.size → listed.toList.count false ≤ fuel → I (fun j => listed.getD j false) a w → wpAny P md ops Q fuel listed a w := by
  intro fuel
  induction fuel with
  | zero =>
    intro listed a w hs hc hI
    have hall : ∀ i, i < ops.size → listed.getD i false = true := fun i hi => by
      cases hl : listed.getD i false with
      | true => rfl
      | false =>
        have hm : false ∈ listed.toList := by
          rw [Array.getD, dif_pos (by omega)] at hl
          exact hl ▸ by simp
        have := List.count_pos_iff.2 hm
        omega
    refine ⟨?_, hend _ _ _ hall hI⟩
    cases hr : Region.ready md ops listed with
    | nil => rfl
    | cons j js =>
      have hj : j ∈ Region.ready md ops listed := by rw [hr]; simp
      obtain ⟨h1, o, ho, _⟩ := mem_ready.1 hj
      have := hall j (Array.getElem?_eq_some_iff.1 ho).1
      rw [Array.getD, dif_pos (by have := (Array.getElem?_eq_some_iff.1 ho).1; omega)] at this h1
      rw [this] at h1
      cases h1
  | succ fuel ih =>
    intro listed a w hs hc hI
    refine ⟨fun hr => hend _ _ _ (fun i hi => all_listed ht hr hs (i + 1) i (by omega) hi) hI, fun i hi => ?_⟩
    obtain ⟨h1, o, ho, hd⟩ := mem_ready.1 hi
    have hlt : i < listed.size := by rw [hs]; exact (Array.getElem?_eq_some_iff.1 ho).1
    have h1' : listed.getD i false = false := by rw [Array.getD, dif_pos hlt] at h1 ⊢; exact h1
    refine wpOp_mono (fun a' w' hI' => ih _ _ _ (by simp [hs]) (by have := count_set h1; omega) ?_) (hstep i o (fun j => listed.getD j false) a w ho h1' hd hI)
    have : (fun j => (listed.setIfInBounds i true).getD j false) = upd (fun j => listed.getD j false) i := by
      funext j
      unfold upd
      by_cases hj : i = j
      · subst hj
        simp [Array.getD, hlt]
      · rw [getD_set_ne false hj]
        simp [Ne.symm hj]
    rw [this]
    exact hI'
/-- the steps of a list of operations, from number k on -/
def stepsI (P : Program) (ops : Array Oper) (md : Region.Mode) (Q : Exit → Act → World → Prop) (I : (Nat → Bool) → Act → World → Prop) : Nat → List Oper → Prop
  | _, [] => True
  | k, o :: rest => (∀ (L : Nat → Bool) (a : Act) (w : World), L k = false → deps md o L → I L a w → wpList P ops (endAt Q (I (upd L k))) [o] a w) ∧ stepsI P ops md Q I (k + 1) rest
theorem stepsI_at : ∀ (l : List Oper) (k i : Nat) (o : Oper), stepsI P ops md Q I k l → l[i]? = some o →
    ∀ (L : Nat → Bool) (a : Act) (w : World), L (k + i) = false → deps md o L → I L a w → wpList P ops (endAt Q (I (upd L (k + i)))) [o] a w
  | [], k, i, o, _, h => by simp at h
  | o' :: rest, k, 0, o, hs, h => by
    simp at h
    subst h
    exact hs.1
  | o' :: rest, k, i + 1, o, hs, h => by
    have := stepsI_at rest (k + 1) i o hs.2 (by simpa using h)
    rw [show k + (i + 1) = k + 1 + i by omega]
    exact this
end
/-- A REGION THAT DRAWS ITS ORDER, by an invariant: I says what holds when the operations of L have been done. -/
theorem wp_region_inv {P : Program} {id : Nat} {Q : Exit → Act → World → Prop} {a : Act} {w : World} {l : List Oper} (I : (Nat → Bool) → Act → World → Prop)
    (hm : P.follows .mixedOrders = true) (ht : topoB .any l.toArray = true)
    (h0 : I (fun _ => false) a { w with drawn := w.drawn + 1 })
    (hs : stepsI P l.toArray .any Q I 0 l)
    (hend : ∀ (L : Nat → Bool) (a : Act) (w : World), (∀ i, i < l.length → L i = true) → I L a w → Q .normal a w) : (Code.region id l.toArray true).wp P Q a w := by
  refine wp_region_any hm ?_
  refine wpAny_inv (I := I) ht (fun i o L a w ho hL hd hI => ?_) (fun L a w h => hend L a w (fun i hi => h i (by simpa using hi))) _ _ _ _ (by simp) ?_ ?_
  · have := stepsI_at l 0 i o hs (by simpa using ho) L a w (by simpa using hL) hd hI
    rw [Nat.zero_add] at this
    exact wpOp_of_list ho this
  · simp
  · have : (fun j => (Array.replicate l.toArray.size false).getD j false) = fun _ => false := by
      funext j
      simp [Array.getD]
    rw [this]
    exact h0
/-- some slots of a frame anew -/
def putL (a : Act) : List (Nat × Value) → Act
  | [] => a
  | (s, v) :: r => putL { a with tmps := a.tmps.setIfInBounds s v } r
theorem put_self (a : Act) (s : Nat) : ({ a with tmps := a.tmps.setIfInBounds s (a.tmps.getD s undef) } : Act) = a := by
  have : a.tmps.setIfInBounds s (a.tmps.getD s undef) = a.tmps := by
    apply Array.ext
    · simp
    · intro i h1 h2
      by_cases h : s = i
      · subst h; simp [Array.getD, h2]
      · simpa using Array.getElem_setIfInBounds_ne h2 h
  rw [this]
theorem putL_self (a : Act) : ∀ S : List Nat, a = putL a (S.map fun s => (s, a.tmps.getD s undef))
  | [] => rfl
  | s :: r => by
    rw [List.map_cons, putL, put_self]
    exact putL_self a r
theorem wp_frame {P : Program} {c : Code} {Q : Exit → Act → World → Prop} {a : Act} {W : World} (h : ∀ a0, a = a0 → Code.wp P c Q a0 W) : Code.wp P c Q a W := h _ rfl
end Go.Proofs.Ytacdagdhkmcbiaa.base
