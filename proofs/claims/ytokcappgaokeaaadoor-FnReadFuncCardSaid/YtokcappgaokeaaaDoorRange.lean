/-
  A range over a function whose iterator turns a box of its own between two rounds (strings.SplitSeq).
  No condition.
-/
import Derived.RangeFuncBox
import Derived.RangeFuncWrites
import Derived.RangeFuncLeaves
import Derived.Shelf.Abstract
import Derived.WalkKit
import Derived.OwnWalkIn
import Derived.TacticsInMore
import Derived.LoopNIn
import Derived.LoopIn
import Derived.Maps.AppendAt
import Derived.Test.YtokcappgaokeaaaDoorCut
namespace Go.Proofs.YtokcappgaokeaaaDoor
open Go.RowKit Go.Sort base
/-- the loop's record, and the block for its deferred calls ahead of it -/
def Rec (D : Nat) (r : Loop) (W : World) : Prop := W.heap[D + 1]? = some (.loop r) ∧ W.heap[D]? = some (.deferred (some []))
theorem Rec.lt {D : Nat} {r : Loop} {W : World} (h : Rec D r W) : D + 1 < W.heap.size := (Array.getElem?_eq_some_iff.1 h.1).1
theorem Rec.set {D : Nat} {r : Loop} {W : World} (h : Rec D r W) {b : Nat} (hb : b < D) (v : Value) : Rec D r (W.setCell ⟨b, 0, none⟩ v) :=
  ⟨(Below.heap_setCell _ _ _ _ (show D + 1 ≠ b by omega)).trans h.1, (Below.heap_setCell _ _ _ _ (show D ≠ b by omega)).trans h.2⟩
theorem Rec.turn {D : Nat} {r : Loop} {W : World} (h : Rec D r W) (r' : Loop) : Rec D r' (W.putObj (D + 1) (.loop r')) :=
  ⟨World.putObj_heap_same h.lt, (World.putObj_heap_other (by omega)).trans h.2⟩
theorem Rec.keep {D : Nat} {r : Loop} {W W' : World} (h : Rec D r W) (hk : KeepsFrom D W W') : Rec D r W' :=
  ⟨hk.same _ _ (by omega) h.1 rfl, hk.same _ _ (Nat.le_refl _) h.2 rfl⟩
/-- the contract of an iterator that turns cell Bs between two rounds -/
def SeqCut {α : Type} (F : Fence) (n : Nat) (P : Program) (g : Nat) (lb : Array Value) (encs : α → Array Value) (Bs : Nat) (Kp : World → World → Prop) (S Sp : List α → Prop) (w : World) : Prop :=
  ∀ (l : Nat) (J Jx : List α → World → Prop) (W : World), (∀ b, b < w.heap.size → W.heap[b]? = w.heap[b]?) →
    (∀ s X v, J s X → J s (X.setCell ⟨Bs, 0, none⟩ v)) →
    (∀ pre x X, J pre X → Sp (pre ++ [x]) → YieldAt F (n - 1) P l (encs x) X fun e Y =>
      (e = .returned (.bool true) ∧ J (pre ++ [x]) Y ∧ Kp X Y) ∨ (e = .returned (.bool false) ∧ Jx (pre ++ [x]) Y)) →
    J [] W → CallsIn F n P g (#[.func (.yield l) #[] #[]] ++ lb) W fun e Y => (∃ v, e = .returned v) ∧ ((∃ xs, S xs ∧ J xs Y) ∨ (∃ pre, Sp pre ∧ Jx pre Y))
theorem range_cut {F : Fence} {n : Nat} {P : Program} {α : Type} {g : Operand} {ps : Array Tmp} {assign body : Code} {Q : Exit → Act → World → Prop} {a : Act} {w : World}
    (hro : F.round = none) (h1 : 1 ≤ n) {gf : Nat} {lb : Array Value} (hg : a.eval g = .func (.func gf) #[] lb) (hFg : F.fn gf) (eg : ∀ args w, (callFunc gf args).run P w = .ok (.enter gf args) w)
    {encs : α → Array Value} {Bs : Nat} {Kp : World → World → Prop} {S Sp : List α → Prop} (hseq : SeqCut F (n - 1) P gf lb encs Bs Kp S Sp w) (hBs : Bs < w.heap.size)
    (hKt : ∀ {A B C : World}, Kp A B → Kp B C → Kp A C) (hKb : ∀ (W : World) (l : Nat) (o o' : Obj), w.heap.size ≤ l → W.heap[l]? = some o → o.isCells = false → Kp W (W.putObj l o')) (hps : ∀ x, (encs x).size = ps.size)
    (I : List α → World → Prop) (Ix : Code → List α → World → Prop) (hI : OwnFrom w.heap.size I) (hIx : ∀ c, OwnFrom w.heap.size (Ix c)) (hIs : ∀ s X v, I s X → I s (X.setCell ⟨Bs, 0, none⟩ v)) (h0 : I [] w) (a₁ : α → Act)
    (hassign : ∀ (l : Nat) (x : α) (W : World) (K : Act → World → Prop), K (a₁ x) W →
      assign.wpIn (F.inRound l) (n - 1 - 1) P (Exit.then K (fun _ _ _ => False)) { tmps := (ps.zip (encs x)).foldl (fun t (p, v) => t.setIfInBounds p v) a.tmps, defers := [] } W)
    (hbody : ∀ (l : Nat) (pre : List α) (x : α) (W : World), I pre W → Sp (pre ++ [x]) → body.wpIn (F.inRound l) (n - 1 - 1) P (ownPostG w.heap.size Kp I Ix (pre ++ [x]) W) (a₁ x) W)
    (hdone : ∀ (xs : List α) (W : World), S xs → I xs W → W.heap[w.heap.size]? = some (.deferred (some [])) → Q .normal { a with defers := { target := .collected w.heap.size, args := #[] } :: a.defers } W)
    (hstop : ∀ (c : Code) (pre : List α) (W : World), Sp pre → Ix c pre W → W.heap[w.heap.size]? = some (.deferred (some [])) → c.wpIn F n P Q { a with defers := { target := .collected w.heap.size, args := #[] } :: a.defers } W) :
    (Code.rangeFunc g ps assign body).wpIn F n P Q a w := by
  refine wpIn_rangeFunc fun fn hfn => ?_
  rw [hro]
  generalize hD : w.heap.size = D at *
  let rc : LoopState → Option Code → Loop := fun st pe => { state := st, pending := pe, fn := fn, tmps := a.tmps, params := ps, assign := assign, body := body, defers := D }
  let W1 : World := (w.alloc (.deferred (some []))).alloc (.loop (rc .ready none))
  have hnew : Rec D (rc .ready none) W1 := by
    constructor
    · have := World.alloc_heap_new (w.alloc (.deferred (some []))) (.loop (rc .ready none))
      rw [World.size_alloc, hD] at this
      exact this
    · have := World.alloc_heap_new w (.deferred (some []))
      rw [hD] at this
      exact (Below.heap_alloc _ _ _ (by simp; omega)).trans this
  have hold : ∀ b, b < w.heap.size → W1.heap[b]? = w.heap[b]? := fun b hb =>
    (Below.heap_alloc _ _ _ (by simp; omega)).trans (Below.heap_alloc _ _ _ hb)
  have hI1 : I [] W1 := hI.alloc _ (hI.alloc _ h0)
  have hent := run_enterLoop_outer (P := P) (w := w) fn a.tmps ps assign body
  rw [hD] at hent
  refine ⟨D + 1, [{ target := .collected D, args := #[] }], W1, { target := .fn (.func gf) lb, args := #[.func (.yield (D + 1)) #[] #[]] }, W1, gf, #[.func (.yield (D + 1)) #[] #[]] ++ lb, W1, hent, ?_, ?_, ?_, fun _ => h1, ?_⟩
  · simp only [resolve, hg]
    simp [go_sem]
  · intro f' hf'
    simp [Target.leads] at hf'
    exact hf' ▸ hFg
  · simp [invoke, go_sem, eg]
  refine (hseq (D + 1) (fun pre W => I pre W ∧ Rec D (rc .ready none) W) (fun pre W => ∃ c, Ix c pre W ∧ Rec D (rc .done (some c)) W) W1 hold
    (fun s X v hs => ⟨hIs s X v hs.1, hs.2.set hBs v⟩) ?_ ⟨hI1, hnew⟩).mono ?_
  · rintro pre x X ⟨hi, hr⟩ hsp
    refine ⟨fn, _, assign, body, run_yield (P := P) (args := encs x) hr.1 (hps x), roundIn_of_wpIn hfn (hassign _ x X _ ⟨_, run_beginRound hr.1 rfl, ?_⟩)⟩
    have hb := hr.turn { rc .ready none with state := .busy }
    refine wpIn_mono (hbody _ pre x _ (hI.putObj _ hi (by omega) hr.1 rfl) hsp) ?_
    rintro e a3 Y hp
    have stop : ∀ c, KeepsFrom D (X.putObj (D + 1) (.loop { rc .ready none with state := .busy })) Y → Ix c (pre ++ [x]) Y →
        ∃ v w', (Instr.endRound (D + 1) (some c)).run P Y = .ok v w' ∧ ((Ending.returned v = .returned (.bool true) ∧ (I (pre ++ [x]) w' ∧ Rec D (rc .ready none) w') ∧ Kp X w') ∨ (Ending.returned v = .returned (.bool false) ∧ ∃ c', Ix c' (pre ++ [x]) w' ∧ Rec D (rc .done (some c')) w')) := fun c hk hx => by
      have h3 := hb.keep hk
      exact ⟨_, _, run_endRound (some c) h3.1, .inr ⟨rfl, c, (hIx c).putObj _ hx (by omega) h3.1 rfl, h3.turn _⟩⟩
    cases e with
    | normal =>
      obtain ⟨hk, hkp, hi3⟩ := hp
      have h3 := hb.keep hk
      exact ⟨_, _, run_endRound none h3.1, .inl ⟨rfl, ⟨hI.putObj _ hi3 (by omega) h3.1 rfl, h3.turn _⟩, hKt (hKt (hKb _ _ _ _ (by omega) hr.1 rfl) hkp) (hKb _ _ _ _ (by omega) h3.1 rfl)⟩⟩
    | ret => exact stop _ hp.1 hp.2
    | exit id => exact stop _ hp.1 hp.2
    | goto t => exact stop _ hp.1 hp.2
    | panic ch => exact hp.elim
    | outgrown => exact hp.elim
  · rintro e Y ⟨⟨v, rfl⟩, (⟨xs, hS, hi, hr⟩ | ⟨pre, hSp, c, hi, hr⟩)⟩
    · exact ⟨none, _, run_endLoop hr.1 (by simp [rc]), hdone xs _ hS (hI.putObj _ hi (by omega) hr.1 rfl) (hr.turn _).2⟩
    · exact ⟨some c, _, run_endLoop hr.1 (by simp [rc]), hstop c pre _ hSp ((hIx c).putObj _ hi (by omega) hr.1 rfl) (hr.turn _).2⟩
end Go.Proofs.YtokcappgaokeaaaDoor
