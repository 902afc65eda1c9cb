/-
  Programs, in plain lists of kinds: the parser of the program (by parts) and the stack of the reference accept the same.
  No condition.
-/
namespace Go.Proofs.Ytacdagdhkmcbiaa
/-- the parts up to a statement of a kind: what is left behind it; none: a part is left open, or closed though it is not open -/
def pu : Nat → List Int → Int → Nat → Option (List Int)
  | 0, _, _, _ => none
  | _ + 1, [], _, _ => none
  | n + 1, k :: ks, kind, deep =>
    if k = kind then some ks
    else if k = 5 ∨ k = 7 ∨ k = 8 then none
    else if k = 4 then (if 3 ≤ deep then none else (pu n ks 5 (deep + 1)).bind fun r => pu n r kind deep)
    else if k = 6 then (if 3 ≤ deep then none else ((pu n ks 7 (deep + 1)).bind fun r => pu n r 8 (deep + 1)).bind fun r => pu n r kind deep)
    else pu n ks kind deep
/-- one statement on the stack of open parts -/
def push1 (st : List Int) (k : Int) : Option (List Int) :=
  if k = 4 ∨ k = 6 then (if 3 ≤ st.length then none else some (k :: st))
  else if k = 5 then (match st with | s :: t => if s = 4 then some t else none | [] => none)
  else if k = 7 then (match st with | s :: t => if s = 6 then some (7 :: t) else none | [] => none)
  else if k = 8 then (match st with | s :: t => if s = 7 then some t else none | [] => none)
  else some st
def runP : List Int → List Int → Option (List Int)
  | st, [] => some st
  | st, k :: ks => (push1 st k).bind fun s => runP s ks
def acc (st ks : List Int) : Prop := runP st ks = some []
/-- the statement that closes what is open, or goes on with it -/
def closer : List Int → Int
  | [] => -1
  | s :: _ => if s = 4 then 5 else if s = 6 then 7 else 8
def nextSt : List Int → List Int
  | [] => []
  | s :: t => if s = 6 then 7 :: t else t
def kindOk (k : Int) : Prop := 0 ≤ k ∧ k ≤ 8
def stOk (st : List Int) : Prop := st.length ≤ 3 ∧ ∀ s ∈ st, s = 4 ∨ s = 6 ∨ s = 7
theorem acc_cons {st ks : List Int} {k : Int} {s : List Int} (h : push1 st k = some s) : acc st (k :: ks) ↔ acc s ks := by
  unfold acc; rw [runP, h]; rfl
theorem acc_none {st ks : List Int} {k : Int} (h : push1 st k = none) : ¬ acc st (k :: ks) := by
  unfold acc; rw [runP, h]; simp
/-- what the parser says of the parts that are open -/
def Says (st ks : List Int) (r : Option (List Int)) : Prop :=
  match st with
  | [] => (r = none → ¬ acc [] ks) ∧ ∀ l, r = some l → acc [] ks ∧ l = []
  | s :: t => (r = none → ¬ acc (s :: t) ks) ∧ ∀ l, r = some l → ∃ ks', l = ks' ++ [-1] ∧ ks'.length < ks.length ∧ (∀ k ∈ ks', kindOk k) ∧ (acc (s :: t) ks ↔ acc (nextSt (s :: t)) ks')
theorem Says.none_of {st ks : List Int} (h : ¬ acc st ks) : Says st ks none := by
  cases st with
  | nil => exact ⟨fun _ => h, fun l e => by cases e⟩
  | cons s t => exact ⟨fun _ => h, fun l e => by cases e⟩
/-- the same sayings of a longer list -/
theorem Says.longer {st ks ks2 : List Int} {r : Option (List Int)} (h : Says st ks r) (hl : ks.length ≤ ks2.length) (hq : acc st ks2 ↔ acc st ks) : Says st ks2 r := by
  cases st with
  | nil => exact ⟨fun e => fun h2 => h.1 e (hq.1 h2), fun l e => ⟨hq.2 (h.2 l e).1, (h.2 l e).2⟩⟩
  | cons s t =>
    refine ⟨fun e => fun h2 => h.1 e (hq.1 h2), fun l e => ?_⟩
    obtain ⟨ks', h1, h2, h3, h4⟩ := h.2 l e
    exact ⟨ks', h1, by omega, h3, hq.trans h4⟩
theorem pu_says : ∀ (n : Nat) (ks st : List Int), ks.length < n → (∀ k ∈ ks, kindOk k) → stOk st → Says st ks (pu n (ks ++ [-1]) (closer st) st.length)
  | 0, ks, st, h, _, _ => absurd h (by omega)
  | n + 1, [], st, h, hk, hs => by
    have e : pu (n + 1) ([] ++ [-1]) (closer st) st.length = if -1 = closer st then some [] else pu n [] (closer st) st.length := by
      rw [List.nil_append, pu]
      by_cases h1 : -1 = closer st
      · rw [if_pos h1, if_pos h1]
      · rw [if_neg h1, if_neg h1, if_neg (by omega), if_neg (by omega), if_neg (by omega)]
    have e2 : ∀ c d, pu n [] c d = none := by intro c d; cases n <;> rfl
    rw [e]
    cases st with
    | nil => rw [if_pos (show (-1 : Int) = closer [] from rfl)]; exact ⟨fun e => (by cases e), fun l e => ⟨rfl, by simpa using e.symm⟩⟩
    | cons s t =>
      have h1 : ¬ -1 = closer (s :: t) := by
        show ¬ (-1 : Int) = if s = 4 then 5 else if s = 6 then 7 else 8
        split; (· omega); split <;> omega
      rw [if_neg h1, e2]
      exact Says.none_of (by unfold acc; simp [runP])
  | n + 1, k :: ks, st, h, hk, hs => by
    have hkk := hk k (by simp)
    have hkt : ∀ k ∈ ks, kindOk k := fun k h => hk k (List.mem_cons_of_mem _ h)
    have hl : ks.length < n := by simpa using h
    have hkk2 := hkk
    unfold kindOk at hkk2
    obtain ⟨hs1, hs2⟩ := hs
    rw [List.cons_append, pu]
    by_cases hc : k = closer st
    · rw [if_pos hc]
      cases st with
      | nil => have hc2 : k = -1 := hc; omega
      | cons s t =>
        have hss := hs2 s (by simp)
        have hp : push1 (s :: t) k = some (nextSt (s :: t)) := by
          unfold closer at hc
          rcases hss with rfl | rfl | rfl <;> simp at hc <;> subst hc <;> simp [push1, nextSt]
        exact ⟨fun e => (by cases e), fun l e => ⟨ks, by simpa using e.symm, by simp, hkt, acc_cons hp⟩⟩
    · rw [if_neg hc]
      by_cases h578 : k = 5 ∨ k = 7 ∨ k = 8
      · rw [if_pos h578]
        refine Says.none_of (acc_none ?_)
        cases st with
        | nil => rcases h578 with rfl | rfl | rfl <;> simp [push1]
        | cons s t =>
          have hss := hs2 s (by simp)
          unfold closer at hc
          rcases hss with rfl | rfl | rfl <;> rcases h578 with rfl | rfl | rfl <;> simp at hc <;> simp [push1]
      · rw [if_neg h578]
        by_cases h4 : k = 4
        · subst h4
          rw [if_pos rfl]
          by_cases hd : 3 ≤ st.length
          · rw [if_pos hd]
            exact Says.none_of (acc_none (by simp [push1, hd]))
          · rw [if_neg hd]
            have hp : push1 st 4 = some (4 :: st) := by simp [push1, hd]
            have ih := pu_says n ks (4 :: st) hl hkt ⟨by simp; omega, fun s h => by rcases List.mem_cons.1 h with rfl | h; (· exact .inl rfl); exact hs2 s h⟩
            have hc5 : closer (4 :: st) = 5 := rfl
            rw [hc5, List.length_cons] at ih
            cases hr : pu n (ks ++ [-1]) 5 (st.length + 1) with
            | none =>
              rw [hr] at ih
              exact Says.none_of (fun h2 => ih.1 rfl ((acc_cons hp).1 h2))
            | some r =>
              rw [hr] at ih
              obtain ⟨ks', rfl, hl', hk', hq⟩ := ih.2 r rfl
              have ih2 := pu_says n ks' st (by omega) hk' ⟨hs1, hs2⟩
              exact ih2.longer (by simp; omega) ((acc_cons hp).trans hq)
        · rw [if_neg h4]
          by_cases h6 : k = 6
          · subst h6
            rw [if_pos rfl]
            by_cases hd : 3 ≤ st.length
            · rw [if_pos hd]
              exact Says.none_of (acc_none (by simp [push1, hd]))
            · rw [if_neg hd]
              have hp : push1 st 6 = some (6 :: st) := by simp [push1, hd]
              have ih := pu_says n ks (6 :: st) hl hkt ⟨by simp; omega, fun s h => by rcases List.mem_cons.1 h with rfl | h; (· exact .inr (.inl rfl)); exact hs2 s h⟩
              have hc7 : closer (6 :: st) = 7 := rfl
              rw [hc7, List.length_cons] at ih
              cases hr : pu n (ks ++ [-1]) 7 (st.length + 1) with
              | none =>
                rw [hr] at ih
                exact Says.none_of (fun h2 => ih.1 rfl ((acc_cons hp).1 h2))
              | some r =>
                rw [hr] at ih
                obtain ⟨ks', rfl, hl', hk', hq⟩ := ih.2 r rfl
                have ih2 := pu_says n ks' (7 :: st) (by omega) hk' ⟨by simp; omega, fun s h => by rcases List.mem_cons.1 h with rfl | h; (· exact .inr (.inr rfl)); exact hs2 s h⟩
                have hc8 : closer (7 :: st) = 8 := rfl
                rw [hc8, List.length_cons] at ih2
                have hq2 : acc st (6 :: ks) ↔ acc (7 :: st) ks' := (acc_cons hp).trans hq
                show Says st (6 :: ks) (Option.bind (pu n (ks' ++ [-1]) 8 (st.length + 1)) fun r => pu n r (closer st) st.length)
                cases hr2 : pu n (ks' ++ [-1]) 8 (st.length + 1) with
                | none =>
                  rw [hr2] at ih2
                  exact Says.none_of (fun h2 => ih2.1 rfl (hq2.1 h2))
                | some r2 =>
                  rw [hr2] at ih2
                  obtain ⟨ks'', rfl, hl'', hk'', hq3⟩ := ih2.2 r2 rfl
                  have ih3 := pu_says n ks'' st (by omega) hk'' ⟨hs1, hs2⟩
                  exact ih3.longer (by simp; omega) (hq2.trans hq3)
          · rw [if_neg h6]
            have hp : push1 st k = some st := by
              unfold push1
              rw [if_neg (by omega), if_neg (by omega), if_neg (by omega), if_neg (by omega)]
            exact (pu_says n ks st hl hkt ⟨hs1, hs2⟩).longer (by simp) (acc_cons hp)
/-- the parser accepts what the stack accepts -/
def parsed (ks : List Int) : Bool := (pu (ks.length + 1) (ks ++ [-1]) (-1) 0).isSome
def stacked (ks : List Int) : Bool := runP [] ks == some []
theorem parsed_eq {ks : List Int} (hk : ∀ k ∈ ks, kindOk k) : parsed ks = stacked ks := by
  have h := pu_says (ks.length + 1) ks [] (by omega) hk ⟨by simp, by simp⟩
  have hc : closer [] = -1 := rfl
  rw [hc, List.length_nil] at h
  rw [Bool.eq_iff_iff]
  unfold parsed stacked
  rw [beq_iff_eq]
  cases hr : pu (ks.length + 1) (ks ++ [-1]) (-1) 0 with
  | none =>
    rw [hr] at h
    have := h.1 rfl
    unfold acc at this
    simp [this]
  | some l =>
    rw [hr] at h
    have := (h.2 l rfl).1
    unfold acc at this
    simp [this]
/-! ### programs behind each other -/
theorem runP_append : ∀ (ks ls st : List Int), runP st (ks ++ ls) = (runP st ks).bind fun s => runP s ls
  | [], ls, st => rfl
  | k :: ks, ls, st => by
    rw [List.cons_append, runP, runP]
    cases push1 st k with
    | none => rfl
    | some s => exact runP_append ks ls s
theorem stacked_twice {ks : List Int} (h : stacked ks = true) : stacked (ks ++ ks) = true := by
  unfold stacked at *
  rw [beq_iff_eq] at h
  rw [runP_append, h]
  show (runP [] ks == some []) = true
  rw [h]; rfl
theorem stacked_end {ks : List Int} (h : stacked ks = true) : stacked (ks ++ [5]) = false := by
  unfold stacked at *
  rw [beq_iff_eq] at h
  rw [runP_append, h]
  rfl
end Go.Proofs.Ytacdagdhkmcbiaa
