/-
  Tables: TableValid of the program and of the reference; slices of truths that a call makes.
  No condition.
-/
import Derived.Test.YtlaidoomjnhlaaaHas
namespace Go.Proofs.Ytlaidoomjnhlaaa
open Go.RowKit Go.Sort base
/-! ### truths in a slice of the call's own -/
def nthB (bs : List Bool) (k : Nat) : Bool := bs.getD k false
def OwnB (w : World) (base : Nat) (v : Value) (bs : List Bool) : Prop := w.ownsRow base 4 1 v bs.length (bs.map Value.bool)
theorem bool_info : (Try.prog.info? 4).map (fun i => (i.zero, i.size, i.bytes)) = some (some (.bool false), 1, 1) := by kernel_rfl
theorem made_bools (n : Nat) : (madeCells (Value.bool false).cells n).toList = (List.replicate n false).map Value.bool := by
  show (madeCells #[Value.bool false] n).toList = _
  rw [toList_madeCells_one, List.map_replicate]
theorem wpList_make_bools {ops : Array Oper} {rest : List Oper} {o : Oper} {a : Act} {Q : Exit → Act → World → Prop} {w : World} (base n : Nat) (hg : o.guard = none) (l c : Operand) (hop : o.op = Op.makeSlice 45 l c)
    (L C : Int) (hl : a.eval l = .int .i64 L) (hc : a.eval c = .int .i64 C) (hL : L = (n : Int)) (hC : C = (n : Int)) (hn : n ≤ 8388608) (hb : base ≤ w.heap.size)
    (hK : ∀ w', OwnB w' base (.slice (some ⟨w.heap.size, 0, none⟩) n n) (List.replicate n false) → Below base w w' → w.grownBy w' none → wpList Try.prog ops Q rest (a.put o.dst (.slice (some ⟨w.heap.size, 0, none⟩) n n)) w') :
    wpList Try.prog ops Q (o :: rest) a w := by
  obtain ⟨i0, hi, hz0, hz1, hz2⟩ := info_parts bool_info
  refine wpList_make_full _ hg l c 45 hop base 4 i0 (.bool false) 1 Try.underlying45 hi hz0 hz1 _ _ _ _ n hl hc hL hC (by rw [hz2]; omega) (by unfold maxLen; omega) hb
    fun w' h1 h2 => hK w' ?_ ((Below.refl _ _).grown h2 hb (by simp)) h2
  rw [made_bools] at h1
  unfold OwnB
  rw [List.length_replicate]
  simpa using h1
theorem OwnB.kept {w w' : World} {base : Nat} {v : Value} {zs : List Bool} {row : Option Nat} (h : OwnB w base v zs) (hg : w.grownBy w' row) (hne : v.ownBlock = none ∨ v.ownBlock ≠ row) : OwnB w' base v zs :=
  World.ownsRow.kept h hg hne
theorem OwnB.below {w w' : World} {base : Nat} {v : Value} {zs : List Bool} (h : OwnB w base v zs) (hb : Below w.heap.size w w') : OwnB w' base v zs :=
  h.kept (row := none) ⟨hb.os, hb.tape, hb.output, hb.size, fun k hk _ => hb.block k hk⟩ (by cases v.ownBlock <;> simp)
theorem OwnB.lt {w : World} {base : Nat} {v : Value} {zs : List Bool} (h : OwnB w base v zs) : ∀ k, v.ownBlock = some k → base ≤ k ∧ k < w.heap.size := World.ownsRow.lt h
theorem OwnB.cellAt {w : World} {base g n c : Nat} {zs : List Bool} (h : OwnB w base (.slice (some ⟨g, 0, none⟩) n c) zs) (hn : zs.length = n) (j : Nat) (hj : j < n) : w.cell? ⟨g, j, none⟩ = some (.bool (nthB zs j)) := by
  subst hn
  rw [World.ownsRow.cellAt h j (by omega)]
  simp [nthB, hj]
theorem OwnB.frozenAt {w : World} {base g n c : Nat} {zs : List Bool} (h : OwnB w base (.slice (some ⟨g, 0, none⟩) n c) zs) (hn : zs.length = n) (j : Nat) : w.frozen? ⟨g, j, none⟩ = false := by
  subst hn
  exact World.ownsRow.frozenAt h j
theorem OwnB.stored {w : World} {base g n c : Nat} {zs : List Bool} (h : OwnB w base (.slice (some ⟨g, 0, none⟩) n c) zs) (hn : zs.length = n) (j : Nat) (z : Bool) :
    OwnB (w.setCell ⟨g, j, none⟩ (.bool z)) base (.slice (some ⟨g, 0, none⟩) n c) (zs.set j z) ∧ w.grownBy (w.setCell ⟨g, j, none⟩ (.bool z)) (some g) := by
  subst hn
  have := World.ownsRow.stored h j (.bool z)
  refine ⟨?_, this.2⟩
  unfold OwnB
  rw [List.length_set, List.map_set]
  exact this.1
/-- which words below n a list has -/
def hasL (n : Nat) (z : List Int) : List Bool := (List.range n).map fun j : Nat => hasQ z (j : Int)
theorem hasL_len (n : Nat) (z : List Int) : (hasL n z).length = n := by simp [hasL]
theorem hasL_nth {n j : Nat} (z : List Int) (h : j < n) : nthB (hasL n z) j = hasQ z (j : Int) := by simp [nthB, hasL, h]
theorem hasL_nil (n : Nat) : hasL n [] = List.replicate n false := by
  apply List.ext_getElem (by simp [hasL])
  intro i h1 h2
  simp [hasL, hasQ]
theorem hasL_snoc (n : Nat) (z : List Int) (j : Nat) : hasL n (z ++ [(j : Int)]) = (hasL n z).set j true := by
  apply List.ext_getElem (by simp [hasL])
  intro i h1 h2
  rw [List.getElem_set]
  simp only [hasL, List.getElem_map, List.getElem_range, hasQ_snoc]
  by_cases e : j = i
  · subst e; simp
  · rw [if_neg e]
    have : ((i : Int) == (j : Int)) = false := by simp; omega
    rw [this, Bool.or_false]
/-! ### tables -/
/-- the element k is a word of the list's own length, and none before it is the same -/
def goodAt (z : List Int) (k : Nat) : Bool := (decide (0 ≤ nth z k) && decide (nth z k ≤ (z.length : Int) - 1)) && !hasQ (z.take k) (nth z k)
def goodL (z : List Int) : Bool := (List.range z.length).all fun k => goodAt z k
def tableOk (l : Int) (z : List Int) : Bool := lnOk l && decide ((z.length : Int) = pw l) && goodL z
theorem goodL_iff {z : List Int} : goodL z = true ↔ ∀ k, k < z.length → goodAt z k = true := by simp [goodL]
theorem pw_pos_cases {l : Int} (h : lnOk l = true) : (l = 1 ∧ pw l = 2) ∨ (l = 2 ∧ pw l = 4) ∨ (l = 3 ∧ pw l = 8) ∨ (l = 4 ∧ pw l = 16) ∨ (l = 5 ∧ pw l = 32) ∨ (l = 6 ∧ pw l = 64) ∨ (l = 7 ∧ pw l = 128) ∨ (l = 8 ∧ pw l = 256) := by
  rcases lnOk_cases h with rfl | rfl | rfl | rfl | rfl | rfl | rfl | rfl <;> simp [pw]
set_option maxHeartbeats 1000000 in
theorem sTableValid_any (l : Int) (A : Option Addr) (n c : Nat) (z : List Int) (w : World) (h : IR w A n z) (hcap : n ≤ c) :
    Calls Try.prog 8 #[.int .i64 l, .slice A n c] w fun e w' => (e = .returned (.bool (tableOk l z))) ∧ ∃ q, w' = w.drewN q := by
  have H := hide h
  obtain ⟨hlen, hmax, hat⟩ := h
  cases hl : lnOk l
  · have HS := Lib.hid (show tableOk l z = false by simp [tableOk, hl])
    have hl' : (decide (1 ≤ l) && decide (l ≤ 8)) = false := hl
    clear hl
    go_enter Try.func8, Try.ntmps8
    go_wp2_with fail
    refine (l1In_b false _ _ _ hl' _).mono ?_
    rintro e w' ⟨rfl, rfl⟩
    go_wp2_with fail
    go_ret
    exact ⟨by rw [HS.out]; rfl, 0, rfl⟩
  · have hl' : (decide (1 ≤ l) && decide (l ≤ 8)) = true := hl
    by_cases hn : (n : Int) = pw l
    · have HS := Lib.hid (show tableOk l z = goodL z by simp [tableOk, hl, hlen, hn])
      have hln : (l = 1 ∧ ((n : Int) != 2) = false ∧ ((n : Int) == 2) = true) ∨ (l = 2 ∧ ((n : Int) != 4) = false ∧ ((n : Int) == 4) = true) ∨ (l = 3 ∧ ((n : Int) != 8) = false ∧ ((n : Int) == 8) = true) ∨ (l = 4 ∧ ((n : Int) != 16) = false ∧ ((n : Int) == 16) = true) ∨ (l = 5 ∧ ((n : Int) != 32) = false ∧ ((n : Int) == 32) = true) ∨ (l = 6 ∧ ((n : Int) != 64) = false ∧ ((n : Int) == 64) = true) ∨ (l = 7 ∧ ((n : Int) != 128) = false ∧ ((n : Int) == 128) = true) ∨ (l = 8 ∧ ((n : Int) != 256) = false ∧ ((n : Int) == 256) = true) := by
        rcases pw_pos_cases hl with ⟨h1, h2⟩ | ⟨h1, h2⟩ | ⟨h1, h2⟩ | ⟨h1, h2⟩ | ⟨h1, h2⟩ | ⟨h1, h2⟩ | ⟨h1, h2⟩ | ⟨h1, h2⟩ <;> simp <;> omega
      have hn256 : n ≤ 256 := by rcases pw_pos_cases hl with ⟨h1, h2⟩ | ⟨h1, h2⟩ | ⟨h1, h2⟩ | ⟨h1, h2⟩ | ⟨h1, h2⟩ | ⟨h1, h2⟩ | ⟨h1, h2⟩ | ⟨h1, h2⟩ <;> omega
      have HW := hide (show ∀ x : Int, wv l x = (decide (0 ≤ x) && decide (x ≤ (z.length : Int) - 1)) from fun x => by rw [wv, hl, hlen, hn]; rfl)
      have HL := Lib.hid hlen
      have hat' := hide hat
      clear hl hn hlen hat
      rcases hln with ⟨rfl, q1, q2⟩ | ⟨rfl, q1, q2⟩ | ⟨rfl, q1, q2⟩ | ⟨rfl, q1, q2⟩ | ⟨rfl, q1, q2⟩ | ⟨rfl, q1, q2⟩ | ⟨rfl, q1, q2⟩ | ⟨rfl, q1, q2⟩
      · clear hl'
        go_enter Try.func8, Try.ntmps8
        go_wp2_with fail
        refine (l1In_b true _ _ _ (by decide) _).mono ?_
        rintro e w' ⟨rfl, rfl⟩
        go_wp2_with fail
        go_loopw [5] (fun i wr => ∃ k : Nat, k ≤ n ∧ i = .int .i64 k ∧ Hid (∀ j, j < k → goodAt z j = true) ∧ Hid (∃ q, wr = w.drewN q)) (fun i _ => n - (intOf i).toNat)
        case atStart => exact ⟨0, by omega, rfl, fun j hj => absurd hj (by omega), ⟨0, rfl⟩⟩
        case round =>
          obtain ⟨k, hk, rfl, HG, HD⟩ := hrel
          have HR := hide (show IR wr A n z by obtain ⟨q, hq⟩ := HD.out; rw [hq]; exact H.out.drewN q)
          by_cases hlt : k < n
          · obtain ⟨b, o, rfl, hbl, hc⟩ := HR.out.at_ (by omega)
            have h1 := hc k hlt
            have hsl := fun wx => run_take b o n c k (by omega) wx
            clear hc
            cases hw1 : wv 1 (nth z k)
            · have HB := Lib.hid (show goodL z = false by
                cases hgg : goodL z
                · rfl
                · have := goodL_iff.1 hgg k (by rw [HL.out]; omega)
                  rw [goodAt, ← HW.out, hw1] at this; cases this)
              go_wp2_with fail
              go_quiet (first | (go_at_call 16; exact quiet_eq (sWordValid_b false _ _ hw1 _)))
              go_wp2_with fail
              go_ret
              exact ⟨by rw [HS.out, HB.out]; rfl, by obtain ⟨q, hq⟩ := HD.out; exact ⟨q + nq, by rw [hq, World.drewN_drewN]⟩⟩
            · cases hw2 : hasQ (z.take k) (nth z k)
              · have HB := Lib.hid (show goodAt z k = true by rw [goodAt, ← HW.out, hw1, hw2]; rfl)
                go_wp2_with fail
                go_quiet (first | (go_at_call 16; exact quiet_eq (sWordValid_b true _ _ hw1 _)) | (go_at_call 12; exact quiet_eq (l1Has_b false _ k c (z.take k) _ _ ((HR.out.drewN _).take (by omega)) hw2)))
                go_wp2_with fail
                go_roundw
                case rel =>
                  refine ⟨k + 1, by omega, by go_num, fun j hj => ?_, by obtain ⟨q, hq⟩ := HD.out; exact ⟨q + nq, by rw [hq, World.drewN_drewN]⟩⟩
                  rcases Nat.lt_or_ge j k with h | h
                  · exact HG.out j h
                  · obtain rfl : j = k := by omega
                    exact HB.out
                case measure => simp [intOf]; omega
              · have HB := Lib.hid (show goodL z = false by
                  cases hgg : goodL z
                  · rfl
                  · have := goodL_iff.1 hgg k (by rw [HL.out]; omega)
                    rw [goodAt, hw2, Bool.not_true, Bool.and_false] at this; cases this)
                go_wp2_with fail
                go_quiet (first | (go_at_call 16; exact quiet_eq (sWordValid_b true _ _ hw1 _)) | (go_at_call 12; exact quiet_eq (l1Has_b true _ k c (z.take k) _ _ ((HR.out.drewN _).take (by omega)) hw2)))
                go_wp2_with fail
                go_ret
                exact ⟨by rw [HS.out, HB.out]; rfl, by obtain ⟨q, hq⟩ := HD.out; exact ⟨q + nq, by rw [hq, World.drewN_drewN]⟩⟩
          · obtain rfl : k = n := by omega
            have HB := Lib.hid (show goodL z = true from goodL_iff.2 (by rw [HL.out]; exact HG.out))
            go_wp2_with fail
            go_ret
            exact ⟨by rw [HS.out, HB.out]; rfl, HD.out⟩
      · clear hl'
        go_enter Try.func8, Try.ntmps8
        go_wp2_with fail
        refine (l1In_b true _ _ _ (by decide) _).mono ?_
        rintro e w' ⟨rfl, rfl⟩
        go_wp2_with fail
        go_loopw [5] (fun i wr => ∃ k : Nat, k ≤ n ∧ i = .int .i64 k ∧ Hid (∀ j, j < k → goodAt z j = true) ∧ Hid (∃ q, wr = w.drewN q)) (fun i _ => n - (intOf i).toNat)
        case atStart => exact ⟨0, by omega, rfl, fun j hj => absurd hj (by omega), ⟨0, rfl⟩⟩
        case round =>
          obtain ⟨k, hk, rfl, HG, HD⟩ := hrel
          have HR := hide (show IR wr A n z by obtain ⟨q, hq⟩ := HD.out; rw [hq]; exact H.out.drewN q)
          by_cases hlt : k < n
          · obtain ⟨b, o, rfl, hbl, hc⟩ := HR.out.at_ (by omega)
            have h1 := hc k hlt
            have hsl := fun wx => run_take b o n c k (by omega) wx
            clear hc
            cases hw1 : wv 2 (nth z k)
            · have HB := Lib.hid (show goodL z = false by
                cases hgg : goodL z
                · rfl
                · have := goodL_iff.1 hgg k (by rw [HL.out]; omega)
                  rw [goodAt, ← HW.out, hw1] at this; cases this)
              go_wp2_with fail
              go_quiet (first | (go_at_call 16; exact quiet_eq (sWordValid_b false _ _ hw1 _)))
              go_wp2_with fail
              go_ret
              exact ⟨by rw [HS.out, HB.out]; rfl, by obtain ⟨q, hq⟩ := HD.out; exact ⟨q + nq, by rw [hq, World.drewN_drewN]⟩⟩
            · cases hw2 : hasQ (z.take k) (nth z k)
              · have HB := Lib.hid (show goodAt z k = true by rw [goodAt, ← HW.out, hw1, hw2]; rfl)
                go_wp2_with fail
                go_quiet (first | (go_at_call 16; exact quiet_eq (sWordValid_b true _ _ hw1 _)) | (go_at_call 12; exact quiet_eq (l1Has_b false _ k c (z.take k) _ _ ((HR.out.drewN _).take (by omega)) hw2)))
                go_wp2_with fail
                go_roundw
                case rel =>
                  refine ⟨k + 1, by omega, by go_num, fun j hj => ?_, by obtain ⟨q, hq⟩ := HD.out; exact ⟨q + nq, by rw [hq, World.drewN_drewN]⟩⟩
                  rcases Nat.lt_or_ge j k with h | h
                  · exact HG.out j h
                  · obtain rfl : j = k := by omega
                    exact HB.out
                case measure => simp [intOf]; omega
              · have HB := Lib.hid (show goodL z = false by
                  cases hgg : goodL z
                  · rfl
                  · have := goodL_iff.1 hgg k (by rw [HL.out]; omega)
                    rw [goodAt, hw2, Bool.not_true, Bool.and_false] at this; cases this)
                go_wp2_with fail
                go_quiet (first | (go_at_call 16; exact quiet_eq (sWordValid_b true _ _ hw1 _)) | (go_at_call 12; exact quiet_eq (l1Has_b true _ k c (z.take k) _ _ ((HR.out.drewN _).take (by omega)) hw2)))
                go_wp2_with fail
                go_ret
                exact ⟨by rw [HS.out, HB.out]; rfl, by obtain ⟨q, hq⟩ := HD.out; exact ⟨q + nq, by rw [hq, World.drewN_drewN]⟩⟩
          · obtain rfl : k = n := by omega
            have HB := Lib.hid (show goodL z = true from goodL_iff.2 (by rw [HL.out]; exact HG.out))
            go_wp2_with fail
            go_ret
            exact ⟨by rw [HS.out, HB.out]; rfl, HD.out⟩
      · clear hl'
        go_enter Try.func8, Try.ntmps8
        go_wp2_with fail
        refine (l1In_b true _ _ _ (by decide) _).mono ?_
        rintro e w' ⟨rfl, rfl⟩
        go_wp2_with fail
        go_loopw [5] (fun i wr => ∃ k : Nat, k ≤ n ∧ i = .int .i64 k ∧ Hid (∀ j, j < k → goodAt z j = true) ∧ Hid (∃ q, wr = w.drewN q)) (fun i _ => n - (intOf i).toNat)
        case atStart => exact ⟨0, by omega, rfl, fun j hj => absurd hj (by omega), ⟨0, rfl⟩⟩
        case round =>
          obtain ⟨k, hk, rfl, HG, HD⟩ := hrel
          have HR := hide (show IR wr A n z by obtain ⟨q, hq⟩ := HD.out; rw [hq]; exact H.out.drewN q)
          by_cases hlt : k < n
          · obtain ⟨b, o, rfl, hbl, hc⟩ := HR.out.at_ (by omega)
            have h1 := hc k hlt
            have hsl := fun wx => run_take b o n c k (by omega) wx
            clear hc
            cases hw1 : wv 3 (nth z k)
            · have HB := Lib.hid (show goodL z = false by
                cases hgg : goodL z
                · rfl
                · have := goodL_iff.1 hgg k (by rw [HL.out]; omega)
                  rw [goodAt, ← HW.out, hw1] at this; cases this)
              go_wp2_with fail
              go_quiet (first | (go_at_call 16; exact quiet_eq (sWordValid_b false _ _ hw1 _)))
              go_wp2_with fail
              go_ret
              exact ⟨by rw [HS.out, HB.out]; rfl, by obtain ⟨q, hq⟩ := HD.out; exact ⟨q + nq, by rw [hq, World.drewN_drewN]⟩⟩
            · cases hw2 : hasQ (z.take k) (nth z k)
              · have HB := Lib.hid (show goodAt z k = true by rw [goodAt, ← HW.out, hw1, hw2]; rfl)
                go_wp2_with fail
                go_quiet (first | (go_at_call 16; exact quiet_eq (sWordValid_b true _ _ hw1 _)) | (go_at_call 12; exact quiet_eq (l1Has_b false _ k c (z.take k) _ _ ((HR.out.drewN _).take (by omega)) hw2)))
                go_wp2_with fail
                go_roundw
                case rel =>
                  refine ⟨k + 1, by omega, by go_num, fun j hj => ?_, by obtain ⟨q, hq⟩ := HD.out; exact ⟨q + nq, by rw [hq, World.drewN_drewN]⟩⟩
                  rcases Nat.lt_or_ge j k with h | h
                  · exact HG.out j h
                  · obtain rfl : j = k := by omega
                    exact HB.out
                case measure => simp [intOf]; omega
              · have HB := Lib.hid (show goodL z = false by
                  cases hgg : goodL z
                  · rfl
                  · have := goodL_iff.1 hgg k (by rw [HL.out]; omega)
                    rw [goodAt, hw2, Bool.not_true, Bool.and_false] at this; cases this)
                go_wp2_with fail
                go_quiet (first | (go_at_call 16; exact quiet_eq (sWordValid_b true _ _ hw1 _)) | (go_at_call 12; exact quiet_eq (l1Has_b true _ k c (z.take k) _ _ ((HR.out.drewN _).take (by omega)) hw2)))
                go_wp2_with fail
                go_ret
                exact ⟨by rw [HS.out, HB.out]; rfl, by obtain ⟨q, hq⟩ := HD.out; exact ⟨q + nq, by rw [hq, World.drewN_drewN]⟩⟩
          · obtain rfl : k = n := by omega
            have HB := Lib.hid (show goodL z = true from goodL_iff.2 (by rw [HL.out]; exact HG.out))
            go_wp2_with fail
            go_ret
            exact ⟨by rw [HS.out, HB.out]; rfl, HD.out⟩
      · clear hl'
        go_enter Try.func8, Try.ntmps8
        go_wp2_with fail
        refine (l1In_b true _ _ _ (by decide) _).mono ?_
        rintro e w' ⟨rfl, rfl⟩
        go_wp2_with fail
        go_loopw [5] (fun i wr => ∃ k : Nat, k ≤ n ∧ i = .int .i64 k ∧ Hid (∀ j, j < k → goodAt z j = true) ∧ Hid (∃ q, wr = w.drewN q)) (fun i _ => n - (intOf i).toNat)
        case atStart => exact ⟨0, by omega, rfl, fun j hj => absurd hj (by omega), ⟨0, rfl⟩⟩
        case round =>
          obtain ⟨k, hk, rfl, HG, HD⟩ := hrel
          have HR := hide (show IR wr A n z by obtain ⟨q, hq⟩ := HD.out; rw [hq]; exact H.out.drewN q)
          by_cases hlt : k < n
          · obtain ⟨b, o, rfl, hbl, hc⟩ := HR.out.at_ (by omega)
            have h1 := hc k hlt
            have hsl := fun wx => run_take b o n c k (by omega) wx
            clear hc
            cases hw1 : wv 4 (nth z k)
            · have HB := Lib.hid (show goodL z = false by
                cases hgg : goodL z
                · rfl
                · have := goodL_iff.1 hgg k (by rw [HL.out]; omega)
                  rw [goodAt, ← HW.out, hw1] at this; cases this)
              go_wp2_with fail
              go_quiet (first | (go_at_call 16; exact quiet_eq (sWordValid_b false _ _ hw1 _)))
              go_wp2_with fail
              go_ret
              exact ⟨by rw [HS.out, HB.out]; rfl, by obtain ⟨q, hq⟩ := HD.out; exact ⟨q + nq, by rw [hq, World.drewN_drewN]⟩⟩
            · cases hw2 : hasQ (z.take k) (nth z k)
              · have HB := Lib.hid (show goodAt z k = true by rw [goodAt, ← HW.out, hw1, hw2]; rfl)
                go_wp2_with fail
                go_quiet (first | (go_at_call 16; exact quiet_eq (sWordValid_b true _ _ hw1 _)) | (go_at_call 12; exact quiet_eq (l1Has_b false _ k c (z.take k) _ _ ((HR.out.drewN _).take (by omega)) hw2)))
                go_wp2_with fail
                go_roundw
                case rel =>
                  refine ⟨k + 1, by omega, by go_num, fun j hj => ?_, by obtain ⟨q, hq⟩ := HD.out; exact ⟨q + nq, by rw [hq, World.drewN_drewN]⟩⟩
                  rcases Nat.lt_or_ge j k with h | h
                  · exact HG.out j h
                  · obtain rfl : j = k := by omega
                    exact HB.out
                case measure => simp [intOf]; omega
              · have HB := Lib.hid (show goodL z = false by
                  cases hgg : goodL z
                  · rfl
                  · have := goodL_iff.1 hgg k (by rw [HL.out]; omega)
                    rw [goodAt, hw2, Bool.not_true, Bool.and_false] at this; cases this)
                go_wp2_with fail
                go_quiet (first | (go_at_call 16; exact quiet_eq (sWordValid_b true _ _ hw1 _)) | (go_at_call 12; exact quiet_eq (l1Has_b true _ k c (z.take k) _ _ ((HR.out.drewN _).take (by omega)) hw2)))
                go_wp2_with fail
                go_ret
                exact ⟨by rw [HS.out, HB.out]; rfl, by obtain ⟨q, hq⟩ := HD.out; exact ⟨q + nq, by rw [hq, World.drewN_drewN]⟩⟩
          · obtain rfl : k = n := by omega
            have HB := Lib.hid (show goodL z = true from goodL_iff.2 (by rw [HL.out]; exact HG.out))
            go_wp2_with fail
            go_ret
            exact ⟨by rw [HS.out, HB.out]; rfl, HD.out⟩
      · clear hl'
        go_enter Try.func8, Try.ntmps8
        go_wp2_with fail
        refine (l1In_b true _ _ _ (by decide) _).mono ?_
        rintro e w' ⟨rfl, rfl⟩
        go_wp2_with fail
        go_loopw [5] (fun i wr => ∃ k : Nat, k ≤ n ∧ i = .int .i64 k ∧ Hid (∀ j, j < k → goodAt z j = true) ∧ Hid (∃ q, wr = w.drewN q)) (fun i _ => n - (intOf i).toNat)
        case atStart => exact ⟨0, by omega, rfl, fun j hj => absurd hj (by omega), ⟨0, rfl⟩⟩
        case round =>
          obtain ⟨k, hk, rfl, HG, HD⟩ := hrel
          have HR := hide (show IR wr A n z by obtain ⟨q, hq⟩ := HD.out; rw [hq]; exact H.out.drewN q)
          by_cases hlt : k < n
          · obtain ⟨b, o, rfl, hbl, hc⟩ := HR.out.at_ (by omega)
            have h1 := hc k hlt
            have hsl := fun wx => run_take b o n c k (by omega) wx
            clear hc
            cases hw1 : wv 5 (nth z k)
            · have HB := Lib.hid (show goodL z = false by
                cases hgg : goodL z
                · rfl
                · have := goodL_iff.1 hgg k (by rw [HL.out]; omega)
                  rw [goodAt, ← HW.out, hw1] at this; cases this)
              go_wp2_with fail
              go_quiet (first | (go_at_call 16; exact quiet_eq (sWordValid_b false _ _ hw1 _)))
              go_wp2_with fail
              go_ret
              exact ⟨by rw [HS.out, HB.out]; rfl, by obtain ⟨q, hq⟩ := HD.out; exact ⟨q + nq, by rw [hq, World.drewN_drewN]⟩⟩
            · cases hw2 : hasQ (z.take k) (nth z k)
              · have HB := Lib.hid (show goodAt z k = true by rw [goodAt, ← HW.out, hw1, hw2]; rfl)
                go_wp2_with fail
                go_quiet (first | (go_at_call 16; exact quiet_eq (sWordValid_b true _ _ hw1 _)) | (go_at_call 12; exact quiet_eq (l1Has_b false _ k c (z.take k) _ _ ((HR.out.drewN _).take (by omega)) hw2)))
                go_wp2_with fail
                go_roundw
                case rel =>
                  refine ⟨k + 1, by omega, by go_num, fun j hj => ?_, by obtain ⟨q, hq⟩ := HD.out; exact ⟨q + nq, by rw [hq, World.drewN_drewN]⟩⟩
                  rcases Nat.lt_or_ge j k with h | h
                  · exact HG.out j h
                  · obtain rfl : j = k := by omega
                    exact HB.out
                case measure => simp [intOf]; omega
              · have HB := Lib.hid (show goodL z = false by
                  cases hgg : goodL z
                  · rfl
                  · have := goodL_iff.1 hgg k (by rw [HL.out]; omega)
                    rw [goodAt, hw2, Bool.not_true, Bool.and_false] at this; cases this)
                go_wp2_with fail
                go_quiet (first | (go_at_call 16; exact quiet_eq (sWordValid_b true _ _ hw1 _)) | (go_at_call 12; exact quiet_eq (l1Has_b true _ k c (z.take k) _ _ ((HR.out.drewN _).take (by omega)) hw2)))
                go_wp2_with fail
                go_ret
                exact ⟨by rw [HS.out, HB.out]; rfl, by obtain ⟨q, hq⟩ := HD.out; exact ⟨q + nq, by rw [hq, World.drewN_drewN]⟩⟩
          · obtain rfl : k = n := by omega
            have HB := Lib.hid (show goodL z = true from goodL_iff.2 (by rw [HL.out]; exact HG.out))
            go_wp2_with fail
            go_ret
            exact ⟨by rw [HS.out, HB.out]; rfl, HD.out⟩
      · clear hl'
        go_enter Try.func8, Try.ntmps8
        go_wp2_with fail
        refine (l1In_b true _ _ _ (by decide) _).mono ?_
        rintro e w' ⟨rfl, rfl⟩
        go_wp2_with fail
        go_loopw [5] (fun i wr => ∃ k : Nat, k ≤ n ∧ i = .int .i64 k ∧ Hid (∀ j, j < k → goodAt z j = true) ∧ Hid (∃ q, wr = w.drewN q)) (fun i _ => n - (intOf i).toNat)
        case atStart => exact ⟨0, by omega, rfl, fun j hj => absurd hj (by omega), ⟨0, rfl⟩⟩
        case round =>
          obtain ⟨k, hk, rfl, HG, HD⟩ := hrel
          have HR := hide (show IR wr A n z by obtain ⟨q, hq⟩ := HD.out; rw [hq]; exact H.out.drewN q)
          by_cases hlt : k < n
          · obtain ⟨b, o, rfl, hbl, hc⟩ := HR.out.at_ (by omega)
            have h1 := hc k hlt
            have hsl := fun wx => run_take b o n c k (by omega) wx
            clear hc
            cases hw1 : wv 6 (nth z k)
            · have HB := Lib.hid (show goodL z = false by
                cases hgg : goodL z
                · rfl
                · have := goodL_iff.1 hgg k (by rw [HL.out]; omega)
                  rw [goodAt, ← HW.out, hw1] at this; cases this)
              go_wp2_with fail
              go_quiet (first | (go_at_call 16; exact quiet_eq (sWordValid_b false _ _ hw1 _)))
              go_wp2_with fail
              go_ret
              exact ⟨by rw [HS.out, HB.out]; rfl, by obtain ⟨q, hq⟩ := HD.out; exact ⟨q + nq, by rw [hq, World.drewN_drewN]⟩⟩
            · cases hw2 : hasQ (z.take k) (nth z k)
              · have HB := Lib.hid (show goodAt z k = true by rw [goodAt, ← HW.out, hw1, hw2]; rfl)
                go_wp2_with fail
                go_quiet (first | (go_at_call 16; exact quiet_eq (sWordValid_b true _ _ hw1 _)) | (go_at_call 12; exact quiet_eq (l1Has_b false _ k c (z.take k) _ _ ((HR.out.drewN _).take (by omega)) hw2)))
                go_wp2_with fail
                go_roundw
                case rel =>
                  refine ⟨k + 1, by omega, by go_num, fun j hj => ?_, by obtain ⟨q, hq⟩ := HD.out; exact ⟨q + nq, by rw [hq, World.drewN_drewN]⟩⟩
                  rcases Nat.lt_or_ge j k with h | h
                  · exact HG.out j h
                  · obtain rfl : j = k := by omega
                    exact HB.out
                case measure => simp [intOf]; omega
              · have HB := Lib.hid (show goodL z = false by
                  cases hgg : goodL z
                  · rfl
                  · have := goodL_iff.1 hgg k (by rw [HL.out]; omega)
                    rw [goodAt, hw2, Bool.not_true, Bool.and_false] at this; cases this)
                go_wp2_with fail
                go_quiet (first | (go_at_call 16; exact quiet_eq (sWordValid_b true _ _ hw1 _)) | (go_at_call 12; exact quiet_eq (l1Has_b true _ k c (z.take k) _ _ ((HR.out.drewN _).take (by omega)) hw2)))
                go_wp2_with fail
                go_ret
                exact ⟨by rw [HS.out, HB.out]; rfl, by obtain ⟨q, hq⟩ := HD.out; exact ⟨q + nq, by rw [hq, World.drewN_drewN]⟩⟩
          · obtain rfl : k = n := by omega
            have HB := Lib.hid (show goodL z = true from goodL_iff.2 (by rw [HL.out]; exact HG.out))
            go_wp2_with fail
            go_ret
            exact ⟨by rw [HS.out, HB.out]; rfl, HD.out⟩
      · clear hl'
        go_enter Try.func8, Try.ntmps8
        go_wp2_with fail
        refine (l1In_b true _ _ _ (by decide) _).mono ?_
        rintro e w' ⟨rfl, rfl⟩
        go_wp2_with fail
        go_loopw [5] (fun i wr => ∃ k : Nat, k ≤ n ∧ i = .int .i64 k ∧ Hid (∀ j, j < k → goodAt z j = true) ∧ Hid (∃ q, wr = w.drewN q)) (fun i _ => n - (intOf i).toNat)
        case atStart => exact ⟨0, by omega, rfl, fun j hj => absurd hj (by omega), ⟨0, rfl⟩⟩
        case round =>
          obtain ⟨k, hk, rfl, HG, HD⟩ := hrel
          have HR := hide (show IR wr A n z by obtain ⟨q, hq⟩ := HD.out; rw [hq]; exact H.out.drewN q)
          by_cases hlt : k < n
          · obtain ⟨b, o, rfl, hbl, hc⟩ := HR.out.at_ (by omega)
            have h1 := hc k hlt
            have hsl := fun wx => run_take b o n c k (by omega) wx
            clear hc
            cases hw1 : wv 7 (nth z k)
            · have HB := Lib.hid (show goodL z = false by
                cases hgg : goodL z
                · rfl
                · have := goodL_iff.1 hgg k (by rw [HL.out]; omega)
                  rw [goodAt, ← HW.out, hw1] at this; cases this)
              go_wp2_with fail
              go_quiet (first | (go_at_call 16; exact quiet_eq (sWordValid_b false _ _ hw1 _)))
              go_wp2_with fail
              go_ret
              exact ⟨by rw [HS.out, HB.out]; rfl, by obtain ⟨q, hq⟩ := HD.out; exact ⟨q + nq, by rw [hq, World.drewN_drewN]⟩⟩
            · cases hw2 : hasQ (z.take k) (nth z k)
              · have HB := Lib.hid (show goodAt z k = true by rw [goodAt, ← HW.out, hw1, hw2]; rfl)
                go_wp2_with fail
                go_quiet (first | (go_at_call 16; exact quiet_eq (sWordValid_b true _ _ hw1 _)) | (go_at_call 12; exact quiet_eq (l1Has_b false _ k c (z.take k) _ _ ((HR.out.drewN _).take (by omega)) hw2)))
                go_wp2_with fail
                go_roundw
                case rel =>
                  refine ⟨k + 1, by omega, by go_num, fun j hj => ?_, by obtain ⟨q, hq⟩ := HD.out; exact ⟨q + nq, by rw [hq, World.drewN_drewN]⟩⟩
                  rcases Nat.lt_or_ge j k with h | h
                  · exact HG.out j h
                  · obtain rfl : j = k := by omega
                    exact HB.out
                case measure => simp [intOf]; omega
              · have HB := Lib.hid (show goodL z = false by
                  cases hgg : goodL z
                  · rfl
                  · have := goodL_iff.1 hgg k (by rw [HL.out]; omega)
                    rw [goodAt, hw2, Bool.not_true, Bool.and_false] at this; cases this)
                go_wp2_with fail
                go_quiet (first | (go_at_call 16; exact quiet_eq (sWordValid_b true _ _ hw1 _)) | (go_at_call 12; exact quiet_eq (l1Has_b true _ k c (z.take k) _ _ ((HR.out.drewN _).take (by omega)) hw2)))
                go_wp2_with fail
                go_ret
                exact ⟨by rw [HS.out, HB.out]; rfl, by obtain ⟨q, hq⟩ := HD.out; exact ⟨q + nq, by rw [hq, World.drewN_drewN]⟩⟩
          · obtain rfl : k = n := by omega
            have HB := Lib.hid (show goodL z = true from goodL_iff.2 (by rw [HL.out]; exact HG.out))
            go_wp2_with fail
            go_ret
            exact ⟨by rw [HS.out, HB.out]; rfl, HD.out⟩
      · clear hl'
        go_enter Try.func8, Try.ntmps8
        go_wp2_with fail
        refine (l1In_b true _ _ _ (by decide) _).mono ?_
        rintro e w' ⟨rfl, rfl⟩
        go_wp2_with fail
        go_loopw [5] (fun i wr => ∃ k : Nat, k ≤ n ∧ i = .int .i64 k ∧ Hid (∀ j, j < k → goodAt z j = true) ∧ Hid (∃ q, wr = w.drewN q)) (fun i _ => n - (intOf i).toNat)
        case atStart => exact ⟨0, by omega, rfl, fun j hj => absurd hj (by omega), ⟨0, rfl⟩⟩
        case round =>
          obtain ⟨k, hk, rfl, HG, HD⟩ := hrel
          have HR := hide (show IR wr A n z by obtain ⟨q, hq⟩ := HD.out; rw [hq]; exact H.out.drewN q)
          by_cases hlt : k < n
          · obtain ⟨b, o, rfl, hbl, hc⟩ := HR.out.at_ (by omega)
            have h1 := hc k hlt
            have hsl := fun wx => run_take b o n c k (by omega) wx
            clear hc
            cases hw1 : wv 8 (nth z k)
            · have HB := Lib.hid (show goodL z = false by
                cases hgg : goodL z
                · rfl
                · have := goodL_iff.1 hgg k (by rw [HL.out]; omega)
                  rw [goodAt, ← HW.out, hw1] at this; cases this)
              go_wp2_with fail
              go_quiet (first | (go_at_call 16; exact quiet_eq (sWordValid_b false _ _ hw1 _)))
              go_wp2_with fail
              go_ret
              exact ⟨by rw [HS.out, HB.out]; rfl, by obtain ⟨q, hq⟩ := HD.out; exact ⟨q + nq, by rw [hq, World.drewN_drewN]⟩⟩
            · cases hw2 : hasQ (z.take k) (nth z k)
              · have HB := Lib.hid (show goodAt z k = true by rw [goodAt, ← HW.out, hw1, hw2]; rfl)
                go_wp2_with fail
                go_quiet (first | (go_at_call 16; exact quiet_eq (sWordValid_b true _ _ hw1 _)) | (go_at_call 12; exact quiet_eq (l1Has_b false _ k c (z.take k) _ _ ((HR.out.drewN _).take (by omega)) hw2)))
                go_wp2_with fail
                go_roundw
                case rel =>
                  refine ⟨k + 1, by omega, by go_num, fun j hj => ?_, by obtain ⟨q, hq⟩ := HD.out; exact ⟨q + nq, by rw [hq, World.drewN_drewN]⟩⟩
                  rcases Nat.lt_or_ge j k with h | h
                  · exact HG.out j h
                  · obtain rfl : j = k := by omega
                    exact HB.out
                case measure => simp [intOf]; omega
              · have HB := Lib.hid (show goodL z = false by
                  cases hgg : goodL z
                  · rfl
                  · have := goodL_iff.1 hgg k (by rw [HL.out]; omega)
                    rw [goodAt, hw2, Bool.not_true, Bool.and_false] at this; cases this)
                go_wp2_with fail
                go_quiet (first | (go_at_call 16; exact quiet_eq (sWordValid_b true _ _ hw1 _)) | (go_at_call 12; exact quiet_eq (l1Has_b true _ k c (z.take k) _ _ ((HR.out.drewN _).take (by omega)) hw2)))
                go_wp2_with fail
                go_ret
                exact ⟨by rw [HS.out, HB.out]; rfl, by obtain ⟨q, hq⟩ := HD.out; exact ⟨q + nq, by rw [hq, World.drewN_drewN]⟩⟩
          · obtain rfl : k = n := by omega
            have HB := Lib.hid (show goodL z = true from goodL_iff.2 (by rw [HL.out]; exact HG.out))
            go_wp2_with fail
            go_ret
            exact ⟨by rw [HS.out, HB.out]; rfl, HD.out⟩
    · have HS := Lib.hid (show tableOk l z = false by simp [tableOk, hlen, hn])
      have hln : (l = 1 ∧ ((n : Int) != 2) = true ∧ ((n : Int) == 2) = false) ∨ (l = 2 ∧ ((n : Int) != 4) = true ∧ ((n : Int) == 4) = false) ∨ (l = 3 ∧ ((n : Int) != 8) = true ∧ ((n : Int) == 8) = false) ∨ (l = 4 ∧ ((n : Int) != 16) = true ∧ ((n : Int) == 16) = false) ∨ (l = 5 ∧ ((n : Int) != 32) = true ∧ ((n : Int) == 32) = false) ∨ (l = 6 ∧ ((n : Int) != 64) = true ∧ ((n : Int) == 64) = false) ∨ (l = 7 ∧ ((n : Int) != 128) = true ∧ ((n : Int) == 128) = false) ∨ (l = 8 ∧ ((n : Int) != 256) = true ∧ ((n : Int) == 256) = false) := by
        rcases pw_pos_cases hl with ⟨h1, h2⟩ | ⟨h1, h2⟩ | ⟨h1, h2⟩ | ⟨h1, h2⟩ | ⟨h1, h2⟩ | ⟨h1, h2⟩ | ⟨h1, h2⟩ | ⟨h1, h2⟩ <;> simp <;> omega
      clear hl hn hat H
      rcases hln with ⟨rfl, q1, q2⟩ | ⟨rfl, q1, q2⟩ | ⟨rfl, q1, q2⟩ | ⟨rfl, q1, q2⟩ | ⟨rfl, q1, q2⟩ | ⟨rfl, q1, q2⟩ | ⟨rfl, q1, q2⟩ | ⟨rfl, q1, q2⟩
      all_goals
        clear hl'
        go_enter Try.func8, Try.ntmps8
        go_wp2_with fail
        refine (l1In_b true _ _ _ (by decide) _).mono ?_
        rintro e w' ⟨rfl, rfl⟩
        go_wp2_with fail
        go_ret
        exact ⟨by rw [HS.out]; rfl, 0, rfl⟩
set_option maxHeartbeats 1000000 in
theorem tableValid_any (l : Int) (A : Option Addr) (n c : Nat) (z : List Int) (w : World) (h : IR w A n z) :
    Calls Try.prog 13 #[.int .i64 l, .slice A n c] w fun e w' => e = .returned (.bool (tableOk l z)) ∧ Below w.heap.size w w' := by
  obtain ⟨hlen, hmax, hat⟩ := h
  cases hl : lnOk l
  · have HS := Lib.hid (show tableOk l z = false by simp [tableOk, hl])
    go_enter Try.func13, Try.ntmps13
    go_wp2_with fail
    refine (linesOk_b false _ hl _).mono ?_
    rintro e w' ⟨rfl, rfl⟩
    go_wp2_with fail
    go_ret
    exact ⟨by rw [HS.out]; rfl, Below.refl _ _⟩
  · by_cases hn : (n : Int) = pw l
    · have HS := Lib.hid (show tableOk l z = goodL z by simp [tableOk, hl, hlen, hn])
      have hln : (l = 1 ∧ ((n : Int) != 2) = false ∧ ((n : Int) == 2) = true) ∨ (l = 2 ∧ ((n : Int) != 4) = false ∧ ((n : Int) == 4) = true) ∨ (l = 3 ∧ ((n : Int) != 8) = false ∧ ((n : Int) == 8) = true) ∨ (l = 4 ∧ ((n : Int) != 16) = false ∧ ((n : Int) == 16) = true) ∨ (l = 5 ∧ ((n : Int) != 32) = false ∧ ((n : Int) == 32) = true) ∨ (l = 6 ∧ ((n : Int) != 64) = false ∧ ((n : Int) == 64) = true) ∨ (l = 7 ∧ ((n : Int) != 128) = false ∧ ((n : Int) == 128) = true) ∨ (l = 8 ∧ ((n : Int) != 256) = false ∧ ((n : Int) == 256) = true) := by
        rcases pw_pos_cases hl with ⟨h1, h2⟩ | ⟨h1, h2⟩ | ⟨h1, h2⟩ | ⟨h1, h2⟩ | ⟨h1, h2⟩ | ⟨h1, h2⟩ | ⟨h1, h2⟩ | ⟨h1, h2⟩ <;> simp <;> omega
      have hn256 : n ≤ 256 := by rcases pw_pos_cases hl with ⟨h1, h2⟩ | ⟨h1, h2⟩ | ⟨h1, h2⟩ | ⟨h1, h2⟩ | ⟨h1, h2⟩ | ⟨h1, h2⟩ | ⟨h1, h2⟩ | ⟨h1, h2⟩ <;> omega
      have HL := Lib.hid hlen
      have hat' := hide hat
      have HLN := hide hl
      clear hl hn hlen hat
      rcases hln with ⟨rfl, q1, q2⟩ | ⟨rfl, q1, q2⟩ | ⟨rfl, q1, q2⟩ | ⟨rfl, q1, q2⟩ | ⟨rfl, q1, q2⟩ | ⟨rfl, q1, q2⟩ | ⟨rfl, q1, q2⟩ | ⟨rfl, q1, q2⟩
      all_goals
        go_enter Try.func13, Try.ntmps13
        go_wp2_with fail
        refine (linesOk_b true _ HLN.out _).mono ?_
        rintro e w' ⟨rfl, rfl⟩
        go_wp2_with (at_make; refine wpList_make_bools w.heap.size n rfl _ _ rfl _ _ rfl rfl rfl rfl (by omega) (Nat.le_refl _) ?_; intro w1 ho1 hb1 _)
        have O1 := hide (show OwnB w1 w.heap.size (.slice (some ⟨w.heap.size, 0, none⟩) n n) (hasL n []) by rw [hasL_nil]; exact ho1)
        have B1 := hide hb1
        clear ho1 hb1
        go_loopw [23] (fun i wr => ∃ k : Nat, k ≤ n ∧ i = .int .i64 k ∧ Hid (∀ j, j < k → goodAt z j = true) ∧ Hid (OwnB wr w.heap.size (.slice (some ⟨w.heap.size, 0, none⟩) n n) (hasL n (z.take k))) ∧ Hid (Below w.heap.size w wr)) (fun i _ => n - (intOf i).toNat)
        case atStart => exact ⟨0, by omega, rfl, fun j hj => absurd hj (by omega), O1.out, B1.out⟩
        case round =>
          obtain ⟨k, hk, rfl, HG, HO, HB⟩ := hrel
          by_cases hlt : k < n
          · obtain ⟨b, o, rfl, hbl, hc⟩ := hat'.out (by omega)
            have h1 : wr.cell? ⟨b, o + k, none⟩ = some (.int .i64 (nth z k)) := (HB.out.cell (p := ⟨b, o + k, none⟩) hbl).trans (hc k hlt)
            clear hc
            by_cases hw1 : 0 ≤ nth z k ∧ nth z k ≤ (n : Int) - 1
            · obtain ⟨j, hj⟩ := Int.eq_ofNat_of_zero_le hw1.1
              have hjn : j < n := by omega
              have h2 := HO.out.cellAt (hasL_len _ _) j hjn
              rw [hasL_nth _ hjn] at h2
              have h3 := HO.out.frozenAt (hasL_len _ _) j
              have HW := hide (show (decide (0 ≤ (j : Int)) && decide ((j : Int) ≤ (n : Int) - 1)) = true by simp; omega)
              have HJ := Lib.hid hj
              rw [hj] at h1
              cases hw2 : hasQ (z.take k) (j : Int)
              · have HT := Lib.hid (show z.take (k + 1) = z.take k ++ [(j : Int)] by rw [take_succ_nth (by rw [HL.out]; exact hlt), HJ.out])
                have hst := HO.out.stored (hasL_len _ _) j true
                rw [← hasL_snoc, ← HT.out] at hst
                have HX := hide hst
                have HQ := Lib.hid (show goodAt z k = true by rw [goodAt, HJ.out, hw2, HL.out, HW.out]; rfl)
                rw [hw2] at h2
                clear hst hj hw1 hw2
                go_wp2_with fail
                refine (within_b true _ _ _ HW.out _).mono ?_
                rintro e w' ⟨rfl, rfl⟩
                go_wp2_with fail
                go_roundw
                case rel =>
                  refine ⟨k + 1, by omega, by go_num, fun j hj => ?_, HX.out.1, HB.out.setCell (Nat.le_refl _) _⟩
                  rcases Nat.lt_or_ge j k with h | h
                  · exact HG.out j h
                  · obtain rfl : j = k := by omega
                    exact HQ.out
                case measure => simp [intOf]; omega
              · have HQ := Lib.hid (show goodL z = false by
                  cases hgg : goodL z
                  · rfl
                  · have := goodL_iff.1 hgg k (by rw [HL.out]; omega)
                    rw [goodAt, HJ.out, hw2, Bool.not_true, Bool.and_false] at this; cases this)
                rw [hw2] at h2
                clear hj hw1 hw2
                go_wp2_with fail
                refine (within_b true _ _ _ HW.out _).mono ?_
                rintro e w' ⟨rfl, rfl⟩
                go_wp2_with fail
                go_ret
                exact ⟨by rw [HS.out, HQ.out]; rfl, HB.out⟩
            · have HW := hide (show (decide (0 ≤ nth z k) && decide (nth z k ≤ (n : Int) - 1)) = false by simp; omega)
              have HQ := Lib.hid (show goodL z = false by
                cases hgg : goodL z
                · rfl
                · have := goodL_iff.1 hgg k (by rw [HL.out]; omega)
                  rw [goodAt, HL.out, HW.out] at this; cases this)
              clear hw1
              go_wp2_with fail
              refine (within_b false _ _ _ HW.out _).mono ?_
              rintro e w' ⟨rfl, rfl⟩
              go_wp2_with fail
              go_ret
              exact ⟨by rw [HS.out, HQ.out]; rfl, HB.out⟩
          · obtain rfl : k = n := by omega
            have HQ := Lib.hid (show goodL z = true from goodL_iff.2 (by rw [HL.out]; exact HG.out))
            go_wp2_with fail
            go_ret
            exact ⟨by rw [HS.out, HQ.out]; rfl, HB.out⟩
    · have HS := Lib.hid (show tableOk l z = false by simp [tableOk, hlen, hn])
      have hln : (l = 1 ∧ ((n : Int) != 2) = true ∧ ((n : Int) == 2) = false) ∨ (l = 2 ∧ ((n : Int) != 4) = true ∧ ((n : Int) == 4) = false) ∨ (l = 3 ∧ ((n : Int) != 8) = true ∧ ((n : Int) == 8) = false) ∨ (l = 4 ∧ ((n : Int) != 16) = true ∧ ((n : Int) == 16) = false) ∨ (l = 5 ∧ ((n : Int) != 32) = true ∧ ((n : Int) == 32) = false) ∨ (l = 6 ∧ ((n : Int) != 64) = true ∧ ((n : Int) == 64) = false) ∨ (l = 7 ∧ ((n : Int) != 128) = true ∧ ((n : Int) == 128) = false) ∨ (l = 8 ∧ ((n : Int) != 256) = true ∧ ((n : Int) == 256) = false) := by
        rcases pw_pos_cases hl with ⟨h1, h2⟩ | ⟨h1, h2⟩ | ⟨h1, h2⟩ | ⟨h1, h2⟩ | ⟨h1, h2⟩ | ⟨h1, h2⟩ | ⟨h1, h2⟩ | ⟨h1, h2⟩ <;> simp <;> omega
      have HLN := hide hl
      clear hl hn hat
      rcases hln with ⟨rfl, q1, q2⟩ | ⟨rfl, q1, q2⟩ | ⟨rfl, q1, q2⟩ | ⟨rfl, q1, q2⟩ | ⟨rfl, q1, q2⟩ | ⟨rfl, q1, q2⟩ | ⟨rfl, q1, q2⟩ | ⟨rfl, q1, q2⟩
      all_goals
        go_enter Try.func13, Try.ntmps13
        go_wp2_with fail
        refine (linesOk_b true _ HLN.out _).mono ?_
        rintro e w' ⟨rfl, rfl⟩
        go_wp2_with fail
        go_ret
        exact ⟨by rw [HS.out]; rfl, Below.refl _ _⟩
end Go.Proofs.Ytlaidoomjnhlaaa
