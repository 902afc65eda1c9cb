/-
  Slices of truths of the call's own; the small functions over slices of truths.
  No condition.
-/
import Derived.Test.YtmakpjcjccgalaaField
namespace Go.Proofs.Ytmakpjcjccgalaa
open Go.RowKit Go.Sort base
theorem BR.nil (w : World) (A : Option Addr) : BR w A 0 [] := ⟨rfl, by omega, fun h => absurd h (by omega)⟩
def OwnB (w : World) (base : Nat) (v : Value) (bs : List Bool) : Prop := w.ownsRow base 4 1 v bs.length (bs.map Value.bool)
theorem bool_info : (Try.prog.info? 4).map (fun i => (i.zero, i.size, i.bytes)) = some (some (.bool false), 1, 1) := by kernel_rfl
theorem made_bools (n : Nat) : (madeCells (Value.bool false).cells n).toList = (List.replicate n false).map Value.bool := by
  show (madeCells #[Value.bool false] n).toList = _
  rw [toList_madeCells_one, List.map_replicate]
theorem bools_oneCell (bs : List Bool) : ∀ u ∈ bs.map Value.bool, u.oneCell' = true := by
  intro u hu
  rw [List.mem_map] at hu
  obtain ⟨b, _, rfl⟩ := hu
  rfl
theorem wpList_make_bools {ops : Array Oper} {rest : List Oper} {o : Oper} {a : Act} {Q : Exit → Act → World → Prop} {w : World} (base n : Nat) (hg : o.guard = none) (l c : Operand) (hop : o.op = Op.makeSlice 23 l c)
    (L C : Int) (hl : a.eval l = .int .i64 L) (hc : a.eval c = .int .i64 C) (hL : L = (n : Int)) (hC : C = (n : Int)) (hn : n ≤ 8388608) (hb : base ≤ w.heap.size)
    (hK : ∀ w', OwnB w' base (.slice (some ⟨w.heap.size, 0, none⟩) n n) (List.replicate n false) → Below base w w' → w.grownBy w' none → wpList Try.prog ops Q rest (a.put o.dst (.slice (some ⟨w.heap.size, 0, none⟩) n n)) w') :
    wpList Try.prog ops Q (o :: rest) a w := by
  obtain ⟨i0, hi, hz0, hz1, hz2⟩ := info_parts bool_info
  refine wpList_make_full _ hg l c 23 hop base 4 i0 (.bool false) 1 Try.underlying23 hi hz0 hz1 _ _ _ _ n hl hc hL hC (by rw [hz2]; omega) (by unfold maxLen; omega) hb
    fun w' h1 h2 => hK w' ?_ ((Below.refl _ _).grown h2 hb (by simp)) h2
  rw [made_bools] at h1
  unfold OwnB
  rw [List.length_replicate]
  simpa using h1
theorem OwnB.form {w : World} {base : Nat} {v : Value} {zs : List Bool} (h : OwnB w base v zs) : (v = .slice none 0 0 ∧ zs = []) ∨ ∃ g c, v = .slice (some ⟨g, 0, none⟩) zs.length c ∧ base ≤ g ∧ g < w.heap.size ∧ zs.length ≤ c ∧ c ≤ maxLen := by
  rcases h.2 with ⟨rfl, h0⟩ | ⟨g, cap, cur, rfl, hb, hg, hn, hm, _⟩
  · exact .inl ⟨rfl, List.eq_nil_of_length_eq_zero h0⟩
  · exact .inr ⟨g, cap, rfl, hb, (Array.getElem?_eq_some_iff.1 hg).1, hn, hm⟩
theorem OwnB.kept {w w' : World} {base : Nat} {v : Value} {zs : List Bool} {row : Option Nat} (h : OwnB w base v zs) (hg : w.grownBy w' row) (hne : v.ownBlock = none ∨ v.ownBlock ≠ row) : OwnB w' base v zs :=
  World.ownsRow.kept h hg hne
theorem OwnB.below {w w' : World} {base : Nat} {v : Value} {zs : List Bool} (h : OwnB w base v zs) (hb : Below w.heap.size w w') : OwnB w' base v zs :=
  h.kept (row := none) ⟨hb.os, hb.tape, hb.output, hb.size, fun k hk _ => hb.block k hk⟩ (by cases v.ownBlock <;> simp)
theorem OwnB.lt {w : World} {base : Nat} {v : Value} {zs : List Bool} (h : OwnB w base v zs) : ∀ k, v.ownBlock = some k → base ≤ k ∧ k < w.heap.size := World.ownsRow.lt h
theorem OwnB.cellAt {w : World} {base g n c : Nat} {zs : List Bool} (h : OwnB w base (.slice (some ⟨g, 0, none⟩) n c) zs) (hn : zs.length = n) (j : Nat) (hj : j < n) : w.cell? ⟨g, j, none⟩ = some (.bool (bth zs j)) := by
  subst hn
  rw [World.ownsRow.cellAt h j (by omega)]
  simp [bth, hj]
theorem OwnB.frozenAt {w : World} {base g n c : Nat} {zs : List Bool} (h : OwnB w base (.slice (some ⟨g, 0, none⟩) n c) zs) (hn : zs.length = n) (j : Nat) : w.frozen? ⟨g, j, none⟩ = false := by
  subst hn
  exact World.ownsRow.frozenAt h j
theorem OwnB.stored {w : World} {base g n c : Nat} {zs : List Bool} (h : OwnB w base (.slice (some ⟨g, 0, none⟩) n c) zs) (hn : zs.length = n) (j : Nat) (z : Bool) :
    OwnB (w.setCell ⟨g, j, none⟩ (.bool z)) base (.slice (some ⟨g, 0, none⟩) n c) (zs.set j z) ∧ w.grownBy (w.setCell ⟨g, j, none⟩ (.bool z)) (some g) := by
  subst hn
  have := World.ownsRow.stored h j (.bool z)
  refine ⟨?_, this.2⟩
  unfold OwnB
  rw [List.length_set, List.map_set]
  exact this.1
theorem OwnB.base_le {w : World} {base base' : Nat} {v : Value} {zs : List Bool} (h : OwnB w base v zs) (hb : base' ≤ base) : OwnB w base' v zs := by
  refine ⟨h.1, ?_⟩
  rcases h.2 with h | ⟨g, cap, cur, hv, hg, r⟩
  · exact .inl h
  · exact .inr ⟨g, cap, cur, hv, by omega, r⟩
theorem OwnB.slice {w : World} {base : Nat} {v : Value} {zs : List Bool} (h : OwnB w base v zs) : ∃ A c, v = .slice A zs.length c ∧ BR w A zs.length zs := by
  rcases h.form with ⟨rfl, rfl⟩ | ⟨g, c, rfl, _, hlt, hn, hm⟩
  · exact ⟨none, 0, rfl, BR.nil _ _⟩
  · refine ⟨_, c, rfl, rfl, by unfold maxLen at hm; omega, fun _ => ⟨g, 0, rfl, hlt, fun i hi => ?_⟩⟩
    rw [Nat.zero_add]
    exact h.cellAt rfl i hi
theorem OwnB.br {w : World} {base n c : Nat} {A : Option Addr} {zs : List Bool} (h : OwnB w base (.slice A n c) zs) : BR w A n zs := by
  obtain ⟨A', c', e, r⟩ := h.slice
  simp only [Value.slice.injEq] at e
  obtain ⟨rfl, rfl, _⟩ := e
  exact r
theorem OwnB.nil_ (w : World) (base : Nat) : OwnB w base (.slice none 0 0) [] := World.ownsRow_nil _ _ _ _
theorem OwnB.nil0 (w : World) (base : Nat) (hb : base ≤ w.heap.size) : OwnB (w.alloc (.cells #[] 4)) base (.slice (some ⟨w.heap.size, 0, none⟩) 0 0) [] := by
  have := World.ownsRow_lit (e := 4) (size := 1) w #[] 0 hb (by unfold maxLen; omega) (by simp)
  simpa [OwnB] using this
theorem beq_of_bth {xs ys : List Bool} (hl : xs.length = ys.length) (h : ∀ j, j < xs.length → bth xs j = bth ys j) : (xs == ys) = true := by
  rw [beq_iff_eq]; exact bth_ext hl h
theorem bne_of_bth {xs ys : List Bool} {k : Nat} (h : ¬ bth xs k = bth ys k) : (xs == ys) = false := by
  rw [beq_eq_false_iff_ne]
  rintro rfl
  exact h rfl
-- BEGIN functions
set_option maxHeartbeats 400000 in
theorem eqBoolS_any (A B : Option Addr) (n c m d : Nat) (xs ys : List Bool) (w : World) (hx : BR w A n xs) (hy : BR w B m ys) :
    Calls Try.prog 39 #[.slice A n c, .slice B m d] w fun e w' => e = .returned (.bool (xs == ys)) ∧ ∃ q, w' = w.drewN q := by
  obtain ⟨hlx, hmx, hax⟩ := hx
  obtain ⟨hly, hmy, hay⟩ := hy
  by_cases hnm : n = m
  · subst hnm
    go_enter Try.func39, Try.ntmps39
    go_wp2
    go_loopw [5] (fun i wr => ∃ k q : Nat, k ≤ n ∧ i = .int .i64 k ∧ (∀ j, j < k → bth xs j = bth ys j) ∧ wr = w.drewN q) (fun i _ => n - (intOf i).toNat)
    case atStart => exact ⟨0, 0, by omega, rfl, fun j hj => absurd hj (by omega), rfl⟩
    case round =>
      obtain ⟨k, q, hk, rfl, heq, rfl⟩ := hrel
      have HE := Lib.hid heq
      clear heq
      by_cases hlt : k < n
      · obtain ⟨b, o, rfl, hbl, hc⟩ := hax (by omega)
        obtain ⟨b', o', rfl, hbl', hc'⟩ := hay (by omega)
        have h1 := hc k hlt
        have h2 := hc' k hlt
        clear hc hc' hax hay
        by_cases he : bth xs k = bth ys k
        · have HK := Lib.hid he
          rw [← he] at h2
          clear he
          cases hv : bth xs k
          all_goals
            rw [hv] at h1 h2
            clear hv
            go_wp2
            go_quiet (fail)
            go_wp2
            go_roundw
            case rel =>
              refine ⟨k + 1, _, by omega, by go_num, fun j hj => ?_, rfl⟩
              rcases Nat.lt_or_ge j k with h | h
              · exact HE.out j h
              · obtain rfl : j = k := by omega
                exact HK.out
            case measure => simp [intOf]; omega
        · have e3 := Lib.hid (bne_of_bth he)
          cases hv : bth xs k <;> cases hv' : bth ys k
          all_goals first
            | (exact absurd (hv.trans hv'.symm) he)
            | (rw [hv] at h1
               rw [hv'] at h2
               clear hv hv' he
               go_wp2
               go_quiet (fail)
               go_wp2
               go_ret
               exact ⟨by rw [e3.out]; rfl, q + nq, by rw [World.drewN_drewN]⟩)
      · obtain rfl : k = n := by omega
        have e3 := Lib.hid (beq_of_bth (xs := xs) (ys := ys) (by omega) (by rw [hlx]; exact HE.out))
        go_wp2
        go_ret
        exact ⟨by rw [e3.out]; rfl, _, rfl⟩
  · have e0 : ((n : Int) != (m : Int)) = true := by simp; omega
    have e0' : ((n : Int) == (m : Int)) = false := by simp; omega
    have e1 : (xs == ys) = false := by
      rw [beq_eq_false_iff_ne]; rintro rfl; omega
    have E1 := Lib.hid e1
    clear e1
    go_enter Try.func39, Try.ntmps39
    go_wp2
    go_ret
    exact ⟨by rw [E1.out]; rfl, 0, rfl⟩
set_option maxHeartbeats 400000 in
theorem sameBools_any (A B : Option Addr) (n c m d : Nat) (xs ys : List Bool) (w : World) (hx : BR w A n xs) (hy : BR w B m ys) :
    Calls Try.prog 42 #[.slice A n c, .slice B m d] w fun e w' => e = .returned (.bool (xs == ys)) ∧ ∃ q, w' = w.drewN q := by
  obtain ⟨hlx, hmx, hax⟩ := hx
  obtain ⟨hly, hmy, hay⟩ := hy
  by_cases hnm : n = m
  · subst hnm
    go_enter Try.func42, Try.ntmps42
    go_wp2
    go_loopw [5] (fun i wr => ∃ k q : Nat, k ≤ n ∧ i = .int .i64 k ∧ (∀ j, j < k → bth xs j = bth ys j) ∧ wr = w.drewN q) (fun i _ => n - (intOf i).toNat)
    case atStart => exact ⟨0, 0, by omega, rfl, fun j hj => absurd hj (by omega), rfl⟩
    case round =>
      obtain ⟨k, q, hk, rfl, heq, rfl⟩ := hrel
      have HE := Lib.hid heq
      clear heq
      by_cases hlt : k < n
      · obtain ⟨b, o, rfl, hbl, hc⟩ := hax (by omega)
        obtain ⟨b', o', rfl, hbl', hc'⟩ := hay (by omega)
        have h1 := hc k hlt
        have h2 := hc' k hlt
        clear hc hc' hax hay
        by_cases he : bth xs k = bth ys k
        · have HK := Lib.hid he
          rw [← he] at h2
          clear he
          cases hv : bth xs k
          all_goals
            rw [hv] at h1 h2
            clear hv
            go_wp2
            go_quiet (fail)
            go_wp2
            go_roundw
            case rel =>
              refine ⟨k + 1, _, by omega, by go_num, fun j hj => ?_, rfl⟩
              rcases Nat.lt_or_ge j k with h | h
              · exact HE.out j h
              · obtain rfl : j = k := by omega
                exact HK.out
            case measure => simp [intOf]; omega
        · have e3 := Lib.hid (bne_of_bth he)
          cases hv : bth xs k <;> cases hv' : bth ys k
          all_goals first
            | (exact absurd (hv.trans hv'.symm) he)
            | (rw [hv] at h1
               rw [hv'] at h2
               clear hv hv' he
               go_wp2
               go_quiet (fail)
               go_wp2
               go_ret
               exact ⟨by rw [e3.out]; rfl, q + nq, by rw [World.drewN_drewN]⟩)
      · obtain rfl : k = n := by omega
        have e3 := Lib.hid (beq_of_bth (xs := xs) (ys := ys) (by omega) (by rw [hlx]; exact HE.out))
        go_wp2
        go_ret
        exact ⟨by rw [e3.out]; rfl, _, rfl⟩
  · have e0 : ((n : Int) != (m : Int)) = true := by simp; omega
    have e0' : ((n : Int) == (m : Int)) = false := by simp; omega
    have e1 : (xs == ys) = false := by
      rw [beq_eq_false_iff_ne]; rintro rfl; omega
    have E1 := Lib.hid e1
    clear e1
    go_enter Try.func42, Try.ntmps42
    go_wp2
    go_ret
    exact ⟨by rw [E1.out]; rfl, 0, rfl⟩
set_option maxHeartbeats 400000 in
theorem equalB_any (A B : Option Addr) (n c m d : Nat) (xs ys : List Bool) (w : World) (hx : BR w A n xs) (hy : BR w B m ys) :
    Calls Try.prog 52 #[.slice A n c, .slice B m d] w fun e w' => e = .returned (.bool (xs == ys)) ∧ ∃ q, w' = w.drewN q := by
  obtain ⟨hlx, hmx, hax⟩ := hx
  obtain ⟨hly, hmy, hay⟩ := hy
  by_cases hnm : n = m
  · subst hnm
    go_enter Try.func52, Try.ntmps52
    go_wp2
    go_loopw [13] (fun i wr => ∃ k q : Nat, k ≤ n ∧ i = .int .i64 k ∧ (∀ j, j < k → bth xs j = bth ys j) ∧ wr = w.drewN q) (fun i _ => n - (intOf i).toNat)
    case atStart => exact ⟨0, 0, by omega, rfl, fun j hj => absurd hj (by omega), rfl⟩
    case round =>
      obtain ⟨k, q, hk, rfl, heq, rfl⟩ := hrel
      have HE := Lib.hid heq
      clear heq
      by_cases hlt : k < n
      · obtain ⟨b, o, rfl, hbl, hc⟩ := hax (by omega)
        obtain ⟨b', o', rfl, hbl', hc'⟩ := hay (by omega)
        have h1 := hc k hlt
        have h2 := hc' k hlt
        clear hc hc' hax hay
        by_cases he : bth xs k = bth ys k
        · have HK := Lib.hid he
          rw [← he] at h2
          clear he
          cases hv : bth xs k
          all_goals
            rw [hv] at h1 h2
            clear hv
            go_wp2
            go_quiet (fail)
            go_wp2
            go_roundw
            case rel =>
              refine ⟨k + 1, _, by omega, by go_num, fun j hj => ?_, rfl⟩
              rcases Nat.lt_or_ge j k with h | h
              · exact HE.out j h
              · obtain rfl : j = k := by omega
                exact HK.out
            case measure => simp [intOf]; omega
        · have e3 := Lib.hid (bne_of_bth he)
          cases hv : bth xs k <;> cases hv' : bth ys k
          all_goals first
            | (exact absurd (hv.trans hv'.symm) he)
            | (rw [hv] at h1
               rw [hv'] at h2
               clear hv hv' he
               go_wp2
               go_quiet (fail)
               go_wp2
               go_ret
               exact ⟨by rw [e3.out]; rfl, q + nq, by rw [World.drewN_drewN]⟩)
      · obtain rfl : k = n := by omega
        have e3 := Lib.hid (beq_of_bth (xs := xs) (ys := ys) (by omega) (by rw [hlx]; exact HE.out))
        go_wp2
        go_ret
        exact ⟨by rw [e3.out]; rfl, _, rfl⟩
  · have e0 : ((n : Int) != (m : Int)) = true := by simp; omega
    have e0' : ((n : Int) == (m : Int)) = false := by simp; omega
    have e1 : (xs == ys) = false := by
      rw [beq_eq_false_iff_ne]; rintro rfl; omega
    have E1 := Lib.hid e1
    clear e1
    go_enter Try.func52, Try.ntmps52
    go_wp2
    go_ret
    exact ⟨by rw [E1.out]; rfl, 0, rfl⟩
set_option maxHeartbeats 400000 in
theorem toBoolS_any (A : Option Addr) (n c : Nat) (zs : List Bool) (w : World) (h : BR w A n zs) (hn : n ≤ 4194304) :
    Calls Try.prog 38 #[.slice A n c] w fun e w' => e = .returned (.slice (some ⟨w.heap.size, 0, none⟩) n n) ∧ OwnB w' w.heap.size (.slice (some ⟨w.heap.size, 0, none⟩) n n) zs ∧ Below w.heap.size w w' := by
  obtain ⟨hlen, hmax, hat⟩ := h
  have HL := Lib.hid hlen
  clear hlen
  go_enter Try.func38, Try.ntmps38
  go_wp2_with (refine wpList_make_bools w.heap.size n rfl _ _ rfl _ _ rfl rfl rfl rfl (by omega) (Nat.le_refl _) ?_; intro w1 hown hb1 hgrow)
  have O1 := hide hown
  have B1 := hide hb1
  clear hgrow hown hb1
  go_loopw [4] (fun i wr => ∃ k : Nat, k ≤ n ∧ i = .int .i64 k ∧ Hid (OwnB wr w.heap.size (.slice (some ⟨w.heap.size, 0, none⟩) n n) (zs.take k ++ List.replicate (n - k) false)) ∧ Hid (Below w.heap.size w wr)) (fun i _ => n - (intOf i).toNat)
  case atStart => exact ⟨0, by omega, rfl, hide (by simpa using O1.out), B1.out⟩
  case round =>
    obtain ⟨k, hk, rfl, HO, HB⟩ := hrel
    by_cases hlt : k < n
    · obtain ⟨b, o, rfl, hbl, hc⟩ := hat (by omega)
      have hlq : (zs.take k ++ List.replicate (n - k) false).length = n := by have := HL.out; simp; omega
      have hck : wr.cell? ⟨b, o + k, none⟩ = some (.bool (bth zs k)) := (HB.out.cell (p := ⟨b, o + k, none⟩) hbl).trans (hc k hlt)
      have hcg := HO.out.cellAt hlq k hlt
      have hfg := HO.out.frozenAt hlq k
      have hst := HO.out.stored hlq k (bth zs k)
      have hq : (zs.take k ++ List.replicate (n - k) false).set k (bth zs k) = zs.take (k + 1) ++ List.replicate (n - (k + 1)) false := by
        have := HL.out
        rw [List.take_succ_eq_append_getElem (by omega), ← bth_lt (by omega)]
        rw [List.set_append_right _ _ (by simp; omega), List.append_assoc]
        congr 1
        rw [show k - (zs.take k).length = 0 by simp; omega, show n - k = (n - (k + 1)) + 1 by omega, List.replicate_succ]
        rfl
      rw [hq] at hst
      have hs := HB.out.size
      have H := Lib.hid hst
      clear hst hq hc hat hlq
      go_wp2
      go_roundw
      case rel => exact ⟨k + 1, by omega, by go_num, H.out.1, HB.out.setCell (Nat.le_refl _) _⟩
      case measure => simp [intOf]; omega
    · obtain rfl : k = n := by omega
      have HF : Hid (OwnB wr w.heap.size (.slice (some ⟨w.heap.size, 0, none⟩) k k) zs) := Lib.hid (by
        have := HO.out
        rwa [List.take_of_length_le (by have := HL.out; omega), Nat.sub_self, List.replicate_zero, List.append_nil] at this)
      go_wp2
      go_ret
      exact ⟨rfl, HF.out, HB.out⟩
/-- truths that go on from k: every third is true -/
def marksB (n : Nat) (k : Int) : List Bool := tabB n fun i => decide ((k + (i : Int)) % 3 = 0)
set_option maxHeartbeats 1000000 in
theorem markBoolS_any (g n c : Nat) (zs : List Bool) (k : Int) (base : Nat) (w : World) (h : OwnB w base (.slice (some ⟨g, 0, none⟩) n c) zs) (hn : n ≤ 4194304) (hk : 0 ≤ k ∧ k ≤ 1000000000) :
    Calls Try.prog 40 #[.slice (some ⟨g, 0, none⟩) n c, .int .i64 k] w fun e w' => e = .returned (.int .i64 (k + n)) ∧ OwnB w' base (.slice (some ⟨g, 0, none⟩) n c) (marksB n k) ∧ w.grownBy w' (some g) := by
  have hl := h.br.len
  obtain ⟨hk1, hk2⟩ := hk
  have H := hide h
  have HL := Lib.hid hl
  clear h hl
  go_enter Try.func40, Try.ntmps40
  go_wp2_with fail
  go_loopw [1, 5] (fun a i wr => ∃ j : Nat, j ≤ n ∧ i = .int .i64 j ∧ a = .int .i64 (k + j) ∧ Hid (OwnB wr base (.slice (some ⟨g, 0, none⟩) n c) (marksB j k ++ zs.drop j)) ∧ Hid (w.grownBy wr (some g))) (fun _ i _ => n - (intOf i).toNat)
  case atStart => exact ⟨0, by omega, rfl, by simp, hide (by simpa [marksB, tabB] using H.out), World.grownBy.refl _ _⟩
  case round =>
    obtain ⟨j, hj, rfl, rfl, HM, HG⟩ := hrel
    by_cases hlt : j < n
    · have hlq : (marksB j k ++ zs.drop j).length = n := by have := HL.out; simp [marksB, tabB_len]; omega
      have h1 := HM.out.cellAt hlq j hlt
      have h2 := HM.out.frozenAt hlq j
      have hst := HM.out.stored hlq j (decide ((k + (j : Int)) % 3 = 0))
      have e : (marksB j k ++ zs.drop j).set j (decide ((k + (j : Int)) % 3 = 0)) = marksB (j + 1) k ++ zs.drop (j + 1) := by
        have hz := HL.out
        unfold marksB
        rw [List.set_append_right _ _ (by rw [tabB_len]; exact Nat.le_refl _), tabB_len, Nat.sub_self, List.drop_eq_getElem_cons (show j < zs.length by omega), List.set_cons_zero]
        unfold tabB
        rw [List.range_succ, List.map_append, List.append_assoc]
        rfl
      rw [e] at hst
      have HS := hide hst
      clear hst e hlq
      cases hv : decide ((k + (j : Int)) % 3 = 0)
      all_goals
        have hv2 : ((k + (j : Int)) % 3 == 0) = decide ((k + (j : Int)) % 3 = 0) := by rw [Bool.eq_iff_iff]; simp
        rw [hv] at hv2
        rw [hv] at HS
        clear hv
        go_wp2_with fail
        go_roundw
        case rel => exact ⟨j + 1, by omega, by go_num, by go_num, HS.out.1, grown_seq HG.out HS.out.2⟩
        case measure => simp [intOf]; omega
    · obtain rfl : j = n := by omega
      have HF : Hid (OwnB wr base (.slice (some ⟨g, 0, none⟩) j c) (marksB j k)) := Lib.hid (by
        have := HM.out
        rwa [List.drop_of_length_le (by have := HL.out; omega), List.append_nil] at this)
      go_wp2_with fail
      go_ret
      exact ⟨rfl, HF.out, HG.out⟩
set_option maxHeartbeats 400000 in
theorem heldBoolS_any (A : Option Addr) (n c : Nat) (k : Int) (w : World) (h : BR w A n (marksB n k)) (hn : n ≤ 4194304) (hk : 0 ≤ k ∧ k ≤ 1000000000) :
    Calls Try.prog 41 #[.slice A n c, .int .i64 k] w fun e w' => e = .returned (.int .i64 (k + n)) ∧ w = w' := by
  obtain ⟨hlen, hmax, hat⟩ := h
  obtain ⟨hk1, hk2⟩ := hk
  clear hlen
  go_enter Try.func41, Try.ntmps41
  go_wp2_with fail
  go_loop [1, 5] (fun a i => ∃ j : Nat, j ≤ n ∧ i = .int .i64 j ∧ a = .int .i64 (k + j)) (fun _ i => n - (intOf i).toNat)
  case atStart => exact ⟨0, by omega, rfl, by simp⟩
  case round =>
    obtain ⟨j, hj, rfl, rfl⟩ := hrel
    by_cases hlt : j < n
    · obtain ⟨b, o, rfl, _, hc⟩ := hat (by omega)
      have h1 := hc j hlt
      rw [marksB, tabB_at hlt] at h1
      have hv2 : ((k + (j : Int)) % 3 == 0) = decide ((k + (j : Int)) % 3 = 0) := by rw [Bool.eq_iff_iff]; simp
      cases hv : decide ((k + (j : Int)) % 3 = 0)
      all_goals
        rw [hv] at hv2
        rw [hv] at h1
        clear hc hat hv
        go_wp2_with fail
        go_round
        case rel => exact ⟨j + 1, by omega, by go_num, by go_num⟩
        case measure => simp [intOf]; omega
    · obtain rfl : j = n := by omega
      go_wp2_with fail
      go_ret
      exact ⟨rfl, rfl⟩
end Go.Proofs.Ytmakpjcjccgalaa
