/-
  numbersIn of the program: the numbers between the commas of a text.
  No condition.
-/
import Derived.RangeFuncCalls
import Derived.Test.YtokcappgaokeaaaDoorSplit
import Derived.Test.YtokcappgaokeaaaDoorSRead
namespace Go.Proofs.YtokcappgaokeaaaDoor
open Go.RowKit Go.Sort base
attribute [local go_sem] Oper.semAt_some
/-- the variables of the library's two errors -/
def Errs (w : World) : Prop := (∃ tp p, w.var? Tryd.prog "strconv.ErrSyntax" = some #[.iface tp p]) ∧ ∃ tp p, w.var? Tryd.prog "strconv.ErrRange" = some #[.iface tp p]
theorem var_below {w w' : World} (hs : Below w.heap.size w w') {nm : String} {x : Array Value} (h : w.var? Tryd.prog nm = some x) : w'.var? Tryd.prog nm = some x := by
  unfold World.var? at *
  cases hg : Tryd.prog.globalNamed nm with
  | none => rw [hg] at h; cases h
  | some g =>
    rw [hg] at h
    simp only [Option.bind_some] at h ⊢
    have hlt : g < w.heap.size := by
      rcases Nat.lt_or_ge g w.heap.size with h1 | h1
      · exact h1
      · rw [Array.getElem?_eq_none h1] at h; cases h
    rw [hs.block g hlt]
    exact h
theorem Errs.below {w w' : World} (h : Errs w) (hs : Below w.heap.size w w') : Errs w' := by
  obtain ⟨⟨a, b, h1⟩, ⟨c, d, h2⟩⟩ := h
  exact ⟨⟨a, b, var_below hs h1⟩, ⟨c, d, var_below hs h2⟩⟩
/-- the number that a piece spells -/
def okOf (x : List UInt8) : Option Int := match Lib.atoiAll x with
  | .ok v => some v
  | _ => none
def allOk : List (List UInt8) → Option (List Int)
  | [] => some []
  | x :: r => match okOf x, allOk r with
    | some v, some g => some (v :: g)
    | _, _ => none
def numsD (xs : List (List UInt8)) : List Int := (allOk xs).getD []
theorem allOk_snoc : ∀ (xs : List (List UInt8)) (x : List UInt8), allOk (xs ++ [x]) = match allOk xs, okOf x with
    | some g, some v => some (g ++ [v])
    | _, _ => none
  | [], x => by simp only [List.nil_append, allOk]; cases okOf x <;> rfl
  | y :: r, x => by
    simp only [List.cons_append, allOk, allOk_snoc r x]
    cases okOf y <;> cases allOk r <;> cases okOf x <;> rfl
theorem allOk_none : ∀ (xs ys : List (List UInt8)), allOk xs = none → allOk (xs ++ ys) = none
  | [], _, h => by cases h
  | x :: r, ys, h => by
    simp only [allOk, List.cons_append] at h ⊢
    cases hx : okOf x with
    | none => rfl
    | some v =>
      rw [hx] at h
      cases hr : allOk r with
      | none => rw [allOk_none r ys hr]
      | some g => rw [hr] at h; cases h
theorem allOk_len : ∀ (xs : List (List UInt8)) (g : List Int), allOk xs = some g → g.length = xs.length
  | [], g, h => by cases h; rfl
  | x :: r, g, h => by
    simp only [allOk] at h
    cases hx : okOf x with
    | none => rw [hx] at h; cases h
    | some v =>
      cases hr : allOk r with
      | none => rw [hx, hr] at h; cases h
      | some g' => rw [hx, hr] at h; cases h; simp [allOk_len r g' hr]
theorem okOf_wf {x : List UInt8} {v : Int} (h : okOf x = some v) : (Lit.int .i64 v).wf = true := by
  unfold okOf at h
  rcases hx : Lib.atoiAll x with u | _ | _
  · rw [hx] at h
    cases h
    obtain ⟨h1, h2⟩ := Lib.atoiAll_bounds hx
    simp [Lit.wf, IntKind.min, IntKind.max, IntKind.signed, IntKind.bits]
    omega
  · rw [hx] at h
    cases h
  · rw [hx] at h
    cases h
theorem allOk_wf : ∀ (xs : List (List UInt8)) (g : List Int), allOk xs = some g → ∀ z ∈ g, (Lit.int .i64 z).wf = true
  | [], g, h => by cases h; simp
  | x :: r, g, h => by
    simp only [allOk] at h
    cases hx : okOf x with
    | none => rw [hx] at h; cases h
    | some v =>
      cases hr : allOk r with
      | none => rw [hx, hr] at h; cases h
      | some g' =>
        rw [hx, hr] at h
        cases h
        intro z hz
        rcases List.mem_cons.1 hz with rfl | hz
        · exact okOf_wf hx
        · exact allOk_wf r g' hr z hz
/-- Atoi of a piece: its number, or an error -/
theorem atoi_piece (x : List UInt8) (w : World) (hx : x.length ≤ 1048577) (he : Errs w) :
    Calls Tryd.prog 35 #[.string (bstr x)] w fun e w' => (∃ z er, e = .returned (.tuple #[.int .i64 z, er]) ∧ ((er = .nilIface ∧ okOf x = some z) ∨ (∃ tp p, er = .iface tp p ∧ okOf x = none))) ∧ Below w.heap.size w w' := by
  have hs : (bstr x).size ≤ 281474976710656 := by simp [bstr, ByteArray.size]; omega
  rcases h : Lib.atoiAll x with v | _ | _
  · refine (Tryd.strconv_Atoi_ok (bstr x) (by omega) v h w).mono ?_
    rintro e w' ⟨rfl, hw⟩
    refine ⟨⟨_, _, rfl, .inl ⟨rfl, by unfold okOf; rw [h]⟩⟩, ?_⟩
    rcases hw with rfl | ⟨t, rfl⟩
    · exact Below.refl _ _
    · exact Lib.bytesWorld_below _ _ _
  · obtain ⟨⟨tp, p, hv⟩, _⟩ := he
    refine (Tryd.strconv_Atoi_syntax_var (bstr x) hs h tp p w hv).mono ?_
    rintro e w' ⟨N, rfl, _, _, hb⟩
    exact ⟨⟨_, _, rfl, .inr ⟨_, _, rfl, by unfold okOf; rw [h]⟩⟩, hb⟩
  · obtain ⟨_, tp, p, hv⟩ := he
    refine (Tryd.strconv_Atoi_range_var (bstr x) hs h tp p w hv).mono ?_
    rintro e w' ⟨N, rfl, _, _, hb⟩
    exact ⟨⟨_, _, rfl, .inr ⟨_, _, rfl, by unfold okOf; rw [h]⟩⟩, hb⟩
def inNums (S : ByteArray) : List Int := numsD (parts S.data.toList)
def inGood (S : ByteArray) : Bool := (allOk (parts S.data.toList)).isSome && (joinZ (inNums S) ⟨#[44]⟩ == S)
def numF (S : ByteArray) : List Int := if (allOk (parts S.data.toList)).isSome then inNums S else []
theorem boxed_own {β : Type} (B : Nat) (t : TypeId) (v : Value) : Go.Own (fun (_ : β) W => Boxed W B t v) := fun s X Y row h hg hr => h.kept hg (fun e => by
  obtain ⟨o, ho, hc⟩ := hr B e.symm
  rw [show X.heap[B]? = _ from h] at ho
  cases ho
  cases hc)
theorem boxed_own_ex {β : Type} (B : Nat) (t : TypeId) : Go.Own (fun (_ : β) W => ∃ v, Boxed W B t v) := fun s X Y row ⟨v, h⟩ hg hr => ⟨v, boxed_own (β := β) B t v s X Y row h hg hr⟩
theorem bstr_list (S : ByteArray) : bstr S.data.toList = S := by simp [bstr]
theorem boxed_far {W W' : World} {B : Nat} {t : TypeId} {v : Value} (h : Boxed W B t v) (hb : Below W.heap.size W W') : Boxed W' B t v := (hb.block B h.lt).trans h
theorem keeps_below {B : Nat} {W W' : World} (hb : Below W.heap.size W W') : KeepsFrom B W W' := ⟨hb.size, fun k o _ hk _ => (hb.block k (Array.getElem?_eq_some_iff.1 hk).1).trans hk⟩
/-- between two rounds of numbersIn -/
structure NumI (h : Nat) (w : World) (pre : List (List UInt8)) (W : World) : Prop where
  out : ∃ v, Boxed W (h + 3) 22 v ∧ W.ownsRow h 3 1 v (numsD pre).length ((numsD pre).map (Value.int .i64)) ∧ v.ownBlock ≠ some (h + 6)
  big : h + 7 ≤ W.heap.size
  r0 : Boxed W h 22 (.slice none 0 0)
  r1 : Boxed W (h + 1) 4 (.bool false)
  it : ∃ u, Boxed W (h + 4) 9 u
  ok : allOk pre = some (numsD pre)
  bl : Below h w W
structure NumX (h : Nat) (w : World) (pre : List (List UInt8)) (W : World) : Prop where
  r0 : Boxed W h 22 (.slice none 0 0)
  r1 : Boxed W (h + 1) 4 (.bool false)
  no : allOk pre = none
  bl : Below h w W
theorem numI_from (h B : Nat) (w : World) (hn : h ≤ w.heap.size) (hB : h ≤ B) : OwnFrom B (NumI h w) := fun s X Y row hs hg hr =>
  have hr' : ∀ r, row = some r → ∃ o : Obj, X.heap[r]? = some o ∧ o.isCells = false := fun r e => (hr r e).2
  ⟨holdsRow_own h (h + 3) 22 3 1 (fun pre : List (List UInt8) => (numsD pre).length) (fun pre => (numsD pre).map (Value.int .i64)) (fun _ v => v.ownBlock ≠ some (h + 6)) s X Y row hs.out hg hr', Nat.le_trans hs.big hg.size,
   boxed_own (β := Unit) h 22 _ () X Y row hs.r0 hg hr', boxed_own (β := Unit) (h + 1) 4 _ () X Y row hs.r1 hg hr', boxed_own_ex (β := Unit) (h + 4) 9 () X Y row hs.it hg hr', hs.ok,
   ownFrom_below (β := Unit) hn hB () X Y row hs.bl hg hr⟩
theorem numX_from (h B : Nat) (w : World) (hn : h ≤ w.heap.size) (hB : h ≤ B) (c : Code) : OwnFrom B (fun pre W => c = .ret ∧ NumX h w pre W) := fun s X Y row hs hg hr =>
  have hr' : ∀ r, row = some r → ∃ o : Obj, X.heap[r]? = some o ∧ o.isCells = false := fun r e => (hr r e).2
  ⟨hs.1, boxed_own (β := Unit) h 22 _ () X Y row hs.2.r0 hg hr', boxed_own (β := Unit) (h + 1) 4 _ () X Y row hs.2.r1 hg hr', hs.2.no, ownFrom_below (β := Unit) hn hB () X Y row hs.2.bl hg hr⟩
theorem numI_set {h : Nat} {w : World} {pre : List (List UInt8)} {W : World} (hs : NumI h w pre W) (v : Value) : NumI h w pre (W.setCell ⟨h + 4, 0, none⟩ v) := by
  obtain ⟨u, hu⟩ := hs.it
  obtain ⟨x, hx, hr, hq⟩ := hs.out
  have hg := grownBy_setCell' W (h + 4) v
  refine ⟨⟨x, hx.kept hg (by simp), hr.kept hg (.inr (hu.not_row (by decide) hr).symm), hq⟩, Nat.le_trans hs.big hg.size, hs.r0.kept hg (by simp), hs.r1.kept hg (by simp), ⟨v, hu.set v⟩, hs.ok, hs.bl.setCell (p := ⟨h + 4, 0, none⟩) (by simp) v⟩
theorem kpC_turn (Bp Bs Bv : Nat) (W : World) (l : Nat) (o o' : Obj) (h : W.heap[l]? = some o) (hc : o.isCells = false) : KpC Bp Bs Bv W (W.putObj l o') := by
  have key : ∀ (B : Nat) (t : TypeId) (u : Value), Boxed W B t u → Boxed (W.putObj l o') B t u := fun B t u hu => hu.kept (grownBy_putObj' W l o') (fun e => by
    cases e
    rw [show W.heap[l]? = _ from hu] at h
    cases h
    cases hc)
  exact ⟨key _ _, key _ _, key _ _⟩
theorem kpC_below (Bp Bs Bv : Nat) {W W' : World} (hb : Below W.heap.size W W') : KpC Bp Bs Bv W W' := ⟨fun u hu => boxed_far hu hb, fun u hu => boxed_far hu hb, fun u hu => boxed_far hu hb⟩
theorem atoi_good {x : List UInt8} {z : Int} (h : okOf x = some z) (w : World) (hx : x.length ≤ 1048577) (he : Errs w) :
    Calls Tryd.prog 35 #[.string (bstr x)] w fun e w' => e = .returned (.tuple #[.int .i64 z, .nilIface]) ∧ Below w.heap.size w w' := by
  refine (atoi_piece x w hx he).mono ?_
  rintro e w' ⟨⟨z', er, rfl, (⟨rfl, h1⟩ | ⟨tp, p, rfl, h1⟩)⟩, hb⟩
  · rw [h] at h1
    cases h1
    exact ⟨rfl, hb⟩
  · rw [h] at h1
    cases h1
theorem atoi_bad {x : List UInt8} (h : okOf x = none) (w : World) (hx : x.length ≤ 1048577) (he : Errs w) :
    Calls Tryd.prog 35 #[.string (bstr x)] w fun e w' => (∃ z tp p, e = .returned (.tuple #[.int .i64 z, .iface tp p])) ∧ Below w.heap.size w w' := by
  refine (atoi_piece x w hx he).mono ?_
  rintro e w' ⟨⟨z', er, rfl, (⟨rfl, h1⟩ | ⟨tp, p, rfl, h1⟩)⟩, hb⟩
  · rw [h] at h1
    cases h1
  · exact ⟨⟨_, _, _, rfl⟩, hb⟩
theorem wpListIn_append_ints {F : Fence} {n : Nat} {ops : Array Oper} {rest : List Oper} {o : Oper} {a : Act} {Q : Exit → Act → World → Prop} {w : World} {base m c : Nat} {v : Value} {xs ys : List Int} {A : Option Addr} (hg : o.guard = none) (hown : Own w base v xs) (hr : IR w A m ys) (s x : Operand)
    (ho : o.op = .call { callee := .builtin .append, args := #[s, x], argTypes := #[22, 22] }) (hs : a.eval s = v) (hx : a.eval x = .slice A m c)
    (hl : xs.length + ys.length ≤ 8388608) (hb : base ≤ w.heap.size)
    (h : ∀ v' w', Own w' base v' (xs ++ ys) → w.grownBy w' v.ownBlock → (v'.ownBlock = v.ownBlock ∨ v'.ownBlock = some w.heap.size) → wpListIn F n Tryd.prog ops Q rest (a.put o.dst v') w') : wpListIn F n Tryd.prog ops Q (o :: rest) a w := by
  refine wpListIn_plain hg fun K hK => ?_
  obtain ⟨v', w', hrun, h2, h3, h4⟩ := run_append_ints (ty := o.type) (c := c) hown hr hl hb
  unfold Oper.wpIn
  constructor
  · simp [Oper.about, ho, resolve, Target.leads, Sem.run_pure]
  · rw [Oper.semAt_plain F _ _ (by rw [ho]; intro c hc'; cases hc')]
    simp [execOp, ho, resolve, invoke, builtin, hs, hx, hrun, Result.andThen]
    exact hK _ _ (h v' w' h2 h3 h4)
theorem results_nums (tmps : Array Value) (w : World) (a b : Nat) (v1 v2 : Value) (hp : tmps.getD 4 undef = .pointer (some ⟨a, 0, none⟩)) (hq : tmps.getD 5 undef = .pointer (some ⟨b, 0, none⟩)) (h1 : w.cell? ⟨a, 0, none⟩ = some v1) (h2 : w.cell? ⟨b, 0, none⟩ = some v2) :
    (results Tryd.f22 tmps).run Tryd.prog w = .ok (.tuple #[v1, v2]) w := by
  have e1 : (isAgg 22).run Tryd.prog w = .ok false w := run_isAgg_plain Tryd.underlying22 rfl w
  have e2 : (isAgg 4).run Tryd.prog w = .ok false w := run_isAgg_plain Tryd.underlying4 rfl w
  have hr : Tryd.f22.results = #[.cell 4 22, .cell 5 4] := by kernel_rfl
  have hp' : tmps[4]?.getD undef = .pointer (some ⟨a, 0, none⟩) := by simpa using hp
  have hq' : tmps[5]?.getD undef = .pointer (some ⟨b, 0, none⟩) := by simpa using hq
  simp only [results, hr]
  simp [loadVar, Sem.run_bind, Result.andThen, e1, e2, hp', hq', asAddr, go_sem, h1, h2]
/- slices.Clip of a slice that is known: the same numbers, and no room -/
set_option maxHeartbeats 400000 in
theorem clip_any (A : Option Addr) (n c : Nat) (w : World) (hn : n ≤ c) (hc : c ≤ maxLen) :
    Calls Tryd.prog 36 #[.slice A n c] w fun e w' => e = .returned (.slice A n n) ∧ w = w' := by
  have hc' : c ≤ 9223372036854775807 := by unfold maxLen at hc; omega
  go_enter Tryd.func36, Tryd.ntmps36
  go_wp2
  go_ret
  exact ⟨rfl, rfl⟩
theorem ir_set {W : World} {b n : Nat} {zs : List Int} (h : IR W (some ⟨b, 0, none⟩) n zs) {k : Nat} (hne : b ≠ k) (v : Value) : IR (W.setCell ⟨k, 0, none⟩ v) (some ⟨b, 0, none⟩) n zs :=
  ⟨h.len, h.max, fun hn => by
    obtain ⟨b', o, e, hl, hc⟩ := h.at_ hn
    cases e
    have hg := grownBy_setCell' W k v
    refine ⟨b, 0, rfl, Nat.lt_of_lt_of_le hl hg.size, fun i hi => ?_⟩
    have hk := hg.block b hl (by simpa using hne)
    have := hc i hi
    unfold World.cell? at this ⊢
    rw [hk]
    exact this⟩
theorem ir_turn {W : World} {b n : Nat} {zs : List Int} (h : IR W (some ⟨b, 0, none⟩) n zs) {k : Nat} (hne : b ≠ k) (o : Obj) : IR (W.putObj k o) (some ⟨b, 0, none⟩) n zs :=
  ⟨h.len, h.max, fun hn => by
    obtain ⟨b', o', e, hl, hc⟩ := h.at_ hn
    cases e
    have hg := grownBy_putObj' W k o
    refine ⟨b, 0, rfl, Nat.lt_of_lt_of_le hl hg.size, fun i hi => ?_⟩
    have hk := hg.block b hl (by simpa using hne)
    have := hc i hi
    unfold World.cell? at this ⊢
    rw [hk]
    exact this⟩
structure NE (w : World) (D : Nat) (S T : ByteArray) (b n c : Nat) (zs : List Int) (ok : Bool) (ob : Obj) (L : Nat → Bool) (x26 x27 x28 x29 x30 x31 x32 : Value) (wx : World) : Prop where
  h0 : L 0 = true → x26 = .slice (some ⟨b, 0, none⟩) n c
  h1 : L 1 = true → x27 = .slice (some ⟨b, 0, none⟩) n n
  h2 : L 2 = true → x28 = .slice (some ⟨b, 0, none⟩) n c
  h3 : L 3 = true → x29 = .string ⟨#[44]⟩
  h4 : L 4 = true → x30 = .string T
  h5 : L 5 = true → x31 = .string S
  h6 : L 6 = true → x32 = .bool ok
  c3 : Boxed wx (w.heap.size + 3) 22 (.slice (some ⟨b, 0, none⟩) n c)
  b0 : ∃ u, Boxed wx w.heap.size 22 u
  b1 : ∃ u, Boxed wx (w.heap.size + 1) 4 u
  s7 : L 7 = true → Boxed wx w.heap.size 22 (.slice (some ⟨b, 0, none⟩) n n)
  s8 : L 8 = true → Boxed wx (w.heap.size + 1) 4 (.bool ok)
  ir : IR wx (some ⟨b, 0, none⟩) n zs
  bl : Below w.heap.size w wx
  dd : wx.heap[D]? = some (.deferred (some []))
  hx : wx.heap[b]? = some ob
theorem NE.start {w : World} {D : Nat} {S T : ByteArray} {b n c : Nat} {zs : List Int} {ok : Bool} {ob : Obj} {wx : World} {x26 x27 x28 x29 x30 x31 x32 : Value} (hc : Boxed wx (w.heap.size + 3) 22 (.slice (some ⟨b, 0, none⟩) n c)) (h0 : ∃ u, Boxed wx w.heap.size 22 u) (h1 : ∃ u, Boxed wx (w.heap.size + 1) 4 u) (hi : IR wx (some ⟨b, 0, none⟩) n zs) (hb : Below w.heap.size w wx) (hd : wx.heap[D]? = some (.deferred (some []))) (hx : wx.heap[b]? = some ob) : NE w D S T b n c zs ok ob (fun _ => false) x26 x27 x28 x29 x30 x31 x32 wx :=
  ⟨(fun h => by cases h), (fun h => by cases h), (fun h => by cases h), (fun h => by cases h), (fun h => by cases h), (fun h => by cases h), (fun h => by cases h), hc, h0, h1, (fun h => by cases h), (fun h => by cases h), hi, hb, hd, hx⟩
theorem NE.p0 {w : World} {D : Nat} {S T : ByteArray} {b n c : Nat} {zs : List Int} {ok : Bool} {ob : Obj} {wx : World} {L : Nat → Bool} {x26 x27 x28 x29 x30 x31 x32 : Value} (h : NE w D S T b n c zs ok ob L x26 x27 x28 x29 x30 x31 x32 wx) {v : Value} (hv : v = .slice (some ⟨b, 0, none⟩) n c) : NE w D S T b n c zs ok ob (upd L 0) v x27 x28 x29 x30 x31 x32 wx :=
  ⟨fun _ => hv, fun e => h.h1 (upd_ne e rfl), fun e => h.h2 (upd_ne e rfl), fun e => h.h3 (upd_ne e rfl), fun e => h.h4 (upd_ne e rfl), fun e => h.h5 (upd_ne e rfl), fun e => h.h6 (upd_ne e rfl), h.c3, h.b0, h.b1, fun e => h.s7 (upd_ne e rfl), fun e => h.s8 (upd_ne e rfl), h.ir, h.bl, h.dd, h.hx⟩
theorem NE.p1 {w : World} {D : Nat} {S T : ByteArray} {b n c : Nat} {zs : List Int} {ok : Bool} {ob : Obj} {wx : World} {L : Nat → Bool} {x26 x27 x28 x29 x30 x31 x32 : Value} (h : NE w D S T b n c zs ok ob L x26 x27 x28 x29 x30 x31 x32 wx) {v : Value} (hv : v = .slice (some ⟨b, 0, none⟩) n n) : NE w D S T b n c zs ok ob (upd L 1) x26 v x28 x29 x30 x31 x32 wx :=
  ⟨fun e => h.h0 (upd_ne e rfl), fun _ => hv, fun e => h.h2 (upd_ne e rfl), fun e => h.h3 (upd_ne e rfl), fun e => h.h4 (upd_ne e rfl), fun e => h.h5 (upd_ne e rfl), fun e => h.h6 (upd_ne e rfl), h.c3, h.b0, h.b1, fun e => h.s7 (upd_ne e rfl), fun e => h.s8 (upd_ne e rfl), h.ir, h.bl, h.dd, h.hx⟩
theorem NE.p2 {w : World} {D : Nat} {S T : ByteArray} {b n c : Nat} {zs : List Int} {ok : Bool} {ob : Obj} {wx : World} {L : Nat → Bool} {x26 x27 x28 x29 x30 x31 x32 : Value} (h : NE w D S T b n c zs ok ob L x26 x27 x28 x29 x30 x31 x32 wx) {v : Value} (hv : v = .slice (some ⟨b, 0, none⟩) n c) : NE w D S T b n c zs ok ob (upd L 2) x26 x27 v x29 x30 x31 x32 wx :=
  ⟨fun e => h.h0 (upd_ne e rfl), fun e => h.h1 (upd_ne e rfl), fun _ => hv, fun e => h.h3 (upd_ne e rfl), fun e => h.h4 (upd_ne e rfl), fun e => h.h5 (upd_ne e rfl), fun e => h.h6 (upd_ne e rfl), h.c3, h.b0, h.b1, fun e => h.s7 (upd_ne e rfl), fun e => h.s8 (upd_ne e rfl), h.ir, h.bl, h.dd, h.hx⟩
theorem NE.p3 {w : World} {D : Nat} {S T : ByteArray} {b n c : Nat} {zs : List Int} {ok : Bool} {ob : Obj} {wx : World} {L : Nat → Bool} {x26 x27 x28 x29 x30 x31 x32 : Value} (h : NE w D S T b n c zs ok ob L x26 x27 x28 x29 x30 x31 x32 wx) {v : Value} (hv : v = .string ⟨#[44]⟩) : NE w D S T b n c zs ok ob (upd L 3) x26 x27 x28 v x30 x31 x32 wx :=
  ⟨fun e => h.h0 (upd_ne e rfl), fun e => h.h1 (upd_ne e rfl), fun e => h.h2 (upd_ne e rfl), fun _ => hv, fun e => h.h4 (upd_ne e rfl), fun e => h.h5 (upd_ne e rfl), fun e => h.h6 (upd_ne e rfl), h.c3, h.b0, h.b1, fun e => h.s7 (upd_ne e rfl), fun e => h.s8 (upd_ne e rfl), h.ir, h.bl, h.dd, h.hx⟩
theorem NE.p5 {w : World} {D : Nat} {S T : ByteArray} {b n c : Nat} {zs : List Int} {ok : Bool} {ob : Obj} {wx : World} {L : Nat → Bool} {x26 x27 x28 x29 x30 x31 x32 : Value} (h : NE w D S T b n c zs ok ob L x26 x27 x28 x29 x30 x31 x32 wx) {v : Value} (hv : v = .string S) : NE w D S T b n c zs ok ob (upd L 5) x26 x27 x28 x29 x30 v x32 wx :=
  ⟨fun e => h.h0 (upd_ne e rfl), fun e => h.h1 (upd_ne e rfl), fun e => h.h2 (upd_ne e rfl), fun e => h.h3 (upd_ne e rfl), fun e => h.h4 (upd_ne e rfl), fun _ => hv, fun e => h.h6 (upd_ne e rfl), h.c3, h.b0, h.b1, fun e => h.s7 (upd_ne e rfl), fun e => h.s8 (upd_ne e rfl), h.ir, h.bl, h.dd, h.hx⟩
theorem NE.p6 {w : World} {D : Nat} {S T : ByteArray} {b n c : Nat} {zs : List Int} {ok : Bool} {ob : Obj} {wx : World} {L : Nat → Bool} {x26 x27 x28 x29 x30 x31 x32 : Value} (h : NE w D S T b n c zs ok ob L x26 x27 x28 x29 x30 x31 x32 wx) {v : Value} (hv : v = .bool ok) : NE w D S T b n c zs ok ob (upd L 6) x26 x27 x28 x29 x30 x31 v wx :=
  ⟨fun e => h.h0 (upd_ne e rfl), fun e => h.h1 (upd_ne e rfl), fun e => h.h2 (upd_ne e rfl), fun e => h.h3 (upd_ne e rfl), fun e => h.h4 (upd_ne e rfl), fun e => h.h5 (upd_ne e rfl), fun _ => hv, h.c3, h.b0, h.b1, fun e => h.s7 (upd_ne e rfl), fun e => h.s8 (upd_ne e rfl), h.ir, h.bl, h.dd, h.hx⟩
theorem NE.call {w : World} {D : Nat} {S T : ByteArray} {b n c : Nat} {zs : List Int} {ok : Bool} {ob : Obj} {wx : World} {L : Nat → Bool} {x26 x27 x28 x29 x30 x31 x32 : Value} (h : NE w D S T b n c zs ok ob L x26 x27 x28 x29 x30 x31 x32 wx) {wy : World} (hb : Below wx.heap.size wx wy) : NE w D S T b n c zs ok ob (upd L 4) x26 x27 x28 x29 (.string T) x31 x32 wy := by
  exact ⟨fun e => h.h0 (upd_ne e rfl), fun e => h.h1 (upd_ne e rfl), fun e => h.h2 (upd_ne e rfl), fun e => h.h3 (upd_ne e rfl), fun _ => rfl, fun e => h.h5 (upd_ne e rfl), fun e => h.h6 (upd_ne e rfl), boxed_far h.c3 hb, h.b0.imp fun _ q => boxed_far q hb, h.b1.imp fun _ q => boxed_far q hb, fun e => boxed_far (h.s7 (upd_ne e rfl)) hb, fun e => boxed_far (h.s8 (upd_ne e rfl)) hb, h.ir.below hb, h.bl.trans (hb.mono h.bl.size), (hb.block D (Array.getElem?_eq_some_iff.1 h.dd).1).trans h.dd, (hb.block b (Array.getElem?_eq_some_iff.1 h.hx).1).trans h.hx⟩
theorem NE.st7 {w : World} {D : Nat} {S T : ByteArray} {b n c : Nat} {zs : List Int} {ok : Bool} {ob : Obj} {wx : World} {L : Nat → Bool} {x26 x27 x28 x29 x30 x31 x32 : Value} (h : NE w D S T b n c zs ok ob L x26 x27 x28 x29 x30 x31 x32 wx) (hne : b ≠ w.heap.size) (hD : w.heap.size + 7 ≤ D) : NE w D S T b n c zs ok ob (upd L 7) x26 x27 x28 x29 x30 x31 x32 (wx.setCell ⟨w.heap.size, 0, none⟩ (.slice (some ⟨b, 0, none⟩) n n)) := by
  exact ⟨fun e => h.h0 (upd_ne e rfl), fun e => h.h1 (upd_ne e rfl), fun e => h.h2 (upd_ne e rfl), fun e => h.h3 (upd_ne e rfl), fun e => h.h4 (upd_ne e rfl), fun e => h.h5 (upd_ne e rfl), fun e => h.h6 (upd_ne e rfl), h.c3.kept (grownBy_setCell' _ _ _) (by simp), h.b0.elim fun _ q => ⟨_, q.set _⟩, h.b1.imp fun _ q => q.kept (grownBy_setCell' _ _ _) (by simp), fun _ => h.b0.elim fun _ q => q.set _, fun e => (h.s8 (upd_ne e rfl)).kept (grownBy_setCell' _ _ _) (by simp), ir_set h.ir hne _, h.bl.setCell (p := ⟨w.heap.size, 0, none⟩) (Nat.le_refl _) _, (Below.heap_setCell _ _ _ _ (show D ≠ w.heap.size by omega)).trans h.dd, (Below.heap_setCell _ _ _ _ hne).trans h.hx⟩
theorem NE.st8 {w : World} {D : Nat} {S T : ByteArray} {b n c : Nat} {zs : List Int} {ok : Bool} {ob : Obj} {wx : World} {L : Nat → Bool} {x26 x27 x28 x29 x30 x31 x32 : Value} (h : NE w D S T b n c zs ok ob L x26 x27 x28 x29 x30 x31 x32 wx) (hne : b ≠ w.heap.size + 1) (hD : w.heap.size + 7 ≤ D) : NE w D S T b n c zs ok ob (upd L 8) x26 x27 x28 x29 x30 x31 x32 (wx.setCell ⟨w.heap.size + 1, 0, none⟩ (.bool ok)) := by
  exact ⟨fun e => h.h0 (upd_ne e rfl), fun e => h.h1 (upd_ne e rfl), fun e => h.h2 (upd_ne e rfl), fun e => h.h3 (upd_ne e rfl), fun e => h.h4 (upd_ne e rfl), fun e => h.h5 (upd_ne e rfl), fun e => h.h6 (upd_ne e rfl), h.c3.kept (grownBy_setCell' _ _ _) (by simp), h.b0.imp fun _ q => q.kept (grownBy_setCell' _ _ _) (by simp), h.b1.elim fun _ q => ⟨_, q.set _⟩, fun e => (h.s7 (upd_ne e rfl)).kept (grownBy_setCell' _ _ _) (by simp), fun _ => h.b1.elim fun _ q => q.set _, ir_set h.ir hne _, h.bl.setCell (p := ⟨w.heap.size + 1, 0, none⟩) (by simp) _, (Below.heap_setCell _ _ _ _ (show D ≠ w.heap.size + 1 by omega)).trans h.dd, (Below.heap_setCell _ _ _ _ hne).trans h.hx⟩
set_option maxRecDepth 100000 in
set_option maxHeartbeats 4000000 in
theorem numbersIn_any (S : ByteArray) (w : World) (hS : S.size ≤ 1048577) (ht : Tens w) (he : Errs w) :
    Calls Tryd.prog 22 #[.string S, .string ⟨#[44]⟩] w fun e w' => (∃ v, e = .returned (.tuple #[v, .bool (inGood S)]) ∧ Mine w' w.heap.size v (numF S)) ∧ Below w.heap.size w w' := by
  have HT := hide ht
  have HR := hide he
  clear ht he
  refine (callsIn_wide (n := 9)).1 ?_
  obtain ⟨i0, hi, hz0, hz1, hz2⟩ := info_parts int_info
  refine callsIn_of_wp_marks Tryd.func22 rfl trivial ?_ rfl
  simp only [Tryd.ntmps22, List.size_toArray, List.length_cons, List.length_nil, Nat.reduceAdd, Nat.reduceSub, Array.replicate_succ, Array.replicate_zero, List.push_toArray, List.append_toArray, List.nil_append, List.cons_append]
  gi_wp2_with (refine ⟨trivial, ?_⟩; gi_at_call 34; refine (callsIn_wide.2 (SplitSeq_any S ⟨#[44]⟩ _)).mono ?_; rintro e w' ⟨rfl, rfl⟩)
  have hW : ∃ W0 : World, W0 = seqW ((((w.alloc (.cells #[.slice none 0 0] 22)).alloc (.cells #[.bool false] 4)).alloc (.cells #[] 3)).alloc (.cells #[.slice (some ⟨w.heap.size + 1 + 1, 0, none⟩) 0 0] 22)) S ⟨#[44]⟩ := ⟨_, rfl⟩
  obtain ⟨W0, hW0⟩ := hW
  rw [← hW0]
  have hz : W0.heap.size = w.heap.size + 7 := by rw [hW0]; simp [seqW]
  have hbl : Below w.heap.size w W0 := by rw [hW0]; unfold seqW; go_grown
  have q0 : Boxed W0 w.heap.size 22 (.slice none 0 0) := by
    rw [hW0]
    exact ((((((Boxed.new w _ _).alloc _).alloc _).alloc _).alloc _).alloc _).alloc _
  have q1 : Boxed W0 (w.heap.size + 1) 4 (.bool false) := by
    rw [hW0]
    have := Boxed.new (w.alloc (.cells #[.slice none 0 0] 22)) 4 (.bool false)
    rw [World.size_alloc] at this
    exact ((((this.alloc _).alloc _).alloc _).alloc _).alloc _
  have q3 : Boxed W0 (w.heap.size + 3) 22 (.slice (some ⟨w.heap.size + 2, 0, none⟩) 0 0) := by
    rw [hW0]
    have := Boxed.new (((w.alloc (.cells #[.slice none 0 0] 22)).alloc (.cells #[.bool false] 4)).alloc (.cells #[] 3)) 22 (.slice (some ⟨w.heap.size + 2, 0, none⟩) 0 0)
    simp only [World.size_alloc] at this
    exact ((this.alloc _).alloc _).alloc _
  have q4 : Boxed W0 (w.heap.size + 4) 9 (.string S) := by
    rw [hW0]
    have := Boxed.new ((((w.alloc (.cells #[.slice none 0 0] 22)).alloc (.cells #[.bool false] 4)).alloc (.cells #[] 3)).alloc (.cells #[.slice (some ⟨w.heap.size + 1 + 1, 0, none⟩) 0 0] 22)) 9 (.string S)
    simp only [World.size_alloc] at this
    exact (this.alloc _).alloc _
  have q5 : Boxed W0 (w.heap.size + 4 + 1) 9 (.string ⟨#[44]⟩) := by
    rw [hW0]
    have := Boxed.new (((((w.alloc (.cells #[.slice none 0 0] 22)).alloc (.cells #[.bool false] 4)).alloc (.cells #[] 3)).alloc (.cells #[.slice (some ⟨w.heap.size + 1 + 1, 0, none⟩) 0 0] 22)).alloc (.cells #[.string S] 9)) 9 (.string ⟨#[44]⟩)
    simp only [World.size_alloc] at this
    exact this.alloc _
  have q6 : Boxed W0 (w.heap.size + 4 + 2) 3 (.int .i64 0) := by
    rw [hW0]
    have := Boxed.new ((((((w.alloc (.cells #[.slice none 0 0] 22)).alloc (.cells #[.bool false] 4)).alloc (.cells #[] 3)).alloc (.cells #[.slice (some ⟨w.heap.size + 1 + 1, 0, none⟩) 0 0] 22)).alloc (.cells #[.string S] 9)).alloc (.cells #[.string ⟨#[44]⟩] 9)) 3 (.int .i64 0)
    simp only [World.size_alloc] at this
    exact this
  have qr : W0.ownsRow w.heap.size 3 1 (.slice (some ⟨w.heap.size + 2, 0, none⟩) 0 0) 0 [] := by
    have h1 := Own.nil0 ((w.alloc (.cells #[.slice none 0 0] 22)).alloc (.cells #[.bool false] 4)) w.heap.size (by simp; omega)
    simp only [World.size_alloc] at h1
    rw [hW0]
    exact (((World.ownsRow.alloc h1 _).alloc _).alloc _).alloc _
  have hI0 : NumI w.heap.size w [] W0 := ⟨⟨_, q3, qr, by simp [Value.ownBlock]⟩, by omega, q0, q1, ⟨_, q4⟩, rfl, hbl⟩
  clear hW0
  have hsz : S.data.toList.length = S.size := by simp
  have HPM := hide (fun x (hx : x ∈ parts S.data.toList) => (show x.length ≤ 1048577 by have := parts_mem hx; omega))
  have HPL := hide (parts_len S)
  refine range_cut rfl (by decide) (gf := 51) (lb := #[.pointer (some ⟨w.heap.size + 4 + 1, 0, none⟩), .pointer (some ⟨w.heap.size + 4, 0, none⟩), .pointer (some ⟨w.heap.size + 4 + 2, 0, none⟩)]) rfl trivial (enters_of Tryd.func51 (by kernel_rfl) rfl)
    (split_stops (9 - 1) (by decide) (w.heap.size + 4 + 1) (w.heap.size + 4) (w.heap.size + 4 + 2) (by omega) (by omega) S.data.toList (by omega) W0 q5 (by rw [bstr_list]; exact q4) q6) (by omega)
    (fun h k => KpC.trans h k) (fun W l o o' _ h hc => kpC_turn _ _ _ W l o o' h hc) (fun _ => rfl)
    (NumI w.heap.size w) (fun c pre W => c = .ret ∧ NumX w.heap.size w pre W) (numI_from _ _ w (Nat.le_refl _) (by omega)) (numX_from _ _ w (Nat.le_refl _) (by omega)) (fun s X v hs => numI_set hs v) hI0
    (fun x => { tmps := #[.string S, .string ⟨#[44]⟩, undef, undef, .pointer (some ⟨w.heap.size, 0, none⟩), .pointer (some ⟨w.heap.size + 1, 0, none⟩), .pointer (some ⟨w.heap.size + 1 + 1 + 1, 0, none⟩), .string (bstr x), undef, undef,
      .slice (some ⟨w.heap.size + 1 + 1, 0, none⟩) 0 0, .string S, .string ⟨#[44]⟩, seqV (w.heap.size + 1 + 1 + 1 + 1), .string (bstr x), undef, undef, undef, undef, undef, undef, undef, undef, undef, undef, undef, undef, undef, undef, undef, undef, undef, undef], defers := [] }) ?assign ?body ?done ?stop
  case assign =>
    intro l x W K hK
    gi_wp2
    exact hK
  case body =>
    rintro l pre x W hI hpre
    have hx : x.length ≤ 1048577 := HPM.out x (hpre.subset (by simp))
    have hpl : pre.length + 1 ≤ S.size + 1 := by
      have := hpre.length_le
      simp at this
      have := HPL.out
      omega
    have hsW := hI.bl.size
    have HE := hide (HR.out.below hI.bl)
    have HI := hide hI
    clear hI q0 q1 q3 q4 q5 q6 qr hI0 hpre
    cases hok : okOf x with
    | none =>
      have HA := hide (atoi_bad hok W hx HE.out)
      have HNO : Hid (allOk (pre ++ [x]) = none) := Lib.hid (by rw [allOk_snoc, HI.out.ok, hok])
      clear hok
      gi_wp2_with (refine ⟨trivial, ?_⟩; gi_at_call 35; refine (CallsIn.inRound l (callsIn_wide.2 HA.out)).mono ?_; rintro e w' ⟨⟨z, tp, p, rfl⟩, hb⟩; have b0 := boxed_far HI.out.r0 hb; have b1 := boxed_far HI.out.r1 hb; have c0 := b0.cell; have f0 := b0.frozen; have c1 := b1.cell; have f1 := b1.frozen)
      refine ⟨(keeps_below hb).trans (((KeepsOthers.setCell _ _ _).trans (KeepsOthers.setCell _ _ _)).from _), rfl, ?_⟩
      exact ⟨(b0.set _).kept (grownBy_setCell' _ _ _) (by simp), (b1.kept (grownBy_setCell' _ _ _) (by simp)).set _, HNO.out, ((HI.out.bl.trans (hb.mono hsW)).setCell (p := ⟨w.heap.size, 0, none⟩) (Nat.le_refl _) _).setCell (p := ⟨w.heap.size + 1, 0, none⟩) (by simp) _⟩
    | some z =>
      have HA := hide (atoi_good hok W hx HE.out)
      have hsn : allOk (pre ++ [x]) = some (numsD pre ++ [z]) := by rw [allOk_snoc, HI.out.ok, hok]
      have hnd : numsD (pre ++ [x]) = numsD pre ++ [z] := by unfold numsD; rw [hsn]; rfl
      have hlen : (numsD pre).length = pre.length := allOk_len pre _ HI.out.ok
      have HSN := hide hsn
      have HND := hide hnd
      obtain ⟨v, hv, hrow, hq⟩ := HI.out.out
      have HV := hide hv
      have HROW := hide (show Own W w.heap.size v (numsD pre) from hrow)
      have HQ := hide hq
      have hbig := HI.out.big
      have hlb : (numsD pre).length + 1 ≤ 1048578 := by omega
      clear hok hsn hnd hv hrow hq hlen
      gi_wp2_with (first | (refine ⟨trivial, ?_⟩; gi_at_call 35; refine (CallsIn.inRound l (callsIn_wide.2 HA.out)).mono ?_; rintro e w' ⟨rfl, hb⟩; have hsb := hb.size; have b3 := boxed_far HV.out hb; have c3 := b3.cell; have row3 := HROW.out.below hb) | (gi_at_builtin; refine wpListIn_append_ints rfl (row3.alloc _) (lit1 w' z) (.tmp 22) (.tmp 24) rfl rfl rfl (by simp; omega) (by simp; omega) ?_; intro v' w2 h2 h3 h4; have h2' : w2.ownsRow w.heap.size 3 1 v' ((numsD pre).length + 1) ((numsD pre ++ [z]).map (Value.int .i64)) := (by have := h2; unfold Own at this; rwa [List.length_append] at this); obtain ⟨g', cap', rfl⟩ := ownsRow_succ h2'; obtain ⟨hv1, hv2, hr2, hk2, hb2⟩ := b3.appended (by decide) row3 (by omega) (by omega) h2' h3; have hc1 := hv1.cell; have hf1 := hv1.frozen))
      have hqn : (Value.slice (some ⟨g', 0, none⟩) ((numsD pre).length + 1) cap').ownBlock ≠ some (w.heap.size + 6) := by
        rcases h4 with h4 | h4
        · rw [h4]; exact HQ.out
        · rw [h4]
          simp
          omega
      have kB : ∀ (B : Nat) (t : TypeId) (u : Value), B ≠ w.heap.size + 3 → (t ≠ 3 ∨ B = w.heap.size + 6) → Boxed W B t u → Boxed (w2.setCell ⟨w.heap.size + 3, 0, none⟩ (.slice (some ⟨g', 0, none⟩) ((numsD pre).length + 1) cap')) B t u := fun B t u h1 h2 hu => by
        have hu' := boxed_far hu hb
        refine ((hu'.alloc _).kept h3 ?_).kept (grownBy_setCell' _ _ _) (by simpa using h1)
        rcases h2 with h2 | rfl
        · exact hu'.not_row h2 row3
        · exact HQ.out.symm
      refine ⟨(keeps_below hb).trans (hk2.from _), ⟨fun u hu => kB (w.heap.size + 4 + 1) 9 u (by omega) (.inl (by decide)) hu, fun u hu => kB (w.heap.size + 4) 9 u (by omega) (.inl (by decide)) hu, fun u hu => kB (w.heap.size + 4 + 2) 3 u (by omega) (.inr (by omega)) hu⟩, ?_⟩
      have hb3 := hb2.size
      exact ⟨⟨_, hv2, by rw [HND.out]; simpa using hr2, hqn⟩, (show w.heap.size + 7 ≤ (w2.setCell ⟨w.heap.size + 3, 0, none⟩ _).heap.size by omega), kB _ _ _ (by omega) (.inl (by decide)) HI.out.r0, kB _ _ _ (by omega) (.inl (by decide)) HI.out.r1, (HI.out.it).imp fun u hu => kB _ _ u (by omega) (.inl (by decide)) hu, by rw [HSN.out, HND.out], (HI.out.bl.trans (hb.mono hsW)).trans hb2⟩
  case done =>
    rintro ys W rfl hI hK
    obtain ⟨v, hv, hrow, hq⟩ := hI.out
    have hlenP : (numsD (parts S.data.toList)).length = (parts S.data.toList).length := allOk_len _ _ hI.ok
    have hpos : 0 < (numsD (parts S.data.toList)).length := by rw [hlenP]; simp [parts]
    have hOwn : Own W w.heap.size v (numsD (parts S.data.toList)) := hrow
    obtain ⟨b, c, rfl, hbh, hblt, hnc, hcm⟩ : ∃ g c, v = .slice (some ⟨g, 0, none⟩) (numsD (parts S.data.toList)).length c ∧ w.heap.size ≤ g ∧ g < W.heap.size ∧ (numsD (parts S.data.toList)).length ≤ c ∧ c ≤ maxLen := by
      rcases hOwn.form with ⟨_, h0⟩ | h
      · rw [h0] at hpos; simp at hpos
      · exact h
    have hne0 : b ≠ w.heap.size := fun e => hI.r0.not_row (t := 22) (by decide) hrow (by simp [Value.ownBlock, e])
    have hne1 : b ≠ w.heap.size + 1 := fun e => hI.r1.not_row (t := 4) (by decide) hrow (by simp [Value.ownBlock, e])
    have hIR := hOwn.reads
    obtain ⟨cur, hcur, hcs, hcm2, hct⟩ : ∃ cur, W.heap[b]? = some (.cells cur 3 (0, 0)) ∧ (numsD (parts S.data.toList)).length ≤ cur.size ∧ (numsD (parts S.data.toList)).length ≤ maxLen ∧ cur.toList.take (numsD (parts S.data.toList)).length = (numsD (parts S.data.toList)).map (Value.int .i64) := by
      rcases hOwn.mine with ⟨e, _⟩ | ⟨g, c', cur, e, _, h1, h2, h3, h4⟩
      · cases e
      · cases e
        exact ⟨cur, h1, h2, h3, h4⟩
    have HCUR := hide (show _ ∧ _ ∧ _ from ⟨hcs, hcm2, hct⟩)
    clear hcs hcm2 hct
    have hnB : (numsD (parts S.data.toList)).length ≤ 1048578 := by rw [hlenP]; have := HPL.out; omega
    have HZ := hide (allOk_wf _ _ hI.ok)
    have HTX := Lib.hid (show joinZ (numsD (parts S.data.toList)) ⟨#[44]⟩ = joinZ (inNums S) ⟨#[44]⟩ from rfl)
    have HQ := hide (show (allOk (parts S.data.toList)) = some (numsD (parts S.data.toList)) from hI.ok)
    obtain ⟨ok, hok⟩ : ∃ ok, inGood S = ok := ⟨_, rfl⟩
    have HOKE := Lib.hid hok
    have HOK : Hid (Value.bool ((joinZ (inNums S) ⟨#[44]⟩).toList == S.toList) = .bool ok) := Lib.hid (by
      rw [← hok]
      congr 1
      unfold inGood
      rw [hI.ok]
      simp only [Option.isSome, Bool.true_and]
      by_cases e : joinZ (inNums S) ⟨#[44]⟩ = S
      · rw [e, (bytes_eq S S).2 rfl]
        simp
      · rw [list_beq e]
        exact (Bool.eq_false_iff.2 (fun h => e ((bytes_eq _ _).1 h))).symm)
    have hneD : b ≠ W0.heap.size := fun e => by
      obtain ⟨b', o, e', _, hc⟩ := hIR.at_ hpos
      cases e'
      have hc0 := hc 0 hpos
      unfold World.cell? at hc0
      rw [e, hK] at hc0
      simp at hc0
    have HST := hide (show ∀ y0 y1 y2 y3 y4 y5 y6 : Value, NE w W0.heap.size S (joinZ (inNums S) ⟨#[44]⟩) b _ c (numsD (parts S.data.toList)) ok (.cells cur 3 (0, 0)) (fun _ => false) y0 y1 y2 y3 y4 y5 y6 { W with drawn := W.drawn + 1 } from fun _ _ _ _ _ _ _ => NE.start hv ⟨_, hI.r0⟩ ⟨_, hI.r1⟩ (hIR.keep (Nat.le_refl _) (fun _ _ => rfl)) (hI.bl.drew) hK hcur)
    have c3 := hv.cell
    clear hlenP hpos
    have hDD : w.heap.size + 7 ≤ W0.heap.size := by omega
    generalize hzs : numsD (parts S.data.toList) = zs at *
    generalize hzn : zs.length = n at *
    generalize hT : joinZ (inNums S) ⟨#[44]⟩ = T at *
    have HZS := Lib.hid hzs
    have HZN := Lib.hid hzn
    have HTE := Lib.hid hT
    clear q0 q1 q3 q4 q5 q6 qr hI0 hI hK hq hrow hv hok hOwn hIR hzs hzn hT hz hcur
    gi_wp2
    refine wpIn_wide.2 ?_
    refine wp_frame fun a0 ha0 => ?_
    have HA := Lib.hid ha0
    clear ha0
    refine wp_region_inv (fun L a wx => ∃ x26 x27 x28 x29 x30 x31 x32, a = putL a0 [(26, x26), (27, x27), (28, x28), (29, x29), (30, x30), (31, x31), (32, x32)] ∧ Hid (NE w W0.heap.size S T b n c zs ok (.cells cur 3 (0, 0)) L x26 x27 x28 x29 x30 x31 x32 wx)) (by kernel_rfl) (by kernel_rfl) ?_ ?_ ?_
    · exact ⟨_, _, _, _, _, _, _, putL_self a0 [26, 27, 28, 29, 30, 31, 32], hide (HST.out _ _ _ _ _ _ _)⟩
    · refine ⟨?_, ?_, ?_, ?_, ?_, ?_, ?_, ?_, ?_, trivial⟩
      · intro L a wx hL0 hd
        rintro ⟨x26, x27, x28, x29, x30, x31, x32, rfl, HJ⟩
        have hD := hd
        try simp [deps, Region.binds] at hD
        have c3 := HJ.out.c3.cell
        clear hD hd
        rw [← HA.out]
        simp only [putL, List.setIfInBounds_toArray, List.set_cons_succ, List.set_cons_zero]
        go_wp2_with fail
        refine ⟨_, _, _, _, _, _, _, ?_, hide (HJ.out.p0 rfl)⟩
        · try rw [← HA.out]
          try simp only [putL, List.setIfInBounds_toArray, List.set_cons_succ, List.set_cons_zero]
      · intro L a wx hL0 hd
        rintro ⟨x26, x27, x28, x29, x30, x31, x32, rfl, HJ⟩
        have hD := hd
        try simp [deps, Region.binds] at hD
        obtain rfl := HJ.out.h0 (by simp [hD])
        clear hD hd
        rw [← HA.out]
        simp only [putL, List.setIfInBounds_toArray, List.set_cons_succ, List.set_cons_zero]
        go_wp2_with fail
        refine (clip_any (some ⟨b, 0, none⟩) n c _ hnc hcm).mono ?_
        rintro e w1 ⟨rfl, rfl⟩
        go_wp2_with fail
        refine ⟨_, _, _, _, _, _, _, ?_, hide (HJ.out.p1 rfl)⟩
        · try rw [← HA.out]
          try simp only [putL, List.setIfInBounds_toArray, List.set_cons_succ, List.set_cons_zero]
      · intro L a wx hL0 hd
        rintro ⟨x26, x27, x28, x29, x30, x31, x32, rfl, HJ⟩
        have hD := hd
        try simp [deps, Region.binds] at hD
        have c3 := HJ.out.c3.cell
        clear hD hd
        rw [← HA.out]
        simp only [putL, List.setIfInBounds_toArray, List.set_cons_succ, List.set_cons_zero]
        go_wp2_with fail
        refine ⟨_, _, _, _, _, _, _, ?_, hide (HJ.out.p2 rfl)⟩
        · try rw [← HA.out]
          try simp only [putL, List.setIfInBounds_toArray, List.set_cons_succ, List.set_cons_zero]
      · intro L a wx hL0 hd
        rintro ⟨x26, x27, x28, x29, x30, x31, x32, rfl, HJ⟩
        have hD := hd
        try simp [deps, Region.binds] at hD
        clear hD hd
        rw [← HA.out]
        simp only [putL, List.setIfInBounds_toArray, List.set_cons_succ, List.set_cons_zero]
        go_wp2_with fail
        refine ⟨_, _, _, _, _, _, _, ?_, hide (HJ.out.p3 rfl)⟩
        · try rw [← HA.out]
          try simp only [putL, List.setIfInBounds_toArray, List.set_cons_succ, List.set_cons_zero]
      · intro L a wx hL0 hd
        rintro ⟨x26, x27, x28, x29, x30, x31, x32, rfl, HJ⟩
        have hD := hd
        try simp [deps, Region.binds] at hD
        obtain rfl := HJ.out.h2 (by simp [hD])
        obtain rfl := HJ.out.h3 (by simp [hD])
        clear hD hd
        rw [← HA.out]
        simp only [putL, List.setIfInBounds_toArray, List.set_cons_succ, List.set_cons_zero]
        go_wp2_with fail
        refine (joinZ_any (some ⟨b, 0, none⟩) n c zs ⟨#[44]⟩ _ HJ.out.ir (by omega) HZ.out (by simp) (HT.out.below HJ.out.bl)).mono ?_
        rintro e w1 ⟨rfl, hb⟩
        have HJ2 := hide (HJ.out.call hb)
        clear hb
        rw [HTX.out]
        go_wp2_with fail
        refine ⟨_, _, _, _, _, _, _, ?_, hide (HJ2.out)⟩
        · try rw [← HA.out]
          try simp only [putL, List.setIfInBounds_toArray, List.set_cons_succ, List.set_cons_zero]
      · intro L a wx hL0 hd
        rintro ⟨x26, x27, x28, x29, x30, x31, x32, rfl, HJ⟩
        have hD := hd
        try simp [deps, Region.binds] at hD
        clear hD hd
        rw [← HA.out]
        simp only [putL, List.setIfInBounds_toArray, List.set_cons_succ, List.set_cons_zero]
        go_wp2_with fail
        refine ⟨_, _, _, _, _, _, _, ?_, hide (HJ.out.p5 rfl)⟩
        · try rw [← HA.out]
          try simp only [putL, List.setIfInBounds_toArray, List.set_cons_succ, List.set_cons_zero]
      · intro L a wx hL0 hd
        rintro ⟨x26, x27, x28, x29, x30, x31, x32, rfl, HJ⟩
        have hD := hd
        try simp [deps, Region.binds] at hD
        obtain rfl := HJ.out.h4 (by simp [hD])
        obtain rfl := HJ.out.h5 (by simp [hD])
        clear hD hd
        rw [← HA.out]
        simp only [putL, List.setIfInBounds_toArray, List.set_cons_succ, List.set_cons_zero]
        go_wp2_with fail
        refine ⟨_, _, _, _, _, _, _, ?_, hide (HJ.out.p6 HOK.out)⟩
        · try rw [← HA.out]
          try simp only [putL, List.setIfInBounds_toArray, List.set_cons_succ, List.set_cons_zero]
      · intro L a wx hL0 hd
        rintro ⟨x26, x27, x28, x29, x30, x31, x32, rfl, HJ⟩
        have hD := hd
        try simp [deps, Region.binds] at hD
        obtain rfl := HJ.out.h1 (by simp [hD])
        obtain ⟨u0, q0⟩ := HJ.out.b0
        have c0 := q0.cell
        have f0 := q0.frozen
        clear q0
        clear hD hd
        rw [← HA.out]
        simp only [putL, List.setIfInBounds_toArray, List.set_cons_succ, List.set_cons_zero]
        go_wp2_with fail
        refine ⟨_, _, _, _, _, _, _, ?_, hide (HJ.out.st7 hne0 hDD)⟩
        · try rw [← HA.out]
          try simp only [putL, List.setIfInBounds_toArray, List.set_cons_succ, List.set_cons_zero]
      · intro L a wx hL0 hd
        rintro ⟨x26, x27, x28, x29, x30, x31, x32, rfl, HJ⟩
        have hD := hd
        try simp [deps, Region.binds] at hD
        obtain rfl := HJ.out.h6 (by simp [hD])
        obtain ⟨u1, q1⟩ := HJ.out.b1
        have c1 := q1.cell
        have f1 := q1.frozen
        clear q1
        clear hD hd
        rw [← HA.out]
        simp only [putL, List.setIfInBounds_toArray, List.set_cons_succ, List.set_cons_zero]
        go_wp2_with fail
        refine ⟨_, _, _, _, _, _, _, ?_, hide (HJ.out.st8 hne1 hDD)⟩
        · try rw [← HA.out]
          try simp only [putL, List.setIfInBounds_toArray, List.set_cons_succ, List.set_cons_zero]
    · intro L a wx hall
      rintro ⟨x26, x27, x28, x29, x30, x31, x32, rfl, HJ⟩
      rw [← HA.out]
      simp only [putL, List.setIfInBounds_toArray, List.set_cons_succ, List.set_cons_zero]
      have r7 := HJ.out.s7 (hall 7 (by decide))
      have r8 := HJ.out.s8 (hall 8 (by decide))
      gi_wp2
      refine ⟨by simp, .inl ⟨_, _, rfl, run_takeDeferred HJ.out.dd, ?_⟩⟩
      have d0 := (r7.kept (grownBy_putObj' wx W0.heap.size (.deferred none)) (by simp; omega)).cell
      have d1 := (r8.kept (grownBy_putObj' wx W0.heap.size (.deferred none)) (by simp; omega)).cell
      refine ⟨.tuple #[.slice (some ⟨b, 0, none⟩) n n, .bool ok], results_nums _ _ _ _ _ _ (by rfl) (by rfl) d0 d1, ⟨_, by rw [HOKE.out], ?_⟩, ?_⟩
      · have e : numF S = zs := by
          unfold numF inNums
          rw [HQ.out]
          exact HZS.out
        rw [e]
        obtain rfl := HZN.out
        exact .inr ⟨b, _, cur, rfl, hbh, (World.putObj_heap_other hneD).trans HJ.out.hx, HCUR.out.1, HCUR.out.2.1, HCUR.out.2.2⟩
      · exact HJ.out.bl.trans (belowK_b (w := w) (Nat.le_refl _) wx W0.heap.size _ _ (by omega) HJ.out.dd rfl rfl)
  case stop =>
    rintro c pre W hp ⟨rfl, hX⟩ hK
    have c0 := hX.r0.cell
    have c1 := hX.r1.cell
    clear q0 q1 q3 q4 q5 q6 qr hI0
    gi_wp2
    refine ⟨by simp, .inl ⟨_, _, rfl, run_takeDeferred hK, ?_⟩⟩
    have hz0 : W0.heap.size ≠ w.heap.size := by omega
    have hz1 : W0.heap.size ≠ w.heap.size + 1 := by omega
    have d0 := (hX.r0.kept (grownBy_putObj' W W0.heap.size (.deferred none)) (by simpa using hz0.symm)).cell
    have d1 := (hX.r1.kept (grownBy_putObj' W W0.heap.size (.deferred none)) (by simpa using hz1.symm)).cell
    have hno : allOk (parts S.data.toList) = none := by
      obtain ⟨r, hr⟩ := hp
      rw [← hr]
      exact allOk_none _ _ hX.no
    refine ⟨.tuple #[.slice none 0 0, .bool false], results_nums _ _ _ _ _ _ (by rfl) (by rfl) d0 d1, ⟨_, by rw [show inGood S = false by simp [inGood, hno]], ?_⟩, ?_⟩
    · rw [show numF S = [] by simp [numF, hno]]
      exact .inl ⟨rfl, rfl⟩
    · exact hX.bl.trans (belowK_b (w := w) (Nat.le_refl _) W W0.heap.size _ _ (by omega) hK rfl rfl)
end Go.Proofs.YtokcappgaokeaaaDoor
