/-
  The draw of a gate, of which none is to be not valid: it is valid.
  No condition.
-/
import Derived.Test.YteedkpfpljecaaaDrawGate
import Derived.Test.YteedkpfpljecaaaDrawGateVJ
import Derived.Test.YteedkpfpljecaaaGateLaw
namespace Go.Proofs.Yteedkpfpljecaaa
open Go.RowKit Go.Sort base
/-- the numbers below j, in some order -/
def PermZ (zs : List Int) (j : Nat) : Prop := zs.Nodup ∧ ∀ z ∈ zs, 0 ≤ z ∧ z < (j : Int)
theorem PermZ.nil : PermZ [] 0 := ⟨List.nodup_nil, fun z h => by simp at h⟩
theorem PermZ.ins {zs : List Int} {j t : Nat} (h : PermZ zs j) (ht : t ≤ j) : PermZ ((zs.take t ++ [(j : Int)]) ++ ([] ++ zs.drop t)) (j + 1) := by
  have hp : ((zs.take t ++ [(j : Int)]) ++ ([] ++ zs.drop t)).Perm ((j : Int) :: zs) := by
    rw [List.append_assoc, List.nil_append, List.singleton_append]
    have := @List.perm_middle Int (j : Int) (zs.take t) (zs.drop t)
    rwa [List.take_append_drop] at this
  refine ⟨hp.nodup_iff.2 (List.nodup_cons.2 ⟨fun hm => ?_, h.1⟩), fun z hz => ?_⟩
  · have := h.2 _ hm; omega
  · have := hp.mem_iff.1 hz
    rcases List.mem_cons.1 this with rfl | hm
    · omega
    · have := h.2 _ hm; omega
/- what holds of the gate's numbers, step by step -/
def VA (m : Int) (k a b c : Int) : Prop := (0 ≤ k ∧ k ≤ 4) ∧ (0 ≤ a ∧ a < m) ∧ (0 ≤ b ∧ b < m) ∧ (0 ≤ c ∧ c < m) ∧ a ≠ b ∧ a ≠ c ∧ b ≠ c
theorem VA.kind {m k k' a b c : Int} (h : VA m k a b c) (hk : 0 ≤ k' ∧ k' ≤ 4) : VA m k' a b c := ⟨hk, h.2⟩
theorem PermZ.three {zs : List Int} {j : Nat} (h : PermZ zs j) (hl : zs.length = j) (h3 : 3 ≤ j) : VA j 0 (nth zs 0) (nth zs 1) (nth zs 2) := by
  have m0 := h.2 _ (nth_mem (zs := zs) (k := 0) (by omega))
  have m1 := h.2 _ (nth_mem (zs := zs) (k := 1) (by omega))
  have m2 := h.2 _ (nth_mem (zs := zs) (k := 2) (by omega))
  have hn := h.1
  refine ⟨by omega, m0, m1, m2, ?_, ?_, ?_⟩
  · intro e; rw [nth_lt (by omega), nth_lt (by omega)] at e; exact (List.pairwise_iff_getElem.1 hn 0 1 (by omega) (by omega) (by omega)) e
  · intro e; rw [nth_lt (by omega), nth_lt (by omega)] at e; exact (List.pairwise_iff_getElem.1 hn 0 2 (by omega) (by omega) (by omega)) e
  · intro e; rw [nth_lt (by omega), nth_lt (by omega)] at e; exact (List.pairwise_iff_getElem.1 hn 1 2 (by omega) (by omega) (by omega)) e
def VB (l k a b c : Int) : Prop := (l = 1 → k = 0 ∧ a = 0 ∧ b = 0 ∧ c = 0) ∧ (3 ≤ l → VA l k a b c)
def VC (l k a b c : Int) : Prop := (l = 1 → k = 0 ∧ a = 0 ∧ b = 0 ∧ c = 0) ∧ (l = 2 → (k = 0 ∨ k = 1 ∨ k = 3) ∧ (0 ≤ a ∧ a ≤ 1) ∧ b = 1 - a ∧ c = 0) ∧ (3 ≤ l → VA l k a b c)
def VD (l k a b c : Int) : Prop := ∃ b0, VC l k a b0 c ∧ (k = 0 → b = 0) ∧ (k ≠ 0 → b = b0)
def VE (l k a b c : Int) : Prop := ∃ c0, VD l k a b c0 ∧ ((k = 0 ∨ k = 1 ∨ k = 3) → c = 0) ∧ (¬ (k = 0 ∨ k = 1 ∨ k = 3) → c = c0)
theorem ve_gate {l k a b c : Int} (hl : 1 ≤ l ∧ l ≤ 8) (h : VE l k a b c) : gateQ l k a b c = true := by
  obtain ⟨c0, ⟨b0, ⟨h1, h2, h3⟩, hb1, hb2⟩, hc1, hc2⟩ := h
  unfold VA at h3
  rcases (show k = 0 ∨ k = 1 ∨ k = 2 ∨ k = 3 ∨ k = 4 by omega) with rfl | rfl | rfl | rfl | rfl
  · exact gate0.2 (by omega)
  · exact gate1.2 (by omega)
  · exact gate2.2 (by omega)
  · exact gate3.2 (by omega)
  · exact gate4.2 (by omega)
/- some gate that is valid -/
def DrawnGateV (w : World) (R P : Nat) (l : Int) (e : Ending) (w' : World) : Prop :=
  ∃ k a b c : Int, e = .returned (.agg #[.int .i64 k, .int .i64 a, .int .i64 b, .int .i64 c]) ∧ gateQ l k a b c = true ∧ RdB w' R P ∧ w.grownBy w' (some R)
/-- the gate's box is there, and its numbers are such -/
structure GSv (w : World) (R P g5 : Nat) (V : Int → Int → Int → Int → Prop) (wx : World) : Prop where
  t : GSt w R P g5 wx
  v : ∃ k a b c : Int, V k a b c ∧ Box4 wx g5 k a b c
theorem GSv.imp {w wx : World} {R P g5 : Nat} {V V' : Int → Int → Int → Int → Prop} (h : GSv w R P g5 V wx) (hv : ∀ k a b c, V k a b c → V' k a b c) : GSv w R P g5 V' wx := by
  obtain ⟨k, a, b, c, h1, h2⟩ := h.v
  exact ⟨h.t, k, a, b, c, hv _ _ _ _ h1, h2⟩
theorem GSv.mono {w wx : World} {R P Q g5 : Nat} {V : Int → Int → Int → Int → Prop} (h : GSv w R P g5 V wx) (hq : P ≤ Q) : GSv w R Q g5 V wx := ⟨h.t.mono hq, h.v⟩
theorem GSv.put {w wx : World} {R P g5 : Nat} {V V' : Int → Int → Int → Int → Prop} (h : GSv w R P g5 V wx) (k a b c : Int) (hv : V' k a b c) :
    GSv w R P g5 V' ((((wx.setCell ⟨g5, 0, none⟩ (.int .i64 k)).setCell ⟨g5, 1, none⟩ (.int .i64 a)).setCell ⟨g5, 2, none⟩ (.int .i64 b)).setCell ⟨g5, 3, none⟩ (.int .i64 c)) := by
  obtain ⟨k0, a0, b0, c0, h1, h2⟩ := h.v
  exact ⟨h.t.put k a b c, k, a, b, c, hv, box4_put h2 k a b c⟩
theorem GSv.one {w wx : World} {R P g5 : Nat} {V V' : Int → Int → Int → Int → Prop} (h : GSv w R P g5 V wx) (i : Nat) (hi : i < 4) (z : Int)
    (hv : ∀ k a b c, V k a b c → V' (if i = 0 then z else k) (if i = 1 then z else a) (if i = 2 then z else b) (if i = 3 then z else c)) : GSv w R P g5 V' (wx.setCell ⟨g5, i, none⟩ (.int .i64 z)) := by
  obtain ⟨k0, a0, b0, c0, h1, h2⟩ := h.v
  exact ⟨h.t.one i hi z, _, _, _, _, hv _ _ _ _ h1, h2.one hi z⟩
set_option maxHeartbeats 400000 in
theorem odd_zero (R : Nat) (w : World) : Calls Try.prog 36 #[.pointer (some ⟨R, 0, none⟩), .int .i64 0] w fun e w' => e = .returned (.bool false) ∧ w = w' := by
  go_enter Try.func36, Try.ntmps36
  go_wp2_with fail
  go_ret
  exact ⟨rfl, rfl⟩
structure K12 (w : World) (R P g5 : Nat) (L : Nat → Bool) (x53 x54 x55 x56 x57 x58 x59 x60 : Value) (wx : World) : Prop where
  h0 : L 0 = true → ∃ b : Nat, x53 = .slice (some ⟨b, 0, none⟩) 3 3 ∧ w.heap.size + 1 ≤ b ∧ b ≠ g5 ∧ ∀ t, t < 3 → ∃ z : Int, (z = 0 ∨ z = 1 ∨ z = 3) ∧ wx.cell? ⟨b, t, none⟩ = some (.int .i64 z)
  h1 : L 1 = true → x54 = .pointer (some ⟨R, 0, none⟩)
  h2 : L 2 = true → ∃ r : Nat, x55 = .int .i64 r ∧ r < 3
  h3 : L 3 = true → ∃ (b t : Nat) (z : Int), x56 = .pointer (some ⟨b, t, none⟩) ∧ w.heap.size + 1 ≤ b ∧ b ≠ g5 ∧ (z = 0 ∨ z = 1 ∨ z = 3) ∧ wx.cell? ⟨b, t, none⟩ = some (.int .i64 z)
  h4 : L 4 = true → ∃ z : Int, x57 = .int .i64 z ∧ (z = 0 ∨ z = 1 ∨ z = 3)
  h5 : L 5 = true → x58 = .pointer (some ⟨R, 0, none⟩)
  h6 : L 6 = true → ∃ z : Int, x59 = .int .i64 z ∧ 0 ≤ z ∧ z ≤ 1
  h7 : L 7 = true → ∃ k a : Int, x60 = .agg #[.int .i64 k, .int .i64 a, .int .i64 0, .int .i64 0] ∧ (k = 0 ∨ k = 1 ∨ k = 3) ∧ 0 ≤ a ∧ a ≤ 1
  h8 : L 8 = true → ∃ k a : Int, (k = 0 ∨ k = 1 ∨ k = 3) ∧ (0 ≤ a ∧ a ≤ 1) ∧ Box4 wx g5 k a 0 0
  s0 : L 2 = false → GSt w R P g5 wx
  s1 : L 6 = false → GSt w R (P + 1) g5 wx
  s2 : GSt w R (P + 2) g5 wx
section
variable {w wx : World} {R P g5 : Nat} {L : Nat → Bool} {x53 x54 x55 x56 x57 x58 x59 x60 : Value}
theorem K12.start (hs : GSt w R P g5 wx) : K12 w R P g5 (fun _ => false) x53 x54 x55 x56 x57 x58 x59 x60 wx :=
  ⟨(fun h => by cases h), (fun h => by cases h), (fun h => by cases h), (fun h => by cases h), (fun h => by cases h), (fun h => by cases h), (fun h => by cases h), (fun h => by cases h), (fun h => by cases h), fun _ => hs, fun _ => hs.mono (by omega), hs.mono (by omega)⟩
theorem K12.p1 (h : K12 w R P g5 L x53 x54 x55 x56 x57 x58 x59 x60 wx) {v : Value} (hv : v = .pointer (some ⟨R, 0, none⟩)) : K12 w R P g5 (upd L 1) x53 v x55 x56 x57 x58 x59 x60 wx :=
  ⟨fun e => h.h0 (upd_ne e rfl), fun _ => hv, fun e => h.h2 (upd_ne e rfl), fun e => h.h3 (upd_ne e rfl), fun e => h.h4 (upd_ne e rfl), fun e => h.h5 (upd_ne e rfl), fun e => h.h6 (upd_ne e rfl), fun e => h.h7 (upd_ne e rfl), fun e => h.h8 (upd_ne e rfl), fun e => h.s0 (upd_f e), fun e => h.s1 (upd_f e), h.s2⟩
theorem K12.p3 (h : K12 w R P g5 L x53 x54 x55 x56 x57 x58 x59 x60 wx) {v : Value} (hv : ∃ (b t : Nat) (z : Int), v = .pointer (some ⟨b, t, none⟩) ∧ w.heap.size + 1 ≤ b ∧ b ≠ g5 ∧ (z = 0 ∨ z = 1 ∨ z = 3) ∧ wx.cell? ⟨b, t, none⟩ = some (.int .i64 z)) : K12 w R P g5 (upd L 3) x53 x54 x55 v x57 x58 x59 x60 wx :=
  ⟨fun e => h.h0 (upd_ne e rfl), fun e => h.h1 (upd_ne e rfl), fun e => h.h2 (upd_ne e rfl), fun _ => hv, fun e => h.h4 (upd_ne e rfl), fun e => h.h5 (upd_ne e rfl), fun e => h.h6 (upd_ne e rfl), fun e => h.h7 (upd_ne e rfl), fun e => h.h8 (upd_ne e rfl), fun e => h.s0 (upd_f e), fun e => h.s1 (upd_f e), h.s2⟩
theorem K12.p4 (h : K12 w R P g5 L x53 x54 x55 x56 x57 x58 x59 x60 wx) {v : Value} (hv : ∃ z : Int, v = .int .i64 z ∧ (z = 0 ∨ z = 1 ∨ z = 3)) : K12 w R P g5 (upd L 4) x53 x54 x55 x56 v x58 x59 x60 wx :=
  ⟨fun e => h.h0 (upd_ne e rfl), fun e => h.h1 (upd_ne e rfl), fun e => h.h2 (upd_ne e rfl), fun e => h.h3 (upd_ne e rfl), fun _ => hv, fun e => h.h5 (upd_ne e rfl), fun e => h.h6 (upd_ne e rfl), fun e => h.h7 (upd_ne e rfl), fun e => h.h8 (upd_ne e rfl), fun e => h.s0 (upd_f e), fun e => h.s1 (upd_f e), h.s2⟩
theorem K12.p5 (h : K12 w R P g5 L x53 x54 x55 x56 x57 x58 x59 x60 wx) {v : Value} (hv : v = .pointer (some ⟨R, 0, none⟩)) : K12 w R P g5 (upd L 5) x53 x54 x55 x56 x57 v x59 x60 wx :=
  ⟨fun e => h.h0 (upd_ne e rfl), fun e => h.h1 (upd_ne e rfl), fun e => h.h2 (upd_ne e rfl), fun e => h.h3 (upd_ne e rfl), fun e => h.h4 (upd_ne e rfl), fun _ => hv, fun e => h.h6 (upd_ne e rfl), fun e => h.h7 (upd_ne e rfl), fun e => h.h8 (upd_ne e rfl), fun e => h.s0 (upd_f e), fun e => h.s1 (upd_f e), h.s2⟩
theorem K12.p7 (h : K12 w R P g5 L x53 x54 x55 x56 x57 x58 x59 x60 wx) {v : Value} (hv : ∃ k a : Int, v = .agg #[.int .i64 k, .int .i64 a, .int .i64 0, .int .i64 0] ∧ (k = 0 ∨ k = 1 ∨ k = 3) ∧ 0 ≤ a ∧ a ≤ 1) : K12 w R P g5 (upd L 7) x53 x54 x55 x56 x57 x58 x59 v wx :=
  ⟨fun e => h.h0 (upd_ne e rfl), fun e => h.h1 (upd_ne e rfl), fun e => h.h2 (upd_ne e rfl), fun e => h.h3 (upd_ne e rfl), fun e => h.h4 (upd_ne e rfl), fun e => h.h5 (upd_ne e rfl), fun e => h.h6 (upd_ne e rfl), fun _ => hv, fun e => h.h8 (upd_ne e rfl), fun e => h.s0 (upd_f e), fun e => h.s1 (upd_f e), h.s2⟩
theorem K12.pick2 (h : K12 w R P g5 L x53 x54 x55 x56 x57 x58 x59 x60 wx) (hL : L 2 = false) {r : Nat} (hr3 : r < 3) {wy : World} (hr : RdB wy R (P + 1)) (hg : wx.grownBy wy (some R)) : K12 w R P g5 (upd L 2) x53 x54 (.int .i64 (r : Nat)) x56 x57 x58 x59 x60 wy := by
  have hl := h.s2.s.lo
  refine ⟨fun e => ?_, fun e => h.h1 (upd_ne e rfl), fun _ => ⟨_, rfl, hr3⟩, fun e => ?_, fun e => h.h4 (upd_ne e rfl), fun e => h.h5 (upd_ne e rfl), fun e => h.h6 (upd_ne e rfl), fun e => h.h7 (upd_ne e rfl), fun e => ?_, fun e => by simp [upd] at e, fun e => (h.s0 hL).pick hr hg, ((h.s0 hL).pick hr hg).mono (by omega)⟩
  · obtain ⟨b, e1, l1, n1, hc⟩ := h.h0 (upd_ne e rfl)
    exact ⟨b, e1, l1, n1, fun t ht => by obtain ⟨z, z3, hz⟩ := hc t ht; exact ⟨z, z3, hg.cell hz (by simp; omega)⟩⟩
  · obtain ⟨b, t, z, e1, l1, n1, z3, hz⟩ := h.h3 (upd_ne e rfl)
    exact ⟨b, t, z, e1, l1, n1, z3, hg.cell hz (by simp; omega)⟩
  · obtain ⟨k, a, h1, h2, hb⟩ := h.h8 (upd_ne e rfl)
    have := h.s2.lo
    exact ⟨k, a, h1, h2, hb.grownBy hg (by simp; omega)⟩
theorem K12.pick6 (h : K12 w R P g5 L x53 x54 x55 x56 x57 x58 x59 x60 wx) (h2 : L 2 = true) (hL : L 6 = false) {r : Nat} (hr3 : r < 2) {wy : World} (hr : RdB wy R (P + 2)) (hg : wx.grownBy wy (some R)) : K12 w R P g5 (upd L 6) x53 x54 x55 x56 x57 x58 (.int .i64 (r : Nat)) x60 wy := by
  have hl := h.s2.s.lo
  refine ⟨fun e => ?_, fun e => h.h1 (upd_ne e rfl), fun e => h.h2 (upd_ne e rfl), fun e => ?_, fun e => h.h4 (upd_ne e rfl), fun e => h.h5 (upd_ne e rfl), fun _ => ⟨_, rfl, by omega, by omega⟩, fun e => h.h7 (upd_ne e rfl), fun e => ?_, fun e => absurd h2 (by simp [upd_f e]), fun e => by simp [upd] at e, (h.s1 hL).pick hr hg⟩
  · obtain ⟨b, e1, l1, n1, hc⟩ := h.h0 (upd_ne e rfl)
    exact ⟨b, e1, l1, n1, fun t ht => by obtain ⟨z, z3, hz⟩ := hc t ht; exact ⟨z, z3, hg.cell hz (by simp; omega)⟩⟩
  · obtain ⟨b, t, z, e1, l1, n1, z3, hz⟩ := h.h3 (upd_ne e rfl)
    exact ⟨b, t, z, e1, l1, n1, z3, hg.cell hz (by simp; omega)⟩
  · obtain ⟨k, a, h1, h2, hb⟩ := h.h8 (upd_ne e rfl)
    have := h.s2.lo
    exact ⟨k, a, h1, h2, hb.grownBy hg (by simp; omega)⟩
theorem K12.new (h : K12 w R P g5 L x53 x54 x55 x56 x57 x58 x59 x60 wx) (a b d : Int) (ha : a = 0 ∧ b = 1 ∧ d = 3) : K12 w R P g5 (upd L 0) (.slice (some ⟨wx.heap.size, 0, none⟩) 3 3) x54 x55 x56 x57 x58 x59 x60 (wx.alloc (.cells #[.int .i64 a, .int .i64 b, .int .i64 d] 3)) := by
  have h5 := h.s2.lt5
  have hl := h.s2.s.size
  refine ⟨fun _ => ?_, fun e => h.h1 (upd_ne e rfl), fun e => h.h2 (upd_ne e rfl), fun e => ?_, fun e => h.h4 (upd_ne e rfl), fun e => h.h5 (upd_ne e rfl), fun e => h.h6 (upd_ne e rfl), fun e => h.h7 (upd_ne e rfl), fun e => ?_, fun e => (h.s0 (upd_f e)).alloc _, fun e => (h.s1 (upd_f e)).alloc _, h.s2.alloc _⟩
  · refine ⟨_, rfl, hl, by omega, fun t ht => ?_⟩
    rcases (show t = 0 ∨ t = 1 ∨ t = 2 by omega) with rfl | rfl | rfl <;> exact ⟨_, by omega, cell_at rfl rfl⟩
  · obtain ⟨b, t, z, e1, l1, n1, z3, hz⟩ := h.h3 (upd_ne e rfl)
    exact ⟨b, t, z, e1, l1, n1, z3, cell_old hz⟩
  · obtain ⟨k, a, h1, h2, hb⟩ := h.h8 (upd_ne e rfl)
    exact ⟨k, a, h1, h2, hb.below ((Below.refl _ _).alloc (Nat.le_refl _) _)⟩
theorem K12.store (h : K12 w R P g5 L x53 x54 x55 x56 x57 x58 x59 x60 wx) (k a : Int) (hk : (k = 0 ∨ k = 1 ∨ k = 3) ∧ 0 ≤ a ∧ a ≤ 1) : K12 w R P g5 (upd L 8) x53 x54 x55 x56 x57 x58 x59 x60 ((((wx.setCell ⟨g5, 0, none⟩ (.int .i64 k)).setCell ⟨g5, 1, none⟩ (.int .i64 a)).setCell ⟨g5, 2, none⟩ (.int .i64 0)).setCell ⟨g5, 3, none⟩ (.int .i64 0)) := by
  have hg := put4_grown wx g5 (.int .i64 k) (.int .i64 a) (.int .i64 0) (.int .i64 0)
  refine ⟨fun e => ?_, fun e => h.h1 (upd_ne e rfl), fun e => h.h2 (upd_ne e rfl), fun e => ?_, fun e => h.h4 (upd_ne e rfl), fun e => h.h5 (upd_ne e rfl), fun e => h.h6 (upd_ne e rfl), fun e => h.h7 (upd_ne e rfl), fun _ => ?_, fun e => (h.s0 (upd_f e)).put _ _ _ _, fun e => (h.s1 (upd_f e)).put _ _ _ _, h.s2.put _ _ _ _⟩
  · obtain ⟨b, e1, l1, n1, hc⟩ := h.h0 (upd_ne e rfl)
    exact ⟨b, e1, l1, n1, fun t ht => by obtain ⟨z, z3, hz⟩ := hc t ht; exact ⟨z, z3, hg.cell hz (by simpa using n1)⟩⟩
  · obtain ⟨b, t, z, e1, l1, n1, z3, hz⟩ := h.h3 (upd_ne e rfl)
    exact ⟨b, t, z, e1, l1, n1, z3, hg.cell hz (by simpa using n1)⟩
  · obtain ⟨k0, a0, b0, c0, hb⟩ := h.s2.b5
    exact ⟨k, a, hk.1, hk.2, box4_put hb k a 0 0⟩
end
set_option maxRecDepth 100000 in
set_option maxHeartbeats 16000000 in
theorem l20Gate_v (R p : Nat) (l : Int) (w : World) (h : RdB w R p) (hp : p ≤ 100000) (hl : 1 ≤ l ∧ l ≤ 8) :
    Calls Try.prog 50 #[.pointer (some ⟨R, 0, none⟩), .int .i64 l, .int .i64 0] w (DrawnGateV w R (p + 20) l) := by
  have S0 : Hid (GS0 w R p (w.alloc (.cells #[.int .i64 0, .int .i64 0, .int .i64 0, .int .i64 0] 65))) :=
    ⟨h.lt, Box4.made w 0 0 0 0 _, Free.made w _ _, rd_alloc h _, World.grownBy_alloc _ _ _⟩
  have hlt := h.lt
  clear h
  obtain ⟨m, hm3, hm8, hmax⟩ : ∃ m : Nat, 3 ≤ m ∧ m ≤ 8 ∧ (if l < 3 then (3 : Int) else l) = (m : Int) := by
    by_cases h3 : l < 3
    · exact ⟨3, by omega, by omega, by rw [if_pos h3]; rfl⟩
    · exact ⟨l.toNat, by omega, by omega, by rw [if_neg h3]; omega⟩
  obtain ⟨hl1, hl8⟩ := hl
  go_enter Try.func50, Try.ntmps50
  go_wp2_with fail
  have S1 := hide (S0.out.alloc (.cells #[] 3))
  have O1 : Hid (Own ((w.alloc (.cells #[.int .i64 0, .int .i64 0, .int .i64 0, .int .i64 0] 65)).alloc (.cells #[] 3)) (w.heap.size + 1) (.slice (some ⟨w.heap.size + 1, 0, none⟩) 0 0) []) := by
    have := Own.nil0 (w.alloc (.cells #[.int .i64 0, .int .i64 0, .int .i64 0, .int .i64 0] 65)) (w.heap.size + 1) (by simp)
    rwa [World.size_alloc] at this
  go_loopw [7, 8] (fun vv kv wr => ∃ (g c j : Nat) (zs : List Int), vv = .slice (some ⟨g, 0, none⟩) j c ∧ j ≤ m ∧ j ≤ c ∧ kv = .int .i64 j ∧ Hid (zs.length = j) ∧ Hid (Own wr (w.heap.size + 1) vv zs) ∧ Hid (GS0 w R (p + j) wr) ∧ Hid (PermZ zs j)) (fun _ kv _ => m - (intOf kv).toNat)
  case atStart => exact ⟨w.heap.size + 1, 0, 0, [], rfl, by omega, by omega, rfl, rfl, O1.out, S1.out, PermZ.nil⟩
  case round =>
    obtain ⟨g, c, j, zs, rfl, hj, hjc, rfl, HLen, HO, HS, HP⟩ := hrel
    by_cases hlt2 : j < m
    · have hlt3 : (j : Int) < (if l < 3 then (3 : Int) else l) := by rw [hmax]; omega
      have hO := HO.out.lt
      have hg0 := hO g rfl
      clear hO
      go_wp2_with fail
      refine (pick_b R (p + j) ((j : Int) + 1) _ HS.out.rd (by omega) (by omega)).mono ?_
      rintro e w1 ⟨r, rfl, a1, b1, _, hr, hg⟩
      have c1 := b1 (by omega)
      obtain ⟨t, rfl⟩ := Int.eq_ofNat_of_zero_le a1
      have htj : t ≤ j := by omega
      have S2 := hide (HS.out.pick hr hg)
      have O2 := hide (HO.out.kept hg (own_ne HO.out (by omega)))
      have hs1 := hg.size
      obtain ⟨a0, ha0⟩ : ∃ a0 : Nat, (if t = c then 0 else t) = a0 := ⟨_, rfl⟩
      have T2 := hide ((O2.out.alloc (.cells #[] 3)).ir.dropA htj hjc)
      have E2 := hide (Own.nil0 w1 w1.heap.size (Nat.le_refl _))
      have S2' := hide (S2.out.alloc (.cells #[] 3))
      have hsl1 := run_from g j c t htj hjc
      rw [ha0] at T2
      simp only [ha0] at hsl1
      clear ha0
      have hsl2 := fun wx => run_take g 0 j c t (by omega) wx
      have hlz := HLen.out
      have HTk := hide (show (zs.take t).length = t by simp; omega)
      have HDr := hide (show (zs.drop t).length = j - t by simp; omega)
      have hsz := S2.out.size
      clear hr hg b1 c1 a1 hlz
      go_wp2_with (first
        | (at_builtin; refine wpList_append_ints E2.out T2.out (.tmp 23) (.tmp 26) (by rfl) rfl rfl rfl (by have := HDr.out; simp only [List.length_nil]; omega) (by simp) ?_; intro v3 w3 ho3 hg3 _; obtain ⟨A3, n3, c3, rfl, hr3⟩ := ho3.slice'; have O3 := hide ((O2.out.alloc (.cells #[] 3)).kept hg3 (by right; simp [Value.ownBlock]; omega)); have S3 := hide (S2'.out.step hg3 (by simp [Value.ownBlock]; omega)); have P3 := hide ho3; have hs3 := S3.out.size; have hw3 := hg3.size; clear ho3 hg3 hr3)
        | (at_builtin; refine wpList_append1 (O3.out.take HLen.out t htj) (.tmp 30) (.tmp 32) (by rfl) rfl rfl rfl (by have := HTk.out; omega) hs3 ?_; intro v4 w4 ho4 hb4 hg4 hat4; have P4 := hide (P3.out.kept hg4 (ne_row2 P3.out.lt (by simp [Value.ownBlock]; omega))); have S4 := hide (S3.out.step hg4 (by simp [Value.ownBlock]; omega)); have O4 := hide ho4; have hs4 := S4.out.size; clear hg4 hb4 hat4 ho4)
        | (at_builtin; refine wpList_append_ints O4.out P4.out.ir (.tmp 33) (.tmp 34) (by rfl) rfl rfl rfl (by have := HTk.out; have := HDr.out; simp only [List.length_append, List.length_cons, List.length_nil]; omega) hs4 ?_; intro v5 w5 ho5 hg5 _; have O5 := hide ho5; have S5 := hide (S4.out.step hg5 (fun x hx => (O4.out.lt x hx).1)); clear ho5 hg5))
      have HL5 := Lib.hid (show ((zs.take t ++ [(j : Int)]) ++ ([] ++ zs.drop t)).length = j + 1 by have := HTk.out; have := HDr.out; simp only [List.length_append, List.length_nil, List.length_cons]; omega)
      rcases O5.out.form with ⟨_, h0⟩ | ⟨g5, c5, rfl, _, _, hc5, _⟩
      · have := HL5.out
        rw [h0] at this
        simp at this
      · have HL5' := HL5.out
        have O5' := O5.out
        rw [HL5'] at O5' hc5 ⊢
        clear HL5'
        go_roundw
        case rel => exact ⟨g5, c5, j + 1, _, rfl, by omega, hc5, by go_num, HL5.out, O5', S5.out, HP.out.ins htj⟩
        case measure => simp [intOf]; omega
    · obtain rfl : j = m := by omega
      have hlt3 : ¬ (j : Int) < (if l < 3 then (3 : Int) else l) := by rw [hmax]; omega
      have hO := HO.out.lt
      have hg0 := (hO g rfl).2
      have hsz := HS.out.size
      obtain ⟨bb, oo, he, _, hcc⟩ := HO.out.ir.at_ (by omega)
      simp only [Option.some.injEq, Addr.mk.injEq, and_true] at he
      obtain ⟨rfl, rfl⟩ := he
      have o0 := hcc 0 (by omega)
      have o1 := hcc 1 (by omega)
      have o2 := hcc 2 (by omega)
      simp only [Nat.zero_add] at o0 o1 o2
      have hjm : (0 : Int) < j := by omega
      have hR2 : g ≠ R := by have := (hO g rfl).1; omega
      have hR1 : some g ≠ some R := by simpa using hR2
      clear hO hcc
      have hPm := hide (show VA j 0 (nth zs 0) (nth zs 1) (nth zs 2) from HP.out.three HLen.out (by omega))
      have HMX := hide (show (3 ≤ l → l = (j : Int)) by intro h3; rw [← hmax, if_neg (by omega)])
      go_upto_region 8 with fail
      go_cut [11] from 36 to 47 (fun pv wx => ∃ g5 : Nat, pv = .pointer (some ⟨g5, 0, none⟩) ∧ Hid (GSv w R (p + j + 1) g5 (VA j) wx))
      case first =>
        refine wp_frame fun a0 ha0 => ?_
        have HA := Lib.hid ha0
        clear ha0
        refine wp_region_inv (fun L a wx => ∃ x36 x37 x38 x39 x40 x41 x42 x43 x44 x45 x46 x47 x11, a = putL a0 [(36, x36), (37, x37), (38, x38), (39, x39), (40, x40), (41, x41), (42, x42), (43, x43), (44, x44), (45, x45), (46, x46), (47, x47), (11, x11)] ∧ Hid (K8 w R (p + j) g j c (nth zs 0) (nth zs 1) (nth zs 2) L x36 x37 x38 x39 x40 x41 x42 x43 x44 x45 x46 x47 x11 wx)) (by kernel_rfl) (by kernel_rfl) ?_ ?_ ?_
        · exact ⟨_, _, _, _, _, _, _, _, _, _, _, _, _, putL_self a0 [36, 37, 38, 39, 40, 41, 42, 43, 44, 45, 46, 47, 11], hide (K8.start HS.out.drew hR2 o0 o1 o2)⟩
        · refine ⟨?_, ?_, ?_, ?_, ?_, ?_, ?_, ?_, ?_, ?_, ?_, ?_, ?_, ?_, trivial⟩
          · intro L a wx hL0 hd
            rintro ⟨x36, x37, x38, x39, x40, x41, x42, x43, x44, x45, x46, x47, x11, rfl, HJ⟩
            have hD := hd
            simp [deps, Region.binds] at hD
            rw [← HA.out]
            simp only [putL, List.setIfInBounds_toArray, List.set_cons_succ, List.set_cons_zero]
            go_wp2_with fail
            refine ⟨_, _, _, _, _, _, _, _, _, _, _, _, _, ?_, hide (HJ.out.p0 rfl)⟩
            · try rw [← HA.out]
              try simp only [putL, List.setIfInBounds_toArray, List.set_cons_succ, List.set_cons_zero]
          · intro L a wx hL0 hd
            rintro ⟨x36, x37, x38, x39, x40, x41, x42, x43, x44, x45, x46, x47, x11, rfl, HJ⟩
            have hD := hd
            simp [deps, Region.binds] at hD
            obtain rfl := HJ.out.h0 (by simp [hD])
            clear hD hd
            rw [← HA.out]
            simp only [putL, List.setIfInBounds_toArray, List.set_cons_succ, List.set_cons_zero]
            go_wp2_with fail
            refine (pick_b R (p + j) 5 _ (HJ.out.s0 ‹_›).rd (by omega) (by omega)).mono ?_
            rintro e w1 ⟨r, rfl, r1, r2, _, hr, hg⟩
            have HJ2 := hide (HJ.out.pick (r := r) ⟨r1, by have := r2 (by omega); omega⟩ hr hg)
            clear r1 r2
            clear hr hg
            go_wp2_with fail
            refine ⟨_, _, _, _, _, _, _, _, _, _, _, _, _, ?_, hide (HJ2.out)⟩
            · try rw [← HA.out]
              try simp only [putL, List.setIfInBounds_toArray, List.set_cons_succ, List.set_cons_zero]
          · intro L a wx hL0 hd
            rintro ⟨x36, x37, x38, x39, x40, x41, x42, x43, x44, x45, x46, x47, x11, rfl, HJ⟩
            have hD := hd
            simp [deps, Region.binds] at hD
            rw [← HA.out]
            simp only [putL, List.setIfInBounds_toArray, List.set_cons_succ, List.set_cons_zero]
            go_wp2_with fail
            refine ⟨_, _, _, _, _, _, _, _, _, _, _, _, _, ?_, hide (HJ.out.p2 rfl)⟩
            · try rw [← HA.out]
              try simp only [putL, List.setIfInBounds_toArray, List.set_cons_succ, List.set_cons_zero]
          · intro L a wx hL0 hd
            rintro ⟨x36, x37, x38, x39, x40, x41, x42, x43, x44, x45, x46, x47, x11, rfl, HJ⟩
            have hD := hd
            simp [deps, Region.binds] at hD
            obtain rfl := HJ.out.h2 (by simp [hD])
            clear hD hd
            rw [← HA.out]
            simp only [putL, List.setIfInBounds_toArray, List.set_cons_succ, List.set_cons_zero]
            have hj0 : (0 : Int) < j := by omega
            go_wp2_with fail
            refine ⟨_, _, _, _, _, _, _, _, _, _, _, _, _, ?_, hide (HJ.out.p3 rfl)⟩
            · try rw [← HA.out]
              try simp only [putL, List.setIfInBounds_toArray, List.set_cons_succ, List.set_cons_zero]
          · intro L a wx hL0 hd
            rintro ⟨x36, x37, x38, x39, x40, x41, x42, x43, x44, x45, x46, x47, x11, rfl, HJ⟩
            have hD := hd
            simp [deps, Region.binds] at hD
            obtain rfl := HJ.out.h3 (by simp [hD])
            clear hD hd
            have oo := HJ.out.o0
            rw [← HA.out]
            simp only [putL, List.setIfInBounds_toArray, List.set_cons_succ, List.set_cons_zero]
            go_wp2_with fail
            refine ⟨_, _, _, _, _, _, _, _, _, _, _, _, _, ?_, hide (HJ.out.p4 rfl)⟩
            · try rw [← HA.out]
              try simp only [putL, List.setIfInBounds_toArray, List.set_cons_succ, List.set_cons_zero]
          · intro L a wx hL0 hd
            rintro ⟨x36, x37, x38, x39, x40, x41, x42, x43, x44, x45, x46, x47, x11, rfl, HJ⟩
            have hD := hd
            simp [deps, Region.binds] at hD
            rw [← HA.out]
            simp only [putL, List.setIfInBounds_toArray, List.set_cons_succ, List.set_cons_zero]
            go_wp2_with fail
            refine ⟨_, _, _, _, _, _, _, _, _, _, _, _, _, ?_, hide (HJ.out.p5 rfl)⟩
            · try rw [← HA.out]
              try simp only [putL, List.setIfInBounds_toArray, List.set_cons_succ, List.set_cons_zero]
          · intro L a wx hL0 hd
            rintro ⟨x36, x37, x38, x39, x40, x41, x42, x43, x44, x45, x46, x47, x11, rfl, HJ⟩
            have hD := hd
            simp [deps, Region.binds] at hD
            obtain rfl := HJ.out.h5 (by simp [hD])
            clear hD hd
            rw [← HA.out]
            simp only [putL, List.setIfInBounds_toArray, List.set_cons_succ, List.set_cons_zero]
            have hj1 : (1 : Int) < j := by omega
            go_wp2_with fail
            refine ⟨_, _, _, _, _, _, _, _, _, _, _, _, _, ?_, hide (HJ.out.p6 rfl)⟩
            · try rw [← HA.out]
              try simp only [putL, List.setIfInBounds_toArray, List.set_cons_succ, List.set_cons_zero]
          · intro L a wx hL0 hd
            rintro ⟨x36, x37, x38, x39, x40, x41, x42, x43, x44, x45, x46, x47, x11, rfl, HJ⟩
            have hD := hd
            simp [deps, Region.binds] at hD
            obtain rfl := HJ.out.h6 (by simp [hD])
            clear hD hd
            have oo := HJ.out.o1
            rw [← HA.out]
            simp only [putL, List.setIfInBounds_toArray, List.set_cons_succ, List.set_cons_zero]
            go_wp2_with fail
            refine ⟨_, _, _, _, _, _, _, _, _, _, _, _, _, ?_, hide (HJ.out.p7 rfl)⟩
            · try rw [← HA.out]
              try simp only [putL, List.setIfInBounds_toArray, List.set_cons_succ, List.set_cons_zero]
          · intro L a wx hL0 hd
            rintro ⟨x36, x37, x38, x39, x40, x41, x42, x43, x44, x45, x46, x47, x11, rfl, HJ⟩
            have hD := hd
            simp [deps, Region.binds] at hD
            rw [← HA.out]
            simp only [putL, List.setIfInBounds_toArray, List.set_cons_succ, List.set_cons_zero]
            go_wp2_with fail
            refine ⟨_, _, _, _, _, _, _, _, _, _, _, _, _, ?_, hide (HJ.out.p8 rfl)⟩
            · try rw [← HA.out]
              try simp only [putL, List.setIfInBounds_toArray, List.set_cons_succ, List.set_cons_zero]
          · intro L a wx hL0 hd
            rintro ⟨x36, x37, x38, x39, x40, x41, x42, x43, x44, x45, x46, x47, x11, rfl, HJ⟩
            have hD := hd
            simp [deps, Region.binds] at hD
            obtain rfl := HJ.out.h8 (by simp [hD])
            clear hD hd
            rw [← HA.out]
            simp only [putL, List.setIfInBounds_toArray, List.set_cons_succ, List.set_cons_zero]
            have hj2 : (2 : Int) < j := by omega
            go_wp2_with fail
            refine ⟨_, _, _, _, _, _, _, _, _, _, _, _, _, ?_, hide (HJ.out.p9 rfl)⟩
            · try rw [← HA.out]
              try simp only [putL, List.setIfInBounds_toArray, List.set_cons_succ, List.set_cons_zero]
          · intro L a wx hL0 hd
            rintro ⟨x36, x37, x38, x39, x40, x41, x42, x43, x44, x45, x46, x47, x11, rfl, HJ⟩
            have hD := hd
            simp [deps, Region.binds] at hD
            obtain rfl := HJ.out.h9 (by simp [hD])
            clear hD hd
            have oo := HJ.out.o2
            rw [← HA.out]
            simp only [putL, List.setIfInBounds_toArray, List.set_cons_succ, List.set_cons_zero]
            go_wp2_with fail
            refine ⟨_, _, _, _, _, _, _, _, _, _, _, _, _, ?_, hide (HJ.out.p10 rfl)⟩
            · try rw [← HA.out]
              try simp only [putL, List.setIfInBounds_toArray, List.set_cons_succ, List.set_cons_zero]
          · intro L a wx hL0 hd
            rintro ⟨x36, x37, x38, x39, x40, x41, x42, x43, x44, x45, x46, x47, x11, rfl, HJ⟩
            have hD := hd
            simp [deps, Region.binds] at hD
            obtain ⟨r1, rfl, hr4⟩ := HJ.out.h1 (by simp [hD])
            obtain rfl := HJ.out.h4 (by simp [hD])
            obtain rfl := HJ.out.h7 (by simp [hD])
            obtain rfl := HJ.out.h10 (by simp [hD])
            clear hD hd
            rw [← HA.out]
            simp only [putL, List.setIfInBounds_toArray, List.set_cons_succ, List.set_cons_zero]
            go_wp2_with fail
            refine ⟨_, _, _, _, _, _, _, _, _, _, _, _, _, ?_, hide (HJ.out.p11 ⟨r1, rfl, hr4⟩)⟩
            · try rw [← HA.out]
              try simp only [putL, List.setIfInBounds_toArray, List.set_cons_succ, List.set_cons_zero]
          · intro L a wx hL0 hd
            rintro ⟨x36, x37, x38, x39, x40, x41, x42, x43, x44, x45, x46, x47, x11, rfl, HJ⟩
            have hD := hd
            simp [deps, Region.binds] at hD
            rw [← HA.out]
            simp only [putL, List.setIfInBounds_toArray, List.set_cons_succ, List.set_cons_zero]
            go_wp2_with fail
            refine ⟨_, _, _, _, _, _, _, _, _, _, _, _, _, ?_, hide (HJ.out.new hL0)⟩
            · try rw [← HA.out]
              try simp only [putL, List.setIfInBounds_toArray, List.set_cons_succ, List.set_cons_zero]
          · intro L a wx hL0 hd
            rintro ⟨x36, x37, x38, x39, x40, x41, x42, x43, x44, x45, x46, x47, x11, rfl, HJ⟩
            have hD := hd
            simp [deps, Region.binds] at hD
            obtain ⟨r1, rfl, hr4⟩ := HJ.out.h11 (by simp [hD])
            have hL12 : L 12 = true := by simp [hD]
            obtain ⟨g5, rfl, l5, n5, ⟨k, a, b, d, y0, y1, y2, y3⟩, fx⟩ := HJ.out.h12 hL12
            have HJ2 := hide (HJ.out.store (k := r1) hr4 hL12 rfl)
            unfold Free at fx
            clear hD hd
            rw [← HA.out]
            simp only [putL, List.setIfInBounds_toArray, List.set_cons_succ, List.set_cons_zero]
            go_wp2_with fail
            refine ⟨_, _, _, _, _, _, _, _, _, _, _, _, _, ?_, hide (HJ2.out)⟩
            · try rw [← HA.out]
              try simp only [putL, List.setIfInBounds_toArray, List.set_cons_succ, List.set_cons_zero]
        · intro L a wx hall
          rintro ⟨x36, x37, x38, x39, x40, x41, x42, x43, x44, x45, x46, x47, x11, rfl, HJ⟩
          obtain ⟨g5, rfl, l5, n5, hb5, hf5⟩ := HJ.out.h12 (hall 12 (by decide))
          obtain ⟨g6, r6, e6, l6, hr6, hb6⟩ := HJ.out.h13 (hall 13 (by decide))
          obtain rfl : g5 = g6 := by simpa using e6
          rw [← HA.out]
          simp only [putL, List.setIfInBounds_toArray, List.set_cons_succ, List.set_cons_zero]
          have HG := hide (show GSv w R (p + j + 1) g5 (VA j) wx from ⟨⟨HJ.out.s1, l5, hb5, hf5⟩, r6, _, _, _, hPm.out.kind hr6, hb6⟩)
          clear hb5 hf5 hb6
          go_wp2_with fail
          go_meet
          exact ⟨g5, rfl, HG⟩
      case rest =>
        obtain ⟨g5, rfl, S0c⟩ := hcut
        clear o0 o1 o2 hR1 hjm
        go_upto_if 49 with fail
        go_cut [] from 48 to 50 (fun wx => Hid (GSv w R (p + j + 1) g5 (VB l) wx))
        case first =>
          obtain ⟨k0, a0, b0, c0, y0, y1, y2, y3⟩ := S0c.out.t.b5
          have fx := S0c.out.t.f5
          unfold Free at fx
          by_cases hl1' : l = 1
          · subst hl1'
            go_wp2_with fail
            go_meet
            exact hide (S0c.out.put _ _ _ _ ⟨fun _ => ⟨rfl, rfl, rfl, rfl⟩, fun h => absurd h (by omega)⟩)
          · have e1 : (l == 1) = false := by simpa using hl1'
            go_wp2_with fail
            go_meet
            exact hide (S0c.out.imp fun k a b c h => ⟨fun h => absurd h hl1', fun h3 => by rw [HMX.out h3]; exact h⟩)
        case rest =>
        have S2 := hcut
        clear hcut S0c
        go_upto_if 52 with fail
        go_cut [] from 51 to 64 (fun wx => Hid (GSv w R (p + j + 3) g5 (VC l) wx))
        case first =>
          by_cases hl2' : l = 2
          · subst hl2'
            go_wp2_with fail
            refine wp_frame fun a0 ha0 => ?_
            have HA := Lib.hid ha0
            clear ha0
            refine wp_region_inv (fun L a wx => ∃ x53 x54 x55 x56 x57 x58 x59 x60, a = putL a0 [(53, x53), (54, x54), (55, x55), (56, x56), (57, x57), (58, x58), (59, x59), (60, x60)] ∧ Hid (K12 w R (p + j + 1) g5 L x53 x54 x55 x56 x57 x58 x59 x60 wx)) (by kernel_rfl) (by kernel_rfl) ?_ ?_ ?_
            · exact ⟨_, _, _, _, _, _, _, _, putL_self a0 [53, 54, 55, 56, 57, 58, 59, 60], hide (K12.start S2.out.t.drew)⟩
            · refine ⟨?_, ?_, ?_, ?_, ?_, ?_, ?_, ?_, ?_, trivial⟩
              · intro L a wx hL0 hd
                rintro ⟨x53, x54, x55, x56, x57, x58, x59, x60, rfl, HJ⟩
                have hD := hd
                simp [deps, Region.binds] at hD
                rw [← HA.out]
                simp only [putL, List.setIfInBounds_toArray, List.set_cons_succ, List.set_cons_zero]
                go_wp2_with fail
                refine ⟨_, _, _, _, _, _, _, _, ?_, hide (HJ.out.new 0 1 3 ⟨rfl, rfl, rfl⟩)⟩
                · try rw [← HA.out]
                  try simp only [putL, List.setIfInBounds_toArray, List.set_cons_succ, List.set_cons_zero]
              · intro L a wx hL0 hd
                rintro ⟨x53, x54, x55, x56, x57, x58, x59, x60, rfl, HJ⟩
                have hD := hd
                simp [deps, Region.binds] at hD
                rw [← HA.out]
                simp only [putL, List.setIfInBounds_toArray, List.set_cons_succ, List.set_cons_zero]
                go_wp2_with fail
                refine ⟨_, _, _, _, _, _, _, _, ?_, hide (HJ.out.p1 rfl)⟩
                · try rw [← HA.out]
                  try simp only [putL, List.setIfInBounds_toArray, List.set_cons_succ, List.set_cons_zero]
              · intro L a wx hL0 hd
                rintro ⟨x53, x54, x55, x56, x57, x58, x59, x60, rfl, HJ⟩
                have hD := hd
                simp [deps, Region.binds] at hD
                obtain rfl := HJ.out.h1 (by simp [hD])
                clear hD hd
                rw [← HA.out]
                simp only [putL, List.setIfInBounds_toArray, List.set_cons_succ, List.set_cons_zero]
                go_wp2_with fail
                refine (pick_b R (p + j + 1) 3 _ (HJ.out.s0 hL0).s.rd (by omega) (by omega)).mono ?_
                rintro e w1 ⟨r, rfl, r1, r2, _, hr, hg⟩
                obtain ⟨t, rfl⟩ := Int.eq_ofNat_of_zero_le r1
                have HJ2 := hide (HJ.out.pick2 hL0 (r := t) (by have := r2 (by omega); omega) hr hg)
                clear hr hg r1 r2
                go_wp2_with fail
                refine ⟨_, _, _, _, _, _, _, _, ?_, hide (HJ2.out)⟩
                · try rw [← HA.out]
                  try simp only [putL, List.setIfInBounds_toArray, List.set_cons_succ, List.set_cons_zero]
              · intro L a wx hL0 hd
                rintro ⟨x53, x54, x55, x56, x57, x58, x59, x60, rfl, HJ⟩
                have hD := hd
                simp [deps, Region.binds] at hD
                obtain ⟨b, rfl, l1, n1, hc⟩ := HJ.out.h0 (by simp [hD])
                obtain ⟨t, rfl, ht⟩ := HJ.out.h2 (by simp [hD])
                have HC := hide (hc t ht)
                clear hc hD hd
                rw [← HA.out]
                simp only [putL, List.setIfInBounds_toArray, List.set_cons_succ, List.set_cons_zero]
                go_wp2_with fail
                obtain ⟨z, z3, hz⟩ := HC.out
                refine ⟨_, _, _, _, _, _, _, _, ?_, hide (HJ.out.p3 ⟨b, t, z, rfl, l1, n1, z3, hz⟩)⟩
                · try rw [← HA.out]
                  try simp only [putL, List.setIfInBounds_toArray, List.set_cons_succ, List.set_cons_zero]
              · intro L a wx hL0 hd
                rintro ⟨x53, x54, x55, x56, x57, x58, x59, x60, rfl, HJ⟩
                have hD := hd
                simp [deps, Region.binds] at hD
                obtain ⟨b, t, z, rfl, l1, n1, z3, hz⟩ := HJ.out.h3 (by simp [hD])
                clear hD hd
                rw [← HA.out]
                simp only [putL, List.setIfInBounds_toArray, List.set_cons_succ, List.set_cons_zero]
                go_wp2_with fail
                refine ⟨_, _, _, _, _, _, _, _, ?_, hide (HJ.out.p4 ⟨z, rfl, z3⟩)⟩
                · try rw [← HA.out]
                  try simp only [putL, List.setIfInBounds_toArray, List.set_cons_succ, List.set_cons_zero]
              · intro L a wx hL0 hd
                rintro ⟨x53, x54, x55, x56, x57, x58, x59, x60, rfl, HJ⟩
                have hD := hd
                simp [deps, Region.binds] at hD
                rw [← HA.out]
                simp only [putL, List.setIfInBounds_toArray, List.set_cons_succ, List.set_cons_zero]
                go_wp2_with fail
                refine ⟨_, _, _, _, _, _, _, _, ?_, hide (HJ.out.p5 rfl)⟩
                · try rw [← HA.out]
                  try simp only [putL, List.setIfInBounds_toArray, List.set_cons_succ, List.set_cons_zero]
              · intro L a wx hL0 hd
                rintro ⟨x53, x54, x55, x56, x57, x58, x59, x60, rfl, HJ⟩
                have hD := hd
                simp [deps, Region.binds] at hD
                obtain rfl := HJ.out.h5 (by simp [hD])
                have h2 : L 2 = true := by simp [hD]
                clear hD hd
                rw [← HA.out]
                simp only [putL, List.setIfInBounds_toArray, List.set_cons_succ, List.set_cons_zero]
                go_wp2_with fail
                refine (pick_b R (p + j + 1 + 1) 2 _ (HJ.out.s1 hL0).s.rd (by omega) (by omega)).mono ?_
                rintro e w1 ⟨r, rfl, r1, r2, _, hr, hg⟩
                obtain ⟨t, rfl⟩ := Int.eq_ofNat_of_zero_le r1
                have HJ2 := hide (HJ.out.pick6 h2 hL0 (r := t) (by have := r2 (by omega); omega) hr hg)
                clear hr hg r1 r2
                go_wp2_with fail
                refine ⟨_, _, _, _, _, _, _, _, ?_, hide (HJ2.out)⟩
                · try rw [← HA.out]
                  try simp only [putL, List.setIfInBounds_toArray, List.set_cons_succ, List.set_cons_zero]
              · intro L a wx hL0 hd
                rintro ⟨x53, x54, x55, x56, x57, x58, x59, x60, rfl, HJ⟩
                have hD := hd
                simp [deps, Region.binds] at hD
                obtain ⟨r1, rfl, z3⟩ := HJ.out.h4 (by simp [hD])
                obtain ⟨r2, rfl, q1, q2⟩ := HJ.out.h6 (by simp [hD])
                clear hD hd
                rw [← HA.out]
                simp only [putL, List.setIfInBounds_toArray, List.set_cons_succ, List.set_cons_zero]
                go_wp2_with fail
                refine ⟨_, _, _, _, _, _, _, _, ?_, hide (HJ.out.p7 ⟨r1, r2, rfl, z3, q1, q2⟩)⟩
                · try rw [← HA.out]
                  try simp only [putL, List.setIfInBounds_toArray, List.set_cons_succ, List.set_cons_zero]
              · intro L a wx hL0 hd
                rintro ⟨x53, x54, x55, x56, x57, x58, x59, x60, rfl, HJ⟩
                have hD := hd
                simp [deps, Region.binds] at hD
                obtain ⟨k, a, rfl, hk7⟩ := HJ.out.h7 (by simp [hD])
                obtain ⟨k0, a0_, b0, d0, y0, y1, y2, y3⟩ := HJ.out.s2.b5
                have fx := HJ.out.s2.f5
                unfold Free at fx
                clear hD hd
                rw [← HA.out]
                simp only [putL, List.setIfInBounds_toArray, List.set_cons_succ, List.set_cons_zero]
                go_wp2_with fail
                refine ⟨_, _, _, _, _, _, _, _, ?_, hide (HJ.out.store k a hk7)⟩
                · try rw [← HA.out]
                  try simp only [putL, List.setIfInBounds_toArray, List.set_cons_succ, List.set_cons_zero]
            · intro L a wx hall
              rintro ⟨x53, x54, x55, x56, x57, x58, x59, x60, rfl, HJ⟩
              rw [← HA.out]
              simp only [putL, List.setIfInBounds_toArray, List.set_cons_succ, List.set_cons_zero]
              obtain ⟨k1, a1, hk1, ha1, y0, y1, y2, y3⟩ := HJ.out.h8 (hall 8 (by decide))
              obtain ⟨ha10, ha11⟩ := ha1
              have S3 := hide (show GSv w R (p + j + 1 + 2) g5 (fun k a b c => k = k1 ∧ a = a1 ∧ b = 0 ∧ c = 0) wx from ⟨HJ.out.s2, k1, a1, 0, 0, ⟨rfl, rfl, rfl, rfl⟩, y0, y1, y2, y3⟩)
              have fx := S3.out.t.f5
              unfold Free at fx
              go_wp2_with fail
              go_meet
              exact hide ((S3.out.one 2 (by omega) (1 - a1) (V' := VC 2) (fun k a b c h => by obtain ⟨rfl, rfl, rfl, rfl⟩ := h; exact ⟨fun h => absurd h (by omega), fun _ => ⟨hk1, ⟨ha10, ha11⟩, rfl, rfl⟩, fun h => absurd h (by omega)⟩)).mono (by omega))
          · have e1 : (l == 2) = false := by simpa using hl2'
            go_wp2_with fail
            go_meet
            exact hide ((S2.out.imp fun k a b c h => ⟨h.1, fun h => absurd h hl2', h.2⟩).mono (by omega))
        case rest =>
        have S4 := hcut
        clear hcut S2
        obtain ⟨k0, a0, b0, c0, hv0, y0, y1, y2, y3⟩ := S4.out.v
        have fx := S4.out.t.f5
        have S4' := hide (show GSv w R (p + j + 3) g5 (fun k a b c => k = k0 ∧ a = a0 ∧ b = b0 ∧ c = c0) wc from ⟨S4.out.t, k0, a0, b0, c0, ⟨rfl, rfl, rfl, rfl⟩, y0, y1, y2, y3⟩)
        have HV0 := hide hv0
        unfold Free at fx
        clear hv0
        go_upto_if 67 with fail
        go_cut [] from 65 to 68 (fun wx => Hid (GSv w R (p + j + 3) g5 (VD l) wx))
        case first =>
          cases hb : (k0 == 0)
          · go_wp2_with fail
            go_meet
            exact hide (S4'.out.imp fun k a b c h => by obtain ⟨rfl, rfl, rfl, rfl⟩ := h; exact ⟨b, HV0.out, fun h => absurd h (by simpa using hb), fun _ => rfl⟩)
          · go_wp2_with fail
            go_meet
            exact hide (S4'.out.one 2 (by omega) 0 (V' := VD l) (fun k a b c h => by obtain ⟨rfl, rfl, rfl, rfl⟩ := h; exact ⟨b, HV0.out, fun _ => rfl, fun h => absurd (by simpa using hb) h⟩))
        case rest =>
        have S5 := hcut
        clear hcut S4 S4' HV0 y0 y1 y2 y3 fx k0 a0 b0 c0
        obtain ⟨k0, a0, b0, c0, hv0, y0, y1, y2, y3⟩ := S5.out.v
        have fx := S5.out.t.f5
        have S5' := hide (show GSv w R (p + j + 3) g5 (fun k a b c => k = k0 ∧ a = a0 ∧ b = b0 ∧ c = c0) wc from ⟨S5.out.t, k0, a0, b0, c0, ⟨rfl, rfl, rfl, rfl⟩, y0, y1, y2, y3⟩)
        have HV0 := hide hv0
        unfold Free at fx
        clear hv0
        go_upto_region 16 with fail
        go_cut [81] from 69 to 81 (fun v wx => ∃ bq : Bool, v = .bool bq ∧ Hid (bq = (k0 == 0 || k0 == 1 || k0 == 3)) ∧ Hid (GSv w R (p + j + 3) g5 (fun k a b c => k = k0 ∧ a = a0 ∧ b = b0 ∧ c = c0) wx))
        case first =>
          cases h0 : (k0 == 0) <;> cases h1 : (k0 == 1) <;> cases h3 : (k0 == 3)
          all_goals
            go_wp2_with fail
            go_meet
            exact ⟨_, rfl, hide (by simp [h0, h1, h3]), S5'⟩
        case rest =>
        obtain ⟨bq, rfl, HBQ, S6⟩ := hcut
        clear S5 S5' y0 y1 y2 y3 fx
        have S6v := S6.out.v
        obtain ⟨k0', a0', b0', c0', ⟨rfl, rfl, rfl, rfl⟩, y0, y1, y2, y3⟩ := S6v
        have fx := S6.out.t.f5
        unfold Free at fx
        go_upto_if 81 with fail
        go_cut [] from 82 to 82 (fun wx => Hid (GSv w R (p + j + 3) g5 (VE l) wx))
        case first =>
          cases bq
          · go_wp2_with fail
            go_meet
            exact hide (S6.out.imp fun k a b c h => by
              obtain ⟨rfl, rfl, rfl, rfl⟩ := h
              have hq := HBQ.out
              simp at hq
              exact ⟨c, HV0.out, fun h => by omega, fun _ => rfl⟩)
          · go_wp2_with fail
            go_meet
            exact hide (S6.out.one 3 (by omega) 0 (V' := VE l) (fun k a b c h => by
              obtain ⟨rfl, rfl, rfl, rfl⟩ := h
              have hq := HBQ.out
              simp at hq
              exact ⟨c, HV0.out, fun _ => rfl, fun h => by omega⟩))
        case rest =>
        have S7 := hcut
        clear hcut S6 HV0 HBQ y0 y1 y2 y3 fx
        go_wp2_with fail
        refine (odd_zero _ _).mono ?_
        rintro e w' ⟨rfl, rfl⟩
        obtain ⟨k1, a1, b1, c1, hv1, y0, y1, y2, y3⟩ := S7.out.v
        obtain ⟨z0, z1, z2, z3⟩ := S7.out.t.s.b
        have fz := S7.out.t.s.f
        have HV1 := hide (ve_gate (by omega) hv1)
        unfold Free at fz
        clear hv1
        go_wp2_with fail
        refine post_named fun w12 hw12 => ?_
        obtain ⟨⟨p0, p1, p2, p3⟩, hr, hg⟩ : Box4 w12 w.heap.size k1 a1 b1 c1 ∧ RdB w12 R (p + j + 3) ∧ w.grownBy w12 (some R) := by rw [← hw12]; exact S7.out.t.fin _ _ _ _
        clear hw12
        exact bodyPost_ret (v := .agg #[.int .i64 k1, .int .i64 a1, .int .i64 b1, .int .i64 c1]) (by simp [results, Try.results50, go_sem, p0, p1, p2, p3]) rfl ⟨k1, a1, b1, c1, rfl, HV1.out, hr.mono (by omega), hg⟩
end Go.Proofs.Yteedkpfpljecaaa
