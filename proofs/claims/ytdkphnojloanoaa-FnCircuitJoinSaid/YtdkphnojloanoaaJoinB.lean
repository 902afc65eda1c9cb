/-
  The draw of two circuits.
  No condition.
-/
import Derived.Test.YtdkphnojloanoaaDrawCirc
namespace Go.Proofs.Ytdkphnojloanoaa
open Go.RowKit Go.Sort base
def DrawnLC (w : World) (R P : Nat) (e : Ending) (w' : World) : Prop :=
  ∃ (l : Int) (v : Value) (gs : List G4) (base : Nat), e = .returned (.tuple #[.int .i64 l, v]) ∧ (-1 ≤ l ∧ l ≤ 9) ∧ R < base ∧ w.heap.size ≤ base ∧ OwnG w' base v gs ∧ gs.length ≤ 25 ∧ RdB w' R P ∧ w.grownBy w' (some R)
set_option maxHeartbeats 1000000 in
theorem l20Lined_b (R p : Nat) (N : Int) (w : World) (h : RdB w R p) (hp : p ≤ 70000) (hN : 0 ≤ N ∧ N ≤ 400) :
    Calls Try.prog 65 #[.pointer (some ⟨R, 0, none⟩), .int .i64 N] w (DrawnLC w R (p + 402)) := by
  have H0 := hide h
  have hlt := h.lt
  obtain ⟨hN0, hN1⟩ := hN
  clear h
  go_enter Try.func65, Try.ntmps65
  go_wp2_with fail
  refine (l20Lines_b R p _ _ H0.out (by omega) (by omega)).mono ?_
  rintro e w1 ⟨l, rfl, hl, hr, hg⟩
  have H1 := hide hr
  have D1 := hide hg
  have HL := hide hl
  have hs1 := hg.size
  clear hr hg hl
  go_wp2_with fail
  refine (l20Circuit_b R (p + 2) 10 l _ _ H1.out (by omega) HL.out (by omega) (by omega)).mono ?_
  rintro e w2 ⟨v, gs, rfl, ho, hlen, hrg⟩
  have O2 := hide ho
  have R2 := hide hrg
  have L2 := hide hlen
  clear ho hrg hlen
  go_wp2_with fail
  exact bodyPost_ret (v := .tuple #[.int .i64 l, v]) (by simp [results, Try.results65, go_sem]) rfl ⟨l, v, gs, w1.heap.size, rfl, HL.out, by omega, hs1, O2.out, L2.out, R2.out.rd.mono (by omega), grown_seq D1.out R2.out.gr⟩
def FreshCC (w : World) (e : Ending) (w' : World) : Prop :=
  ∃ (l : Int) (A A' : Option Addr) (n c m d : Nat) (a b : List G4), e = .returned (.tuple #[.int .i64 l, .slice A n c, .slice A' m d]) ∧ (-1 ≤ l ∧ l ≤ 9) ∧ GR w' A n a ∧ GR w' A' m b ∧ n ≤ 25 ∧ m ≤ 25 ∧ Below w.heap.size w w'
set_option maxHeartbeats 1000000 in
theorem drawJoin_b (A : Option Addr) (n c : Nat) (zs : List Int) (w : World) (h : IRk .u8 w A n zs) (hz : ∀ z ∈ zs, (Lit.int .u8 z).wf = true) (hc : n ≤ c) :
    Calls Try.prog 36 #[.slice A n c] w (FreshCC w) := by
  have H := hide h
  have HZ := hide hz
  clear h hz
  go_enter Try.func36, Try.ntmps36
  go_wp2_with fail
  refine (open_b A n c zs _ H.out HZ.out hc).mono ?_
  rintro e w1 ⟨R, rfl, hR, hr, hb⟩
  have H1 := hide hr
  have B1 := hide hb
  clear hr hb
  go_wp2_with fail
  refine (l20Lined_b R 0 9 _ H1.out (by omega) (by omega)).mono ?_
  rintro e w2 ⟨l, v, gs, base, rfl, hl, hRb, _, ho, hlen, hr, hg⟩
  have H2 := hide hr
  have O2 := hide ho
  have L2 := hide hlen
  have HL := hide hl
  have B2 := hide (B1.out.grown hg B1.out.size (by simp; omega))
  clear hr ho hlen hl hg
  go_wp2_with fail
  refine (l20Circuit_b R (0 + 402) 16 l _ _ H2.out (by omega) HL.out (by omega) (by omega)).mono ?_
  rintro e w3 ⟨v3, gs3, rfl, ho3, hlen3, hrg⟩
  have O2' := hide (O2.out.kept hrg.gr (O2.out.ne hRb))
  have O3 := hide ho3
  have L3 := hide hlen3
  have B3 := hide (B2.out.grown hrg.gr B2.out.size (by simp; omega))
  clear ho3 hlen3 hrg
  go_wp2_with fail
  obtain ⟨A2, c2, e2, g2⟩ := O2'.out.gr
  obtain ⟨A3, c3, e3, g3⟩ := O3.out.gr
  exact bodyPost_ret (v := .tuple #[.int .i64 l, v, v3]) (by simp [results, Try.results36, go_sem]) rfl ⟨l, A2, A3, _, c2, _, c3, _, _, by rw [e2, e3], HL.out, g2, g3, L2.out, L3.out, B3.out⟩
end Go.Proofs.Ytdkphnojloanoaa
