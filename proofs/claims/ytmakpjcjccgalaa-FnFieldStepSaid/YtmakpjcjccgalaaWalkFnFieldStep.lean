/-
  The walk of the law FnFieldStep: it returns true at every input, and turns nothing that was there.
  No condition.
-/
import Derived.Test.YtmakpjcjccgalaaFieldOther
import Derived.Test.YtmakpjcjccgalaaDrawField
namespace Go.Proofs.Ytmakpjcjccgalaa
open Go.RowKit Go.Sort base

structure JC (w : World) (s : Int) (Af Ax : Option Addr) (nf cf nx cx bx bf : Nat) (sh : Bool) (bs : List Bool) (L : Nat → Bool) (x41 x42 x43 x44 x45 x46 x47 x48 x49 x50 x51 x52 x53 x54 x55 x56 x57 x58 x59 x2 : Value) (wx : World) : Prop where
  h0 : L 0 = true → x41 = .agg #[.int .i64 (outS s bs), .slice Ax nx cx, .bool (outN s sh bs)]
  h1 : L 1 = true → ∃ A n c, x42 = .agg #[.int .i64 s, .slice A n c, .bool sh] ∧ BR wx A n bs
  h2 : L 2 = true → x43 = .agg #[.int .i64 s, .slice Af nf cf, .bool sh]
  h3 : L 3 = true → x44 = .bool true
  h4 : L 4 = true → x45 = .bool true
  h5 : L 5 = true → x46 = .agg #[.int .i64 s, .slice Af nf cf, .bool sh]
  h6 : L 6 = true → ∃ A n c, x47 = .agg #[.int .i64 (outS s bs), .slice A n c, .bool (outK s sh bs)] ∧ BR wx A n (turnL s bs)
  h7 : L 7 = true → ∃ A n c, x48 = .agg #[.int .i64 (outS s bs), .slice A n c, .bool (outN s sh bs)] ∧ BR wx A n (turnL s (stepL s sh bs))
  h8 : L 8 = true → x49 = .agg #[.int .i64 (outS s bs), .slice Ax nx cx, .bool (outN s sh bs)]
  h9 : L 9 = true → ∃ A n c, x50 = .agg #[.int .i64 (outS s bs), .slice A n c, .bool (outN s sh bs)] ∧ BR wx A n (turnL s (stepL s sh bs))
  h10 : L 10 = true → x51 = .bool true
  h11 : L 11 = true → x52 = .bool true
  h12 : L 12 = true → x53 = .bool true
  h13 : L 13 = true → x54 = .pointer (some ⟨bx, 2, none⟩)
  h14 : L 14 = true → x55 = .bool (outN s sh bs)
  h15 : L 15 = true → x56 = .pointer (some ⟨bf, 2, none⟩)
  h16 : L 16 = true → x57 = .bool sh
  h17 : L 17 = true → x58 = .bool true
  h18 : L 18 = true → x59 = .bool true
  h19 : L 19 = true → x2 = .bool true
  b : Below w.heap.size w wx
theorem JC.start {w : World} {s : Int} {Af Ax : Option Addr} {nf cf nx cx bx bf : Nat} {sh : Bool} {bs : List Bool} {wx : World} {x41 x42 x43 x44 x45 x46 x47 x48 x49 x50 x51 x52 x53 x54 x55 x56 x57 x58 x59 x2 : Value} (hs : Below w.heap.size w wx) : JC w s Af Ax nf cf nx cx bx bf sh bs (fun _ => false) x41 x42 x43 x44 x45 x46 x47 x48 x49 x50 x51 x52 x53 x54 x55 x56 x57 x58 x59 x2 wx :=
  ⟨(fun h => by cases h), (fun h => by cases h), (fun h => by cases h), (fun h => by cases h), (fun h => by cases h), (fun h => by cases h), (fun h => by cases h), (fun h => by cases h), (fun h => by cases h), (fun h => by cases h), (fun h => by cases h), (fun h => by cases h), (fun h => by cases h), (fun h => by cases h), (fun h => by cases h), (fun h => by cases h), (fun h => by cases h), (fun h => by cases h), (fun h => by cases h), (fun h => by cases h), hs⟩
theorem JC.p0 {w : World} {s : Int} {Af Ax : Option Addr} {nf cf nx cx bx bf : Nat} {sh : Bool} {bs : List Bool} {wx : World} {L : Nat → Bool} {x41 x42 x43 x44 x45 x46 x47 x48 x49 x50 x51 x52 x53 x54 x55 x56 x57 x58 x59 x2 : Value} (h : JC w s Af Ax nf cf nx cx bx bf sh bs L x41 x42 x43 x44 x45 x46 x47 x48 x49 x50 x51 x52 x53 x54 x55 x56 x57 x58 x59 x2 wx) (hL : L 0 = false) {v : Value} (hv : v = .agg #[.int .i64 (outS s bs), .slice Ax nx cx, .bool (outN s sh bs)])  : JC w s Af Ax nf cf nx cx bx bf sh bs (upd L 0) (v) x42 x43 x44 x45 x46 x47 x48 x49 x50 x51 x52 x53 x54 x55 x56 x57 x58 x59 x2 wx :=
  ⟨fun _ => hv, fun e => h.h1 (upd_ne e rfl), fun e => h.h2 (upd_ne e rfl), fun e => h.h3 (upd_ne e rfl), fun e => h.h4 (upd_ne e rfl), fun e => h.h5 (upd_ne e rfl), fun e => h.h6 (upd_ne e rfl), fun e => h.h7 (upd_ne e rfl), fun e => h.h8 (upd_ne e rfl), fun e => h.h9 (upd_ne e rfl), fun e => h.h10 (upd_ne e rfl), fun e => h.h11 (upd_ne e rfl), fun e => h.h12 (upd_ne e rfl), fun e => h.h13 (upd_ne e rfl), fun e => h.h14 (upd_ne e rfl), fun e => h.h15 (upd_ne e rfl), fun e => h.h16 (upd_ne e rfl), fun e => h.h17 (upd_ne e rfl), fun e => h.h18 (upd_ne e rfl), fun e => h.h19 (upd_ne e rfl), h.b⟩
theorem JC.p2 {w : World} {s : Int} {Af Ax : Option Addr} {nf cf nx cx bx bf : Nat} {sh : Bool} {bs : List Bool} {wx : World} {L : Nat → Bool} {x41 x42 x43 x44 x45 x46 x47 x48 x49 x50 x51 x52 x53 x54 x55 x56 x57 x58 x59 x2 : Value} (h : JC w s Af Ax nf cf nx cx bx bf sh bs L x41 x42 x43 x44 x45 x46 x47 x48 x49 x50 x51 x52 x53 x54 x55 x56 x57 x58 x59 x2 wx) (hL : L 2 = false) {v : Value} (hv : v = .agg #[.int .i64 s, .slice Af nf cf, .bool sh])  : JC w s Af Ax nf cf nx cx bx bf sh bs (upd L 2) x41 x42 (v) x44 x45 x46 x47 x48 x49 x50 x51 x52 x53 x54 x55 x56 x57 x58 x59 x2 wx :=
  ⟨fun e => h.h0 (upd_ne e rfl), fun e => h.h1 (upd_ne e rfl), fun _ => hv, fun e => h.h3 (upd_ne e rfl), fun e => h.h4 (upd_ne e rfl), fun e => h.h5 (upd_ne e rfl), fun e => h.h6 (upd_ne e rfl), fun e => h.h7 (upd_ne e rfl), fun e => h.h8 (upd_ne e rfl), fun e => h.h9 (upd_ne e rfl), fun e => h.h10 (upd_ne e rfl), fun e => h.h11 (upd_ne e rfl), fun e => h.h12 (upd_ne e rfl), fun e => h.h13 (upd_ne e rfl), fun e => h.h14 (upd_ne e rfl), fun e => h.h15 (upd_ne e rfl), fun e => h.h16 (upd_ne e rfl), fun e => h.h17 (upd_ne e rfl), fun e => h.h18 (upd_ne e rfl), fun e => h.h19 (upd_ne e rfl), h.b⟩
theorem JC.p4 {w : World} {s : Int} {Af Ax : Option Addr} {nf cf nx cx bx bf : Nat} {sh : Bool} {bs : List Bool} {wx : World} {L : Nat → Bool} {x41 x42 x43 x44 x45 x46 x47 x48 x49 x50 x51 x52 x53 x54 x55 x56 x57 x58 x59 x2 : Value} (h : JC w s Af Ax nf cf nx cx bx bf sh bs L x41 x42 x43 x44 x45 x46 x47 x48 x49 x50 x51 x52 x53 x54 x55 x56 x57 x58 x59 x2 wx) (hL : L 4 = false) {v : Value} (hv : v = .bool true)  : JC w s Af Ax nf cf nx cx bx bf sh bs (upd L 4) x41 x42 x43 x44 (v) x46 x47 x48 x49 x50 x51 x52 x53 x54 x55 x56 x57 x58 x59 x2 wx :=
  ⟨fun e => h.h0 (upd_ne e rfl), fun e => h.h1 (upd_ne e rfl), fun e => h.h2 (upd_ne e rfl), fun e => h.h3 (upd_ne e rfl), fun _ => hv, fun e => h.h5 (upd_ne e rfl), fun e => h.h6 (upd_ne e rfl), fun e => h.h7 (upd_ne e rfl), fun e => h.h8 (upd_ne e rfl), fun e => h.h9 (upd_ne e rfl), fun e => h.h10 (upd_ne e rfl), fun e => h.h11 (upd_ne e rfl), fun e => h.h12 (upd_ne e rfl), fun e => h.h13 (upd_ne e rfl), fun e => h.h14 (upd_ne e rfl), fun e => h.h15 (upd_ne e rfl), fun e => h.h16 (upd_ne e rfl), fun e => h.h17 (upd_ne e rfl), fun e => h.h18 (upd_ne e rfl), fun e => h.h19 (upd_ne e rfl), h.b⟩
theorem JC.p5 {w : World} {s : Int} {Af Ax : Option Addr} {nf cf nx cx bx bf : Nat} {sh : Bool} {bs : List Bool} {wx : World} {L : Nat → Bool} {x41 x42 x43 x44 x45 x46 x47 x48 x49 x50 x51 x52 x53 x54 x55 x56 x57 x58 x59 x2 : Value} (h : JC w s Af Ax nf cf nx cx bx bf sh bs L x41 x42 x43 x44 x45 x46 x47 x48 x49 x50 x51 x52 x53 x54 x55 x56 x57 x58 x59 x2 wx) (hL : L 5 = false) {v : Value} (hv : v = .agg #[.int .i64 s, .slice Af nf cf, .bool sh])  : JC w s Af Ax nf cf nx cx bx bf sh bs (upd L 5) x41 x42 x43 x44 x45 (v) x47 x48 x49 x50 x51 x52 x53 x54 x55 x56 x57 x58 x59 x2 wx :=
  ⟨fun e => h.h0 (upd_ne e rfl), fun e => h.h1 (upd_ne e rfl), fun e => h.h2 (upd_ne e rfl), fun e => h.h3 (upd_ne e rfl), fun e => h.h4 (upd_ne e rfl), fun _ => hv, fun e => h.h6 (upd_ne e rfl), fun e => h.h7 (upd_ne e rfl), fun e => h.h8 (upd_ne e rfl), fun e => h.h9 (upd_ne e rfl), fun e => h.h10 (upd_ne e rfl), fun e => h.h11 (upd_ne e rfl), fun e => h.h12 (upd_ne e rfl), fun e => h.h13 (upd_ne e rfl), fun e => h.h14 (upd_ne e rfl), fun e => h.h15 (upd_ne e rfl), fun e => h.h16 (upd_ne e rfl), fun e => h.h17 (upd_ne e rfl), fun e => h.h18 (upd_ne e rfl), fun e => h.h19 (upd_ne e rfl), h.b⟩
theorem JC.p8 {w : World} {s : Int} {Af Ax : Option Addr} {nf cf nx cx bx bf : Nat} {sh : Bool} {bs : List Bool} {wx : World} {L : Nat → Bool} {x41 x42 x43 x44 x45 x46 x47 x48 x49 x50 x51 x52 x53 x54 x55 x56 x57 x58 x59 x2 : Value} (h : JC w s Af Ax nf cf nx cx bx bf sh bs L x41 x42 x43 x44 x45 x46 x47 x48 x49 x50 x51 x52 x53 x54 x55 x56 x57 x58 x59 x2 wx) (hL : L 8 = false) {v : Value} (hv : v = .agg #[.int .i64 (outS s bs), .slice Ax nx cx, .bool (outN s sh bs)])  : JC w s Af Ax nf cf nx cx bx bf sh bs (upd L 8) x41 x42 x43 x44 x45 x46 x47 x48 (v) x50 x51 x52 x53 x54 x55 x56 x57 x58 x59 x2 wx :=
  ⟨fun e => h.h0 (upd_ne e rfl), fun e => h.h1 (upd_ne e rfl), fun e => h.h2 (upd_ne e rfl), fun e => h.h3 (upd_ne e rfl), fun e => h.h4 (upd_ne e rfl), fun e => h.h5 (upd_ne e rfl), fun e => h.h6 (upd_ne e rfl), fun e => h.h7 (upd_ne e rfl), fun _ => hv, fun e => h.h9 (upd_ne e rfl), fun e => h.h10 (upd_ne e rfl), fun e => h.h11 (upd_ne e rfl), fun e => h.h12 (upd_ne e rfl), fun e => h.h13 (upd_ne e rfl), fun e => h.h14 (upd_ne e rfl), fun e => h.h15 (upd_ne e rfl), fun e => h.h16 (upd_ne e rfl), fun e => h.h17 (upd_ne e rfl), fun e => h.h18 (upd_ne e rfl), fun e => h.h19 (upd_ne e rfl), h.b⟩
theorem JC.p11 {w : World} {s : Int} {Af Ax : Option Addr} {nf cf nx cx bx bf : Nat} {sh : Bool} {bs : List Bool} {wx : World} {L : Nat → Bool} {x41 x42 x43 x44 x45 x46 x47 x48 x49 x50 x51 x52 x53 x54 x55 x56 x57 x58 x59 x2 : Value} (h : JC w s Af Ax nf cf nx cx bx bf sh bs L x41 x42 x43 x44 x45 x46 x47 x48 x49 x50 x51 x52 x53 x54 x55 x56 x57 x58 x59 x2 wx) (hL : L 11 = false) {v : Value} (hv : v = .bool true)  : JC w s Af Ax nf cf nx cx bx bf sh bs (upd L 11) x41 x42 x43 x44 x45 x46 x47 x48 x49 x50 x51 (v) x53 x54 x55 x56 x57 x58 x59 x2 wx :=
  ⟨fun e => h.h0 (upd_ne e rfl), fun e => h.h1 (upd_ne e rfl), fun e => h.h2 (upd_ne e rfl), fun e => h.h3 (upd_ne e rfl), fun e => h.h4 (upd_ne e rfl), fun e => h.h5 (upd_ne e rfl), fun e => h.h6 (upd_ne e rfl), fun e => h.h7 (upd_ne e rfl), fun e => h.h8 (upd_ne e rfl), fun e => h.h9 (upd_ne e rfl), fun e => h.h10 (upd_ne e rfl), fun _ => hv, fun e => h.h12 (upd_ne e rfl), fun e => h.h13 (upd_ne e rfl), fun e => h.h14 (upd_ne e rfl), fun e => h.h15 (upd_ne e rfl), fun e => h.h16 (upd_ne e rfl), fun e => h.h17 (upd_ne e rfl), fun e => h.h18 (upd_ne e rfl), fun e => h.h19 (upd_ne e rfl), h.b⟩
theorem JC.p12 {w : World} {s : Int} {Af Ax : Option Addr} {nf cf nx cx bx bf : Nat} {sh : Bool} {bs : List Bool} {wx : World} {L : Nat → Bool} {x41 x42 x43 x44 x45 x46 x47 x48 x49 x50 x51 x52 x53 x54 x55 x56 x57 x58 x59 x2 : Value} (h : JC w s Af Ax nf cf nx cx bx bf sh bs L x41 x42 x43 x44 x45 x46 x47 x48 x49 x50 x51 x52 x53 x54 x55 x56 x57 x58 x59 x2 wx) (hL : L 12 = false) {v : Value} (hv : v = .bool true)  : JC w s Af Ax nf cf nx cx bx bf sh bs (upd L 12) x41 x42 x43 x44 x45 x46 x47 x48 x49 x50 x51 x52 (v) x54 x55 x56 x57 x58 x59 x2 wx :=
  ⟨fun e => h.h0 (upd_ne e rfl), fun e => h.h1 (upd_ne e rfl), fun e => h.h2 (upd_ne e rfl), fun e => h.h3 (upd_ne e rfl), fun e => h.h4 (upd_ne e rfl), fun e => h.h5 (upd_ne e rfl), fun e => h.h6 (upd_ne e rfl), fun e => h.h7 (upd_ne e rfl), fun e => h.h8 (upd_ne e rfl), fun e => h.h9 (upd_ne e rfl), fun e => h.h10 (upd_ne e rfl), fun e => h.h11 (upd_ne e rfl), fun _ => hv, fun e => h.h13 (upd_ne e rfl), fun e => h.h14 (upd_ne e rfl), fun e => h.h15 (upd_ne e rfl), fun e => h.h16 (upd_ne e rfl), fun e => h.h17 (upd_ne e rfl), fun e => h.h18 (upd_ne e rfl), fun e => h.h19 (upd_ne e rfl), h.b⟩
theorem JC.p13 {w : World} {s : Int} {Af Ax : Option Addr} {nf cf nx cx bx bf : Nat} {sh : Bool} {bs : List Bool} {wx : World} {L : Nat → Bool} {x41 x42 x43 x44 x45 x46 x47 x48 x49 x50 x51 x52 x53 x54 x55 x56 x57 x58 x59 x2 : Value} (h : JC w s Af Ax nf cf nx cx bx bf sh bs L x41 x42 x43 x44 x45 x46 x47 x48 x49 x50 x51 x52 x53 x54 x55 x56 x57 x58 x59 x2 wx) (hL : L 13 = false) {v : Value} (hv : v = .pointer (some ⟨bx, 2, none⟩))  : JC w s Af Ax nf cf nx cx bx bf sh bs (upd L 13) x41 x42 x43 x44 x45 x46 x47 x48 x49 x50 x51 x52 x53 (v) x55 x56 x57 x58 x59 x2 wx :=
  ⟨fun e => h.h0 (upd_ne e rfl), fun e => h.h1 (upd_ne e rfl), fun e => h.h2 (upd_ne e rfl), fun e => h.h3 (upd_ne e rfl), fun e => h.h4 (upd_ne e rfl), fun e => h.h5 (upd_ne e rfl), fun e => h.h6 (upd_ne e rfl), fun e => h.h7 (upd_ne e rfl), fun e => h.h8 (upd_ne e rfl), fun e => h.h9 (upd_ne e rfl), fun e => h.h10 (upd_ne e rfl), fun e => h.h11 (upd_ne e rfl), fun e => h.h12 (upd_ne e rfl), fun _ => hv, fun e => h.h14 (upd_ne e rfl), fun e => h.h15 (upd_ne e rfl), fun e => h.h16 (upd_ne e rfl), fun e => h.h17 (upd_ne e rfl), fun e => h.h18 (upd_ne e rfl), fun e => h.h19 (upd_ne e rfl), h.b⟩
theorem JC.p14 {w : World} {s : Int} {Af Ax : Option Addr} {nf cf nx cx bx bf : Nat} {sh : Bool} {bs : List Bool} {wx : World} {L : Nat → Bool} {x41 x42 x43 x44 x45 x46 x47 x48 x49 x50 x51 x52 x53 x54 x55 x56 x57 x58 x59 x2 : Value} (h : JC w s Af Ax nf cf nx cx bx bf sh bs L x41 x42 x43 x44 x45 x46 x47 x48 x49 x50 x51 x52 x53 x54 x55 x56 x57 x58 x59 x2 wx) (hL : L 14 = false) {v : Value} (hv : v = .bool (outN s sh bs))  : JC w s Af Ax nf cf nx cx bx bf sh bs (upd L 14) x41 x42 x43 x44 x45 x46 x47 x48 x49 x50 x51 x52 x53 x54 (v) x56 x57 x58 x59 x2 wx :=
  ⟨fun e => h.h0 (upd_ne e rfl), fun e => h.h1 (upd_ne e rfl), fun e => h.h2 (upd_ne e rfl), fun e => h.h3 (upd_ne e rfl), fun e => h.h4 (upd_ne e rfl), fun e => h.h5 (upd_ne e rfl), fun e => h.h6 (upd_ne e rfl), fun e => h.h7 (upd_ne e rfl), fun e => h.h8 (upd_ne e rfl), fun e => h.h9 (upd_ne e rfl), fun e => h.h10 (upd_ne e rfl), fun e => h.h11 (upd_ne e rfl), fun e => h.h12 (upd_ne e rfl), fun e => h.h13 (upd_ne e rfl), fun _ => hv, fun e => h.h15 (upd_ne e rfl), fun e => h.h16 (upd_ne e rfl), fun e => h.h17 (upd_ne e rfl), fun e => h.h18 (upd_ne e rfl), fun e => h.h19 (upd_ne e rfl), h.b⟩
theorem JC.p15 {w : World} {s : Int} {Af Ax : Option Addr} {nf cf nx cx bx bf : Nat} {sh : Bool} {bs : List Bool} {wx : World} {L : Nat → Bool} {x41 x42 x43 x44 x45 x46 x47 x48 x49 x50 x51 x52 x53 x54 x55 x56 x57 x58 x59 x2 : Value} (h : JC w s Af Ax nf cf nx cx bx bf sh bs L x41 x42 x43 x44 x45 x46 x47 x48 x49 x50 x51 x52 x53 x54 x55 x56 x57 x58 x59 x2 wx) (hL : L 15 = false) {v : Value} (hv : v = .pointer (some ⟨bf, 2, none⟩))  : JC w s Af Ax nf cf nx cx bx bf sh bs (upd L 15) x41 x42 x43 x44 x45 x46 x47 x48 x49 x50 x51 x52 x53 x54 x55 (v) x57 x58 x59 x2 wx :=
  ⟨fun e => h.h0 (upd_ne e rfl), fun e => h.h1 (upd_ne e rfl), fun e => h.h2 (upd_ne e rfl), fun e => h.h3 (upd_ne e rfl), fun e => h.h4 (upd_ne e rfl), fun e => h.h5 (upd_ne e rfl), fun e => h.h6 (upd_ne e rfl), fun e => h.h7 (upd_ne e rfl), fun e => h.h8 (upd_ne e rfl), fun e => h.h9 (upd_ne e rfl), fun e => h.h10 (upd_ne e rfl), fun e => h.h11 (upd_ne e rfl), fun e => h.h12 (upd_ne e rfl), fun e => h.h13 (upd_ne e rfl), fun e => h.h14 (upd_ne e rfl), fun _ => hv, fun e => h.h16 (upd_ne e rfl), fun e => h.h17 (upd_ne e rfl), fun e => h.h18 (upd_ne e rfl), fun e => h.h19 (upd_ne e rfl), h.b⟩
theorem JC.p16 {w : World} {s : Int} {Af Ax : Option Addr} {nf cf nx cx bx bf : Nat} {sh : Bool} {bs : List Bool} {wx : World} {L : Nat → Bool} {x41 x42 x43 x44 x45 x46 x47 x48 x49 x50 x51 x52 x53 x54 x55 x56 x57 x58 x59 x2 : Value} (h : JC w s Af Ax nf cf nx cx bx bf sh bs L x41 x42 x43 x44 x45 x46 x47 x48 x49 x50 x51 x52 x53 x54 x55 x56 x57 x58 x59 x2 wx) (hL : L 16 = false) {v : Value} (hv : v = .bool sh)  : JC w s Af Ax nf cf nx cx bx bf sh bs (upd L 16) x41 x42 x43 x44 x45 x46 x47 x48 x49 x50 x51 x52 x53 x54 x55 x56 (v) x58 x59 x2 wx :=
  ⟨fun e => h.h0 (upd_ne e rfl), fun e => h.h1 (upd_ne e rfl), fun e => h.h2 (upd_ne e rfl), fun e => h.h3 (upd_ne e rfl), fun e => h.h4 (upd_ne e rfl), fun e => h.h5 (upd_ne e rfl), fun e => h.h6 (upd_ne e rfl), fun e => h.h7 (upd_ne e rfl), fun e => h.h8 (upd_ne e rfl), fun e => h.h9 (upd_ne e rfl), fun e => h.h10 (upd_ne e rfl), fun e => h.h11 (upd_ne e rfl), fun e => h.h12 (upd_ne e rfl), fun e => h.h13 (upd_ne e rfl), fun e => h.h14 (upd_ne e rfl), fun e => h.h15 (upd_ne e rfl), fun _ => hv, fun e => h.h17 (upd_ne e rfl), fun e => h.h18 (upd_ne e rfl), fun e => h.h19 (upd_ne e rfl), h.b⟩
theorem JC.p17 {w : World} {s : Int} {Af Ax : Option Addr} {nf cf nx cx bx bf : Nat} {sh : Bool} {bs : List Bool} {wx : World} {L : Nat → Bool} {x41 x42 x43 x44 x45 x46 x47 x48 x49 x50 x51 x52 x53 x54 x55 x56 x57 x58 x59 x2 : Value} (h : JC w s Af Ax nf cf nx cx bx bf sh bs L x41 x42 x43 x44 x45 x46 x47 x48 x49 x50 x51 x52 x53 x54 x55 x56 x57 x58 x59 x2 wx) (hL : L 17 = false) {v : Value} (hv : v = .bool true)  : JC w s Af Ax nf cf nx cx bx bf sh bs (upd L 17) x41 x42 x43 x44 x45 x46 x47 x48 x49 x50 x51 x52 x53 x54 x55 x56 x57 (v) x59 x2 wx :=
  ⟨fun e => h.h0 (upd_ne e rfl), fun e => h.h1 (upd_ne e rfl), fun e => h.h2 (upd_ne e rfl), fun e => h.h3 (upd_ne e rfl), fun e => h.h4 (upd_ne e rfl), fun e => h.h5 (upd_ne e rfl), fun e => h.h6 (upd_ne e rfl), fun e => h.h7 (upd_ne e rfl), fun e => h.h8 (upd_ne e rfl), fun e => h.h9 (upd_ne e rfl), fun e => h.h10 (upd_ne e rfl), fun e => h.h11 (upd_ne e rfl), fun e => h.h12 (upd_ne e rfl), fun e => h.h13 (upd_ne e rfl), fun e => h.h14 (upd_ne e rfl), fun e => h.h15 (upd_ne e rfl), fun e => h.h16 (upd_ne e rfl), fun _ => hv, fun e => h.h18 (upd_ne e rfl), fun e => h.h19 (upd_ne e rfl), h.b⟩
theorem JC.p18 {w : World} {s : Int} {Af Ax : Option Addr} {nf cf nx cx bx bf : Nat} {sh : Bool} {bs : List Bool} {wx : World} {L : Nat → Bool} {x41 x42 x43 x44 x45 x46 x47 x48 x49 x50 x51 x52 x53 x54 x55 x56 x57 x58 x59 x2 : Value} (h : JC w s Af Ax nf cf nx cx bx bf sh bs L x41 x42 x43 x44 x45 x46 x47 x48 x49 x50 x51 x52 x53 x54 x55 x56 x57 x58 x59 x2 wx) (hL : L 18 = false) {v : Value} (hv : v = .bool true)  : JC w s Af Ax nf cf nx cx bx bf sh bs (upd L 18) x41 x42 x43 x44 x45 x46 x47 x48 x49 x50 x51 x52 x53 x54 x55 x56 x57 x58 (v) x2 wx :=
  ⟨fun e => h.h0 (upd_ne e rfl), fun e => h.h1 (upd_ne e rfl), fun e => h.h2 (upd_ne e rfl), fun e => h.h3 (upd_ne e rfl), fun e => h.h4 (upd_ne e rfl), fun e => h.h5 (upd_ne e rfl), fun e => h.h6 (upd_ne e rfl), fun e => h.h7 (upd_ne e rfl), fun e => h.h8 (upd_ne e rfl), fun e => h.h9 (upd_ne e rfl), fun e => h.h10 (upd_ne e rfl), fun e => h.h11 (upd_ne e rfl), fun e => h.h12 (upd_ne e rfl), fun e => h.h13 (upd_ne e rfl), fun e => h.h14 (upd_ne e rfl), fun e => h.h15 (upd_ne e rfl), fun e => h.h16 (upd_ne e rfl), fun e => h.h17 (upd_ne e rfl), fun _ => hv, fun e => h.h19 (upd_ne e rfl), h.b⟩
theorem JC.p19 {w : World} {s : Int} {Af Ax : Option Addr} {nf cf nx cx bx bf : Nat} {sh : Bool} {bs : List Bool} {wx : World} {L : Nat → Bool} {x41 x42 x43 x44 x45 x46 x47 x48 x49 x50 x51 x52 x53 x54 x55 x56 x57 x58 x59 x2 : Value} (h : JC w s Af Ax nf cf nx cx bx bf sh bs L x41 x42 x43 x44 x45 x46 x47 x48 x49 x50 x51 x52 x53 x54 x55 x56 x57 x58 x59 x2 wx) (hL : L 19 = false) {v : Value} (hv : v = .bool true)  : JC w s Af Ax nf cf nx cx bx bf sh bs (upd L 19) x41 x42 x43 x44 x45 x46 x47 x48 x49 x50 x51 x52 x53 x54 x55 x56 x57 x58 x59 (v) wx :=
  ⟨fun e => h.h0 (upd_ne e rfl), fun e => h.h1 (upd_ne e rfl), fun e => h.h2 (upd_ne e rfl), fun e => h.h3 (upd_ne e rfl), fun e => h.h4 (upd_ne e rfl), fun e => h.h5 (upd_ne e rfl), fun e => h.h6 (upd_ne e rfl), fun e => h.h7 (upd_ne e rfl), fun e => h.h8 (upd_ne e rfl), fun e => h.h9 (upd_ne e rfl), fun e => h.h10 (upd_ne e rfl), fun e => h.h11 (upd_ne e rfl), fun e => h.h12 (upd_ne e rfl), fun e => h.h13 (upd_ne e rfl), fun e => h.h14 (upd_ne e rfl), fun e => h.h15 (upd_ne e rfl), fun e => h.h16 (upd_ne e rfl), fun e => h.h17 (upd_ne e rfl), fun e => h.h18 (upd_ne e rfl), fun _ => hv, h.b⟩
theorem JC.c1 {w : World} {s : Int} {Af Ax : Option Addr} {nf cf nx cx bx bf : Nat} {sh : Bool} {bs : List Bool} {wx : World} {L : Nat → Bool} {x41 x42 x43 x44 x45 x46 x47 x48 x49 x50 x51 x52 x53 x54 x55 x56 x57 x58 x59 x2 : Value} (h : JC w s Af Ax nf cf nx cx bx bf sh bs L x41 x42 x43 x44 x45 x46 x47 x48 x49 x50 x51 x52 x53 x54 x55 x56 x57 x58 x59 x2 wx) (hL : L 1 = false) {A2 : Option Addr} {n2 c2 : Nat} {wy : World} (hr : BR wy A2 n2 bs) (hb : Below wx.heap.size wx wy) : JC w s Af Ax nf cf nx cx bx bf sh bs (upd L 1) x41 (.agg #[.int .i64 s, .slice A2 n2 c2, .bool sh]) x43 x44 x45 x46 x47 x48 x49 x50 x51 x52 x53 x54 x55 x56 x57 x58 x59 x2 wy :=
  ⟨fun e => h.h0 (upd_ne e rfl), fun _ => ⟨A2, n2, c2, rfl, hr⟩, fun e => h.h2 (upd_ne e rfl), fun e => h.h3 (upd_ne e rfl), fun e => h.h4 (upd_ne e rfl), fun e => h.h5 (upd_ne e rfl), fun e => let ⟨A2, n2, c2, h1, h2⟩ := h.h6 (upd_ne e rfl); ⟨A2, n2, c2, h1, h2.below hb⟩, fun e => let ⟨A2, n2, c2, h1, h2⟩ := h.h7 (upd_ne e rfl); ⟨A2, n2, c2, h1, h2.below hb⟩, fun e => h.h8 (upd_ne e rfl), fun e => let ⟨A2, n2, c2, h1, h2⟩ := h.h9 (upd_ne e rfl); ⟨A2, n2, c2, h1, h2.below hb⟩, fun e => h.h10 (upd_ne e rfl), fun e => h.h11 (upd_ne e rfl), fun e => h.h12 (upd_ne e rfl), fun e => h.h13 (upd_ne e rfl), fun e => h.h14 (upd_ne e rfl), fun e => h.h15 (upd_ne e rfl), fun e => h.h16 (upd_ne e rfl), fun e => h.h17 (upd_ne e rfl), fun e => h.h18 (upd_ne e rfl), fun e => h.h19 (upd_ne e rfl), bseq h.b hb⟩
theorem JC.c6 {w : World} {s : Int} {Af Ax : Option Addr} {nf cf nx cx bx bf : Nat} {sh : Bool} {bs : List Bool} {wx : World} {L : Nat → Bool} {x41 x42 x43 x44 x45 x46 x47 x48 x49 x50 x51 x52 x53 x54 x55 x56 x57 x58 x59 x2 : Value} (h : JC w s Af Ax nf cf nx cx bx bf sh bs L x41 x42 x43 x44 x45 x46 x47 x48 x49 x50 x51 x52 x53 x54 x55 x56 x57 x58 x59 x2 wx) (hL : L 6 = false) {A2 : Option Addr} {n2 c2 : Nat} {wy : World} (hr : BR wy A2 n2 (turnL s bs)) (hb : Below wx.heap.size wx wy) : JC w s Af Ax nf cf nx cx bx bf sh bs (upd L 6) x41 x42 x43 x44 x45 x46 (.agg #[.int .i64 (outS s bs), .slice A2 n2 c2, .bool (outK s sh bs)]) x48 x49 x50 x51 x52 x53 x54 x55 x56 x57 x58 x59 x2 wy :=
  ⟨fun e => h.h0 (upd_ne e rfl), fun e => let ⟨A2, n2, c2, h1, h2⟩ := h.h1 (upd_ne e rfl); ⟨A2, n2, c2, h1, h2.below hb⟩, fun e => h.h2 (upd_ne e rfl), fun e => h.h3 (upd_ne e rfl), fun e => h.h4 (upd_ne e rfl), fun e => h.h5 (upd_ne e rfl), fun _ => ⟨A2, n2, c2, rfl, hr⟩, fun e => let ⟨A2, n2, c2, h1, h2⟩ := h.h7 (upd_ne e rfl); ⟨A2, n2, c2, h1, h2.below hb⟩, fun e => h.h8 (upd_ne e rfl), fun e => let ⟨A2, n2, c2, h1, h2⟩ := h.h9 (upd_ne e rfl); ⟨A2, n2, c2, h1, h2.below hb⟩, fun e => h.h10 (upd_ne e rfl), fun e => h.h11 (upd_ne e rfl), fun e => h.h12 (upd_ne e rfl), fun e => h.h13 (upd_ne e rfl), fun e => h.h14 (upd_ne e rfl), fun e => h.h15 (upd_ne e rfl), fun e => h.h16 (upd_ne e rfl), fun e => h.h17 (upd_ne e rfl), fun e => h.h18 (upd_ne e rfl), fun e => h.h19 (upd_ne e rfl), bseq h.b hb⟩
theorem JC.c7 {w : World} {s : Int} {Af Ax : Option Addr} {nf cf nx cx bx bf : Nat} {sh : Bool} {bs : List Bool} {wx : World} {L : Nat → Bool} {x41 x42 x43 x44 x45 x46 x47 x48 x49 x50 x51 x52 x53 x54 x55 x56 x57 x58 x59 x2 : Value} (h : JC w s Af Ax nf cf nx cx bx bf sh bs L x41 x42 x43 x44 x45 x46 x47 x48 x49 x50 x51 x52 x53 x54 x55 x56 x57 x58 x59 x2 wx) (hL : L 7 = false) {A2 : Option Addr} {n2 c2 : Nat} {wy : World} (hr : BR wy A2 n2 (turnL s (stepL s sh bs))) (hb : Below wx.heap.size wx wy) : JC w s Af Ax nf cf nx cx bx bf sh bs (upd L 7) x41 x42 x43 x44 x45 x46 x47 (.agg #[.int .i64 (outS s bs), .slice A2 n2 c2, .bool (outN s sh bs)]) x49 x50 x51 x52 x53 x54 x55 x56 x57 x58 x59 x2 wy :=
  ⟨fun e => h.h0 (upd_ne e rfl), fun e => let ⟨A2, n2, c2, h1, h2⟩ := h.h1 (upd_ne e rfl); ⟨A2, n2, c2, h1, h2.below hb⟩, fun e => h.h2 (upd_ne e rfl), fun e => h.h3 (upd_ne e rfl), fun e => h.h4 (upd_ne e rfl), fun e => h.h5 (upd_ne e rfl), fun e => let ⟨A2, n2, c2, h1, h2⟩ := h.h6 (upd_ne e rfl); ⟨A2, n2, c2, h1, h2.below hb⟩, fun _ => ⟨A2, n2, c2, rfl, hr⟩, fun e => h.h8 (upd_ne e rfl), fun e => let ⟨A2, n2, c2, h1, h2⟩ := h.h9 (upd_ne e rfl); ⟨A2, n2, c2, h1, h2.below hb⟩, fun e => h.h10 (upd_ne e rfl), fun e => h.h11 (upd_ne e rfl), fun e => h.h12 (upd_ne e rfl), fun e => h.h13 (upd_ne e rfl), fun e => h.h14 (upd_ne e rfl), fun e => h.h15 (upd_ne e rfl), fun e => h.h16 (upd_ne e rfl), fun e => h.h17 (upd_ne e rfl), fun e => h.h18 (upd_ne e rfl), fun e => h.h19 (upd_ne e rfl), bseq h.b hb⟩
theorem JC.c9 {w : World} {s : Int} {Af Ax : Option Addr} {nf cf nx cx bx bf : Nat} {sh : Bool} {bs : List Bool} {wx : World} {L : Nat → Bool} {x41 x42 x43 x44 x45 x46 x47 x48 x49 x50 x51 x52 x53 x54 x55 x56 x57 x58 x59 x2 : Value} (h : JC w s Af Ax nf cf nx cx bx bf sh bs L x41 x42 x43 x44 x45 x46 x47 x48 x49 x50 x51 x52 x53 x54 x55 x56 x57 x58 x59 x2 wx) (hL : L 9 = false) {A2 : Option Addr} {n2 c2 : Nat} {wy : World} (hr : BR wy A2 n2 (turnL s (stepL s sh bs))) (hb : Below wx.heap.size wx wy) : JC w s Af Ax nf cf nx cx bx bf sh bs (upd L 9) x41 x42 x43 x44 x45 x46 x47 x48 x49 (.agg #[.int .i64 (outS s bs), .slice A2 n2 c2, .bool (outN s sh bs)]) x51 x52 x53 x54 x55 x56 x57 x58 x59 x2 wy :=
  ⟨fun e => h.h0 (upd_ne e rfl), fun e => let ⟨A2, n2, c2, h1, h2⟩ := h.h1 (upd_ne e rfl); ⟨A2, n2, c2, h1, h2.below hb⟩, fun e => h.h2 (upd_ne e rfl), fun e => h.h3 (upd_ne e rfl), fun e => h.h4 (upd_ne e rfl), fun e => h.h5 (upd_ne e rfl), fun e => let ⟨A2, n2, c2, h1, h2⟩ := h.h6 (upd_ne e rfl); ⟨A2, n2, c2, h1, h2.below hb⟩, fun e => let ⟨A2, n2, c2, h1, h2⟩ := h.h7 (upd_ne e rfl); ⟨A2, n2, c2, h1, h2.below hb⟩, fun e => h.h8 (upd_ne e rfl), fun _ => ⟨A2, n2, c2, rfl, hr⟩, fun e => h.h10 (upd_ne e rfl), fun e => h.h11 (upd_ne e rfl), fun e => h.h12 (upd_ne e rfl), fun e => h.h13 (upd_ne e rfl), fun e => h.h14 (upd_ne e rfl), fun e => h.h15 (upd_ne e rfl), fun e => h.h16 (upd_ne e rfl), fun e => h.h17 (upd_ne e rfl), fun e => h.h18 (upd_ne e rfl), fun e => h.h19 (upd_ne e rfl), bseq h.b hb⟩
theorem JC.e3 {w : World} {s : Int} {Af Ax : Option Addr} {nf cf nx cx bx bf : Nat} {sh : Bool} {bs : List Bool} {wx : World} {L : Nat → Bool} {x41 x42 x43 x44 x45 x46 x47 x48 x49 x50 x51 x52 x53 x54 x55 x56 x57 x58 x59 x2 : Value} (h : JC w s Af Ax nf cf nx cx bx bf sh bs L x41 x42 x43 x44 x45 x46 x47 x48 x49 x50 x51 x52 x53 x54 x55 x56 x57 x58 x59 x2 wx) (hL : L 3 = false) {wy : World} (hb : Below wx.heap.size wx wy) : JC w s Af Ax nf cf nx cx bx bf sh bs (upd L 3) x41 x42 x43 (.bool true) x45 x46 x47 x48 x49 x50 x51 x52 x53 x54 x55 x56 x57 x58 x59 x2 wy :=
  ⟨fun e => h.h0 (upd_ne e rfl), fun e => let ⟨A2, n2, c2, h1, h2⟩ := h.h1 (upd_ne e rfl); ⟨A2, n2, c2, h1, h2.below hb⟩, fun e => h.h2 (upd_ne e rfl), fun _ => rfl, fun e => h.h4 (upd_ne e rfl), fun e => h.h5 (upd_ne e rfl), fun e => let ⟨A2, n2, c2, h1, h2⟩ := h.h6 (upd_ne e rfl); ⟨A2, n2, c2, h1, h2.below hb⟩, fun e => let ⟨A2, n2, c2, h1, h2⟩ := h.h7 (upd_ne e rfl); ⟨A2, n2, c2, h1, h2.below hb⟩, fun e => h.h8 (upd_ne e rfl), fun e => let ⟨A2, n2, c2, h1, h2⟩ := h.h9 (upd_ne e rfl); ⟨A2, n2, c2, h1, h2.below hb⟩, fun e => h.h10 (upd_ne e rfl), fun e => h.h11 (upd_ne e rfl), fun e => h.h12 (upd_ne e rfl), fun e => h.h13 (upd_ne e rfl), fun e => h.h14 (upd_ne e rfl), fun e => h.h15 (upd_ne e rfl), fun e => h.h16 (upd_ne e rfl), fun e => h.h17 (upd_ne e rfl), fun e => h.h18 (upd_ne e rfl), fun e => h.h19 (upd_ne e rfl), bseq h.b hb⟩
theorem JC.e10 {w : World} {s : Int} {Af Ax : Option Addr} {nf cf nx cx bx bf : Nat} {sh : Bool} {bs : List Bool} {wx : World} {L : Nat → Bool} {x41 x42 x43 x44 x45 x46 x47 x48 x49 x50 x51 x52 x53 x54 x55 x56 x57 x58 x59 x2 : Value} (h : JC w s Af Ax nf cf nx cx bx bf sh bs L x41 x42 x43 x44 x45 x46 x47 x48 x49 x50 x51 x52 x53 x54 x55 x56 x57 x58 x59 x2 wx) (hL : L 10 = false) {wy : World} (hb : Below wx.heap.size wx wy) : JC w s Af Ax nf cf nx cx bx bf sh bs (upd L 10) x41 x42 x43 x44 x45 x46 x47 x48 x49 x50 (.bool true) x52 x53 x54 x55 x56 x57 x58 x59 x2 wy :=
  ⟨fun e => h.h0 (upd_ne e rfl), fun e => let ⟨A2, n2, c2, h1, h2⟩ := h.h1 (upd_ne e rfl); ⟨A2, n2, c2, h1, h2.below hb⟩, fun e => h.h2 (upd_ne e rfl), fun e => h.h3 (upd_ne e rfl), fun e => h.h4 (upd_ne e rfl), fun e => h.h5 (upd_ne e rfl), fun e => let ⟨A2, n2, c2, h1, h2⟩ := h.h6 (upd_ne e rfl); ⟨A2, n2, c2, h1, h2.below hb⟩, fun e => let ⟨A2, n2, c2, h1, h2⟩ := h.h7 (upd_ne e rfl); ⟨A2, n2, c2, h1, h2.below hb⟩, fun e => h.h8 (upd_ne e rfl), fun e => let ⟨A2, n2, c2, h1, h2⟩ := h.h9 (upd_ne e rfl); ⟨A2, n2, c2, h1, h2.below hb⟩, fun _ => rfl, fun e => h.h11 (upd_ne e rfl), fun e => h.h12 (upd_ne e rfl), fun e => h.h13 (upd_ne e rfl), fun e => h.h14 (upd_ne e rfl), fun e => h.h15 (upd_ne e rfl), fun e => h.h16 (upd_ne e rfl), fun e => h.h17 (upd_ne e rfl), fun e => h.h18 (upd_ne e rfl), fun e => h.h19 (upd_ne e rfl), bseq h.b hb⟩
set_option maxRecDepth 100000 in
set_option maxHeartbeats 8000000 in
theorem walk_FnFieldStep (A : Option Addr) (n c : Nat) (zs : List Int) (w : World) (h : IRk .u8 w A n zs) (hz : ∀ z ∈ zs, (Lit.int .u8 z).wf = true) (hc : n ≤ c) :
    Calls Try.prog 6 #[.slice A n c] w fun e w' => e = .returned (.bool true) ∧ Below w.heap.size w w' := by
  have hmax := h.max
  have H := hide h
  have HZ := hide hz
  clear h hz
  by_cases hbig : 1048576 < n
  · go_enter Try.func6, Try.ntmps6
    go_wp2_with fail
    go_ret
    exact ⟨rfl, Below.refl _ _⟩
  have hl : n ≤ 1048576 := by omega
  go_enter Try.func6, Try.ntmps6
  have B0 := hide (Below.refl w.heap.size w)
  go_wp2_with fail
  refine (drawFieldStep_any A n c zs w H.out HZ.out hc).mono ?_
  rintro e w1 ⟨s, Af, nf, cf, sh, bs, rfl, hwf, hn100, hbr, hb⟩
  have hs1 := hb.size
  have B1 := hide (bseq B0.out hb)
  have Rf_1 := hide hbr
  have HW := Lib.hid hwf
  clear hb hbr hwf
  go_wp2_with fail
  refine calls_named fun W2 hW2 => ?_
  have hbW2 : Below w1.heap.size w1 W2 := by rw [← hW2]; exact (Below.refl _ _).alloc (Nat.le_refl _) _
  have hs2 := hbW2.size
  have B2 := hide (bseq B1.out hbW2)
  have Rf_2 := hide (Rf_1.out.below hbW2)
  have Xf_2 := hide (show BoxF W2 25 w1.heap.size (.int .i64 s) (.slice Af nf cf) (.bool sh) from by rw [← hW2]; exact heap_alloc_new _ _)
  clear hW2 hbW2
  cases hv : fldOk s bs
  · have HV := Lib.hid hv
    have hnb : (outN s sh bs != outN s sh bs) = false := by simp
    have HN := Lib.hid (laws_no (sh := sh) hv)
    have he0 : (outS s bs == 0) = true := by rw [HN.out.1]; rfl
    clear hv
    have hl1 := (stepL_len s sh bs).1
    have hl2 := (stepL_len s sh bs).2
    refine (steps_ok_any s Af nf cf sh bs W2 Rf_2.out (by omega) HW.out).mono ?_
    rintro e w3 ⟨Ax, nx, cx, rfl, ho, hb⟩
    have hs3 := hb.size
    have B3 := hide (bseq B2.out hb)
    have Xf_3 := hide (Xf_2.out.below hb)
    have Rf_3 := hide (Rf_2.out.below hb)
    have Ox_3 := hide ho
    have Lx := hide ho.lt
    have Nx := Lib.hid ho.br.len
    clear hb ho
    have hnx : nx ≤ 64 := by have := Nx.out; omega
    obtain ⟨xf0, xf1, xf2⟩ := Xf_3.out.cells
    have xlf := Xf_3.out.lt
    go_wp2_with fail
    clear xf0 xf1 xf2 xlf
    refine calls_named fun W4 hW4 => ?_
    have hbW4 : Below w3.heap.size w3 W4 := by rw [← hW4]; exact (Below.refl _ _).alloc (Nat.le_refl _) _
    have hs4 := hbW4.size
    have B4 := hide (bseq B3.out hbW4)
    have Xf_4 := hide (Xf_3.out.below hbW4)
    have Ox_4 := hide (Ox_3.out.below hbW4)
    have Rf_4 := hide (Rf_3.out.below hbW4)
    have Xx_4 := hide (show BoxF W4 25 w3.heap.size (.int .i64 (outS s bs)) (.slice Ax nx cx) (.bool (outN s sh bs)) from by rw [← hW4]; exact heap_alloc_new _ _)
    clear hW4 hbW4
    refine (sSteps_ok_any s Af nf cf sh bs W4 Rf_4.out (by omega) HW.out).mono ?_
    rintro e w5 ⟨Ay, ny, cy, rfl, ho, hb⟩
    have hs5 := hb.size
    have B5 := hide (bseq B4.out hb)
    have Xf_5 := hide (Xf_4.out.below hb)
    have Xx_5 := hide (Xx_4.out.below hb)
    have Ox_5 := hide (Ox_4.out.below hb)
    have Rf_5 := hide (Rf_4.out.below hb)
    have Oy_5 := hide ho
    have Ly := hide ho.lt
    have Ny := Lib.hid ho.br.len
    clear hb ho
    obtain ⟨xx0, xx1, xx2⟩ := Xx_5.out.cells
    have xlx := Xx_5.out.lt
    go_wp2_with fail
    clear xx0 xx1 xx2 xlx
    refine calls_named fun W6 hW6 => ?_
    have hbW6 : Below w5.heap.size w5 W6 := by rw [← hW6]; exact (Below.refl _ _).alloc (Nat.le_refl _) _
    have hs6 := hbW6.size
    have B6 := hide (bseq B5.out hbW6)
    have Xf_6 := hide (Xf_5.out.below hbW6)
    have Xx_6 := hide (Xx_5.out.below hbW6)
    have Ox_6 := hide (Ox_5.out.below hbW6)
    have Oy_6 := hide (Oy_5.out.below hbW6)
    have Rf_6 := hide (Rf_5.out.below hbW6)
    have Xy_6 := hide (show BoxF W6 25 w5.heap.size (.int .i64 (outS s bs)) (.slice Ay ny cy) (.bool (outN s sh bs)) from by rw [← hW6]; exact heap_alloc_new _ _)
    clear hW6 hbW6
    refine (sameBalls_same (outS s bs) Ax Ay nx cx ny cy (outN s sh bs) (outN s sh bs) (stepL s sh bs) W6 Ox_6.out.br Oy_6.out.br).mono ?_
    rintro e w7 ⟨rfl, hb⟩
    have hs7 := hb.size
    have B7 := hide (bseq B6.out hb)
    have Xf_7 := hide (Xf_6.out.below hb)
    have Xx_7 := hide (Xx_6.out.below hb)
    have Xy_7 := hide (Xy_6.out.below hb)
    have Ox_7 := hide (Ox_6.out.below hb)
    have Oy_7 := hide (Oy_6.out.below hb)
    have Rf_7 := hide (Rf_6.out.below hb)
    clear hb
    obtain ⟨xx0, xx1, xx2⟩ := Xx_7.out.cells
    have xlx := Xx_7.out.lt
    obtain ⟨xy0, xy1, xy2⟩ := Xy_7.out.cells
    have xly := Xy_7.out.lt
    obtain ⟨xf0, xf1, xf2⟩ := Xf_7.out.cells
    have xlf := Xf_7.out.lt
    go_wp2_with fail
    clear xx0 xx1 xx2 xlx xy0 xy1 xy2 xly xf0 xf1 xf2 xlf
    refine (sFieldValid_any s Af nf cf sh bs w7 Rf_7.out (by omega) HW.out).mono ?_
    rintro e w8 ⟨rfl, hb⟩
    rw [HV.out]
    have hs8 := hb.size
    have B8 := hide (bseq B7.out hb)
    have Xf_8 := hide (Xf_7.out.below hb)
    have Xx_8 := hide (Xx_7.out.below hb)
    have Xy_8 := hide (Xy_7.out.below hb)
    have Ox_8 := hide (Ox_7.out.below hb)
    have Oy_8 := hide (Oy_7.out.below hb)
    have Rf_8 := hide (Rf_7.out.below hb)
    clear hb
    have he2 : ((nx : Int) == 0) = true := nil_len Nx.out HN.out.2.2.1
    obtain ⟨xx0, xx1, xx2⟩ := Xx_8.out.cells
    have xlx := Xx_8.out.lt
    go_wp2_with fail
    clear xx0 xx1 xx2 xlx
    refine (alive_any _).mono ?_
    rintro e w' ⟨rfl, rfl⟩
    go_wp2_with fail
    go_ret
    exact ⟨rfl, B8.out⟩
  · have HV := Lib.hid hv
    have hnb : (outN s sh bs != outN s sh bs) = false := by simp
    clear hv
    have hl1 := (stepL_len s sh bs).1
    have hl2 := (stepL_len s sh bs).2
    refine (steps_ok_any s Af nf cf sh bs W2 Rf_2.out (by omega) HW.out).mono ?_
    rintro e w3 ⟨Ax, nx, cx, rfl, ho, hb⟩
    have hs3 := hb.size
    have B3 := hide (bseq B2.out hb)
    have Xf_3 := hide (Xf_2.out.below hb)
    have Rf_3 := hide (Rf_2.out.below hb)
    have Ox_3 := hide ho
    have Lx := hide ho.lt
    have Nx := Lib.hid ho.br.len
    clear hb ho
    have hnx : nx ≤ 64 := by have := Nx.out; omega
    obtain ⟨xf0, xf1, xf2⟩ := Xf_3.out.cells
    have xlf := Xf_3.out.lt
    go_wp2_with fail
    clear xf0 xf1 xf2 xlf
    refine calls_named fun W4 hW4 => ?_
    have hbW4 : Below w3.heap.size w3 W4 := by rw [← hW4]; exact (Below.refl _ _).alloc (Nat.le_refl _) _
    have hs4 := hbW4.size
    have B4 := hide (bseq B3.out hbW4)
    have Xf_4 := hide (Xf_3.out.below hbW4)
    have Ox_4 := hide (Ox_3.out.below hbW4)
    have Rf_4 := hide (Rf_3.out.below hbW4)
    have Xx_4 := hide (show BoxF W4 25 w3.heap.size (.int .i64 (outS s bs)) (.slice Ax nx cx) (.bool (outN s sh bs)) from by rw [← hW4]; exact heap_alloc_new _ _)
    clear hW4 hbW4
    refine (sSteps_ok_any s Af nf cf sh bs W4 Rf_4.out (by omega) HW.out).mono ?_
    rintro e w5 ⟨Ay, ny, cy, rfl, ho, hb⟩
    have hs5 := hb.size
    have B5 := hide (bseq B4.out hb)
    have Xf_5 := hide (Xf_4.out.below hb)
    have Xx_5 := hide (Xx_4.out.below hb)
    have Ox_5 := hide (Ox_4.out.below hb)
    have Rf_5 := hide (Rf_4.out.below hb)
    have Oy_5 := hide ho
    have Ly := hide ho.lt
    have Ny := Lib.hid ho.br.len
    clear hb ho
    obtain ⟨xx0, xx1, xx2⟩ := Xx_5.out.cells
    have xlx := Xx_5.out.lt
    go_wp2_with fail
    clear xx0 xx1 xx2 xlx
    refine calls_named fun W6 hW6 => ?_
    have hbW6 : Below w5.heap.size w5 W6 := by rw [← hW6]; exact (Below.refl _ _).alloc (Nat.le_refl _) _
    have hs6 := hbW6.size
    have B6 := hide (bseq B5.out hbW6)
    have Xf_6 := hide (Xf_5.out.below hbW6)
    have Xx_6 := hide (Xx_5.out.below hbW6)
    have Ox_6 := hide (Ox_5.out.below hbW6)
    have Oy_6 := hide (Oy_5.out.below hbW6)
    have Rf_6 := hide (Rf_5.out.below hbW6)
    have Xy_6 := hide (show BoxF W6 25 w5.heap.size (.int .i64 (outS s bs)) (.slice Ay ny cy) (.bool (outN s sh bs)) from by rw [← hW6]; exact heap_alloc_new _ _)
    clear hW6 hbW6
    refine (sameBalls_same (outS s bs) Ax Ay nx cx ny cy (outN s sh bs) (outN s sh bs) (stepL s sh bs) W6 Ox_6.out.br Oy_6.out.br).mono ?_
    rintro e w7 ⟨rfl, hb⟩
    have hs7 := hb.size
    have B7 := hide (bseq B6.out hb)
    have Xf_7 := hide (Xf_6.out.below hb)
    have Xx_7 := hide (Xx_6.out.below hb)
    have Xy_7 := hide (Xy_6.out.below hb)
    have Ox_7 := hide (Ox_6.out.below hb)
    have Oy_7 := hide (Oy_6.out.below hb)
    have Rf_7 := hide (Rf_6.out.below hb)
    clear hb
    obtain ⟨xx0, xx1, xx2⟩ := Xx_7.out.cells
    have xlx := Xx_7.out.lt
    obtain ⟨xy0, xy1, xy2⟩ := Xy_7.out.cells
    have xly := Xy_7.out.lt
    obtain ⟨xf0, xf1, xf2⟩ := Xf_7.out.cells
    have xlf := Xf_7.out.lt
    go_wp2_with fail
    clear xx0 xx1 xx2 xlx xy0 xy1 xy2 xly xf0 xf1 xf2 xlf
    refine (sFieldValid_any s Af nf cf sh bs w7 Rf_7.out (by omega) HW.out).mono ?_
    rintro e w8 ⟨rfl, hb⟩
    rw [HV.out]
    have hs8 := hb.size
    have B8 := hide (bseq B7.out hb)
    have Xf_8 := hide (Xf_7.out.below hb)
    have Xx_8 := hide (Xx_7.out.below hb)
    have Xy_8 := hide (Xy_7.out.below hb)
    have Ox_8 := hide (Ox_7.out.below hb)
    have Oy_8 := hide (Oy_7.out.below hb)
    have Rf_8 := hide (Rf_7.out.below hb)
    clear hb
    go_wp2_with fail
    have HE17 := Lib.hid (show (outN s sh bs != sh) = true by rw [(laws_ok (sh := sh) HV.out).1.2.1]; cases sh <;> rfl)
    have HVT := Lib.hid (turn_ok (sh := sh) HV.out)
    refine wp_frame fun a0 ha0 => ?_
    have HA := Lib.hid ha0
    clear ha0
    refine wp_region_inv (fun L a wx => ∃ x41 x42 x43 x44 x45 x46 x47 x48 x49 x50 x51 x52 x53 x54 x55 x56 x57 x58 x59 x2, a = putL a0 [(41, x41), (42, x42), (43, x43), (44, x44), (45, x45), (46, x46), (47, x47), (48, x48), (49, x49), (50, x50), (51, x51), (52, x52), (53, x53), (54, x54), (55, x55), (56, x56), (57, x57), (58, x58), (59, x59), (2, x2)] ∧ Hid (JC w8 s Af Ax nf cf nx cx w3.heap.size w1.heap.size sh bs L x41 x42 x43 x44 x45 x46 x47 x48 x49 x50 x51 x52 x53 x54 x55 x56 x57 x58 x59 x2 wx)) (by kernel_rfl) (by kernel_rfl) ?_ ?_ ?_
    · exact ⟨_, _, _, _, _, _, _, _, _, _, _, _, _, _, _, _, _, _, _, _, putL_self a0 [41, 42, 43, 44, 45, 46, 47, 48, 49, 50, 51, 52, 53, 54, 55, 56, 57, 58, 59, 2], hide (JC.start (show Below w8.heap.size w8 w8.drew from below_drewN (Below.refl _ _) 1))⟩
    · refine ⟨?_, ?_, ?_, ?_, ?_, ?_, ?_, ?_, ?_, ?_, ?_, ?_, ?_, ?_, ?_, ?_, ?_, ?_, ?_, ?_, trivial⟩
      · intro L a wx hL0 hd
        rintro ⟨x41, x42, x43, x44, x45, x46, x47, x48, x49, x50, x51, x52, x53, x54, x55, x56, x57, x58, x59, x2, rfl, HJ⟩
        have hD := hd
        try simp [deps, Region.binds] at hD
        refine Shut.out ?_
        obtain ⟨x1, x2, x3⟩ := (Xx_8.out.below HJ.out.b).cells
        refine ⟨?_⟩
        clear hD hd
        rw [← HA.out]
        simp only [putL, List.setIfInBounds_toArray, List.set_cons_succ, List.set_cons_zero]
        go_wp2_with fail
        clear x1 x2 x3
        refine ⟨_, _, _, _, _, _, _, _, _, _, _, _, _, _, _, _, _, _, _, _, ?_, hide (HJ.out.p0 hL0 rfl)⟩
        · try rw [← HA.out]
          try simp only [putL, List.setIfInBounds_toArray, List.set_cons_succ, List.set_cons_zero]
      · intro L a wx hL0 hd
        rintro ⟨x41, x42, x43, x44, x45, x46, x47, x48, x49, x50, x51, x52, x53, x54, x55, x56, x57, x58, x59, x2, rfl, HJ⟩
        have hD := hd
        try simp [deps, Region.binds] at hD
        refine Shut.out ?_
        obtain rfl := HJ.out.h0 (by simp [hD])
        refine ⟨?_⟩
        clear hD hd
        rw [← HA.out]
        simp only [putL, List.setIfInBounds_toArray, List.set_cons_succ, List.set_cons_zero]
        go_wp2_with fail
        refine (backOfStep s Ax nx cx sh bs wx (Ox_8.out.below HJ.out.b).br (by omega) HV.out).mono ?_
        rintro e w8 ⟨A2, n2, c2, rfl, ho, hb⟩
        have HJ2 := hide (HJ.out.c1 hL0 (c2 := c2) ho.br hb)
        clear ho hb
        go_wp2_with fail
        refine ⟨_, _, _, _, _, _, _, _, _, _, _, _, _, _, _, _, _, _, _, _, ?_, hide (HJ2.out)⟩
        · try rw [← HA.out]
          try simp only [putL, List.setIfInBounds_toArray, List.set_cons_succ, List.set_cons_zero]
      · intro L a wx hL0 hd
        rintro ⟨x41, x42, x43, x44, x45, x46, x47, x48, x49, x50, x51, x52, x53, x54, x55, x56, x57, x58, x59, x2, rfl, HJ⟩
        have hD := hd
        try simp [deps, Region.binds] at hD
        refine Shut.out ?_
        obtain ⟨x1, x2, x3⟩ := (Xf_8.out.below HJ.out.b).cells
        refine ⟨?_⟩
        clear hD hd
        rw [← HA.out]
        simp only [putL, List.setIfInBounds_toArray, List.set_cons_succ, List.set_cons_zero]
        go_wp2_with fail
        clear x1 x2 x3
        refine ⟨_, _, _, _, _, _, _, _, _, _, _, _, _, _, _, _, _, _, _, _, ?_, hide (HJ.out.p2 hL0 rfl)⟩
        · try rw [← HA.out]
          try simp only [putL, List.setIfInBounds_toArray, List.set_cons_succ, List.set_cons_zero]
      · intro L a wx hL0 hd
        rintro ⟨x41, x42, x43, x44, x45, x46, x47, x48, x49, x50, x51, x52, x53, x54, x55, x56, x57, x58, x59, x2, rfl, HJ⟩
        have hD := hd
        try simp [deps, Region.binds] at hD
        refine Shut.out ?_
        obtain ⟨A2, n2, c2, rfl, hr2⟩ := HJ.out.h1 (by simp [hD])
        obtain rfl := HJ.out.h2 (by simp [hD])
        have HR := hide hr2
        clear hr2
        refine ⟨?_⟩
        clear hD hd
        rw [← HA.out]
        simp only [putL, List.setIfInBounds_toArray, List.set_cons_succ, List.set_cons_zero]
        go_wp2_with fail
        refine (sameField_same s A2 Af n2 c2 nf cf sh bs wx HR.out (Rf_8.out.below HJ.out.b) (by have := Rf_8.out.len; have := HR.out.len; omega) (by omega) HW.out HV.out).mono ?_
        rintro e w8 ⟨rfl, hb⟩
        have HJ2 := hide (HJ.out.e3 hL0 hb)
        clear hb
        go_wp2_with fail
        refine ⟨_, _, _, _, _, _, _, _, _, _, _, _, _, _, _, _, _, _, _, _, ?_, hide (HJ2.out)⟩
        · try rw [← HA.out]
          try simp only [putL, List.setIfInBounds_toArray, List.set_cons_succ, List.set_cons_zero]
      · intro L a wx hL0 hd
        rintro ⟨x41, x42, x43, x44, x45, x46, x47, x48, x49, x50, x51, x52, x53, x54, x55, x56, x57, x58, x59, x2, rfl, HJ⟩
        have hD := hd
        try simp [deps, Region.binds] at hD
        refine Shut.out ?_
        obtain rfl := HJ.out.h3 (by simp [hD])
        refine ⟨?_⟩
        clear hD hd
        rw [← HA.out]
        simp only [putL, List.setIfInBounds_toArray, List.set_cons_succ, List.set_cons_zero]
        go_wp2_with fail
        refine ⟨_, _, _, _, _, _, _, _, _, _, _, _, _, _, _, _, _, _, _, _, ?_, hide (HJ.out.p4 hL0 rfl)⟩
        · try rw [← HA.out]
          try simp only [putL, List.setIfInBounds_toArray, List.set_cons_succ, List.set_cons_zero]
      · intro L a wx hL0 hd
        rintro ⟨x41, x42, x43, x44, x45, x46, x47, x48, x49, x50, x51, x52, x53, x54, x55, x56, x57, x58, x59, x2, rfl, HJ⟩
        have hD := hd
        try simp [deps, Region.binds] at hD
        refine Shut.out ?_
        obtain ⟨x1, x2, x3⟩ := (Xf_8.out.below HJ.out.b).cells
        obtain rfl := HJ.out.h4 (by simp [hD])
        refine ⟨?_⟩
        clear hD hd
        rw [← HA.out]
        simp only [putL, List.setIfInBounds_toArray, List.set_cons_succ, List.set_cons_zero]
        go_wp2_with fail
        clear x1 x2 x3
        refine ⟨_, _, _, _, _, _, _, _, _, _, _, _, _, _, _, _, _, _, _, _, ?_, hide (HJ.out.p5 hL0 rfl)⟩
        · try rw [← HA.out]
          try simp only [putL, List.setIfInBounds_toArray, List.set_cons_succ, List.set_cons_zero]
      · intro L a wx hL0 hd
        rintro ⟨x41, x42, x43, x44, x45, x46, x47, x48, x49, x50, x51, x52, x53, x54, x55, x56, x57, x58, x59, x2, rfl, HJ⟩
        have hD := hd
        try simp [deps, Region.binds] at hD
        refine Shut.out ?_
        obtain rfl := HJ.out.h4 (by simp [hD])
        obtain rfl := HJ.out.h5 (by simp [hD])
        refine ⟨?_⟩
        clear hD hd
        rw [← HA.out]
        simp only [putL, List.setIfInBounds_toArray, List.set_cons_succ, List.set_cons_zero]
        go_wp2_with fail
        refine (turns_any s Af nf cf sh bs wx (Rf_8.out.below HJ.out.b) (by omega) HW.out).mono ?_
        rintro e w8 ⟨A2, n2, c2, rfl, ho, hb⟩
        have HJ2 := hide (HJ.out.c6 hL0 (c2 := c2) ho.br hb)
        clear ho hb
        go_wp2_with fail
        refine ⟨_, _, _, _, _, _, _, _, _, _, _, _, _, _, _, _, _, _, _, _, ?_, hide (HJ2.out)⟩
        · try rw [← HA.out]
          try simp only [putL, List.setIfInBounds_toArray, List.set_cons_succ, List.set_cons_zero]
      · intro L a wx hL0 hd
        rintro ⟨x41, x42, x43, x44, x45, x46, x47, x48, x49, x50, x51, x52, x53, x54, x55, x56, x57, x58, x59, x2, rfl, HJ⟩
        have hD := hd
        try simp [deps, Region.binds] at hD
        refine Shut.out ?_
        obtain ⟨A2, n2, c2, rfl, hr2⟩ := HJ.out.h6 (by simp [hD])
        have HR := hide hr2
        clear hr2
        obtain rfl := HJ.out.h4 (by simp [hD])
        refine ⟨?_⟩
        clear hD hd
        rw [← HA.out]
        simp only [putL, List.setIfInBounds_toArray, List.set_cons_succ, List.set_cons_zero]
        go_wp2_with fail
        refine (stepOfTurn s A2 n2 c2 sh bs wx HR.out (by have := HR.out.len; have := turnL_len s bs; omega) HV.out).mono ?_
        rintro e w8 ⟨A3, n3, c3, rfl, ho, hb⟩
        have HJ2 := hide (HJ.out.c7 hL0 (c2 := c3) ho.br hb)
        clear ho hb
        go_wp2_with fail
        refine ⟨_, _, _, _, _, _, _, _, _, _, _, _, _, _, _, _, _, _, _, _, ?_, hide (HJ2.out)⟩
        · try rw [← HA.out]
          try simp only [putL, List.setIfInBounds_toArray, List.set_cons_succ, List.set_cons_zero]
      · intro L a wx hL0 hd
        rintro ⟨x41, x42, x43, x44, x45, x46, x47, x48, x49, x50, x51, x52, x53, x54, x55, x56, x57, x58, x59, x2, rfl, HJ⟩
        have hD := hd
        try simp [deps, Region.binds] at hD
        refine Shut.out ?_
        obtain ⟨x1, x2, x3⟩ := (Xx_8.out.below HJ.out.b).cells
        obtain rfl := HJ.out.h4 (by simp [hD])
        refine ⟨?_⟩
        clear hD hd
        rw [← HA.out]
        simp only [putL, List.setIfInBounds_toArray, List.set_cons_succ, List.set_cons_zero]
        go_wp2_with fail
        clear x1 x2 x3
        refine ⟨_, _, _, _, _, _, _, _, _, _, _, _, _, _, _, _, _, _, _, _, ?_, hide (HJ.out.p8 hL0 rfl)⟩
        · try rw [← HA.out]
          try simp only [putL, List.setIfInBounds_toArray, List.set_cons_succ, List.set_cons_zero]
      · intro L a wx hL0 hd
        rintro ⟨x41, x42, x43, x44, x45, x46, x47, x48, x49, x50, x51, x52, x53, x54, x55, x56, x57, x58, x59, x2, rfl, HJ⟩
        have hD := hd
        try simp [deps, Region.binds] at hD
        refine Shut.out ?_
        obtain rfl := HJ.out.h4 (by simp [hD])
        obtain rfl := HJ.out.h8 (by simp [hD])
        refine ⟨?_⟩
        clear hD hd
        rw [← HA.out]
        simp only [putL, List.setIfInBounds_toArray, List.set_cons_succ, List.set_cons_zero]
        go_wp2_with fail
        refine (turnOfStep s Ax nx cx sh bs wx (Ox_8.out.below HJ.out.b).br (by omega) HV.out).mono ?_
        rintro e w8 ⟨A2, n2, c2, rfl, ho, hb⟩
        have HJ2 := hide (HJ.out.c9 hL0 (c2 := c2) ho.br hb)
        clear ho hb
        go_wp2_with fail
        refine ⟨_, _, _, _, _, _, _, _, _, _, _, _, _, _, _, _, _, _, _, _, ?_, hide (HJ2.out)⟩
        · try rw [← HA.out]
          try simp only [putL, List.setIfInBounds_toArray, List.set_cons_succ, List.set_cons_zero]
      · intro L a wx hL0 hd
        rintro ⟨x41, x42, x43, x44, x45, x46, x47, x48, x49, x50, x51, x52, x53, x54, x55, x56, x57, x58, x59, x2, rfl, HJ⟩
        have hD := hd
        try simp [deps, Region.binds] at hD
        refine Shut.out ?_
        obtain ⟨A2, n2, c2, rfl, hr2⟩ := HJ.out.h7 (by simp [hD])
        obtain ⟨A2b, n2b, c2b, rfl, hr2b⟩ := HJ.out.h9 (by simp [hD])
        have HR := hide hr2
        have HR2 := hide hr2b
        clear hr2 hr2b
        obtain rfl := HJ.out.h4 (by simp [hD])
        refine ⟨?_⟩
        clear hD hd
        rw [← HA.out]
        simp only [putL, List.setIfInBounds_toArray, List.set_cons_succ, List.set_cons_zero]
        go_wp2_with fail
        refine (sameField_same (outS s bs) A2 A2b n2 c2 n2b c2b (outN s sh bs) (turnL s (stepL s sh bs)) wx HR.out HR2.out (by have := HR.out.len; have := turnL_len s (stepL s sh bs); omega) (by have := HR2.out.len; have := turnL_len s (stepL s sh bs); omega) wf_outS HVT.out).mono ?_
        rintro e w8 ⟨rfl, hb⟩
        have HJ2 := hide (HJ.out.e10 hL0 hb)
        clear hb
        go_wp2_with fail
        refine ⟨_, _, _, _, _, _, _, _, _, _, _, _, _, _, _, _, _, _, _, _, ?_, hide (HJ2.out)⟩
        · try rw [← HA.out]
          try simp only [putL, List.setIfInBounds_toArray, List.set_cons_succ, List.set_cons_zero]
      · intro L a wx hL0 hd
        rintro ⟨x41, x42, x43, x44, x45, x46, x47, x48, x49, x50, x51, x52, x53, x54, x55, x56, x57, x58, x59, x2, rfl, HJ⟩
        have hD := hd
        try simp [deps, Region.binds] at hD
        refine Shut.out ?_
        obtain rfl := HJ.out.h4 (by simp [hD])
        obtain rfl := HJ.out.h10 (by simp [hD])
        refine ⟨?_⟩
        clear hD hd
        rw [← HA.out]
        simp only [putL, List.setIfInBounds_toArray, List.set_cons_succ, List.set_cons_zero]
        go_wp2_with fail
        refine ⟨_, _, _, _, _, _, _, _, _, _, _, _, _, _, _, _, _, _, _, _, ?_, hide (HJ.out.p11 hL0 rfl)⟩
        · try rw [← HA.out]
          try simp only [putL, List.setIfInBounds_toArray, List.set_cons_succ, List.set_cons_zero]
      · intro L a wx hL0 hd
        rintro ⟨x41, x42, x43, x44, x45, x46, x47, x48, x49, x50, x51, x52, x53, x54, x55, x56, x57, x58, x59, x2, rfl, HJ⟩
        have hD := hd
        try simp [deps, Region.binds] at hD
        refine Shut.out ?_
        obtain rfl := HJ.out.h11 (by simp [hD])
        refine ⟨?_⟩
        clear hD hd
        rw [← HA.out]
        simp only [putL, List.setIfInBounds_toArray, List.set_cons_succ, List.set_cons_zero]
        go_wp2_with fail
        refine ⟨_, _, _, _, _, _, _, _, _, _, _, _, _, _, _, _, _, _, _, _, ?_, hide (HJ.out.p12 hL0 rfl)⟩
        · try rw [← HA.out]
          try simp only [putL, List.setIfInBounds_toArray, List.set_cons_succ, List.set_cons_zero]
      · intro L a wx hL0 hd
        rintro ⟨x41, x42, x43, x44, x45, x46, x47, x48, x49, x50, x51, x52, x53, x54, x55, x56, x57, x58, x59, x2, rfl, HJ⟩
        have hD := hd
        try simp [deps, Region.binds] at hD
        refine Shut.out ?_
        obtain rfl := HJ.out.h12 (by simp [hD])
        refine ⟨?_⟩
        clear hD hd
        rw [← HA.out]
        simp only [putL, List.setIfInBounds_toArray, List.set_cons_succ, List.set_cons_zero]
        go_wp2_with fail
        refine ⟨_, _, _, _, _, _, _, _, _, _, _, _, _, _, _, _, _, _, _, _, ?_, hide (HJ.out.p13 hL0 rfl)⟩
        · try rw [← HA.out]
          try simp only [putL, List.setIfInBounds_toArray, List.set_cons_succ, List.set_cons_zero]
      · intro L a wx hL0 hd
        rintro ⟨x41, x42, x43, x44, x45, x46, x47, x48, x49, x50, x51, x52, x53, x54, x55, x56, x57, x58, x59, x2, rfl, HJ⟩
        have hD := hd
        try simp [deps, Region.binds] at hD
        refine Shut.out ?_
        obtain ⟨x1, x2, x3⟩ := (Xx_8.out.below HJ.out.b).cells
        obtain rfl := HJ.out.h13 (by simp [hD])
        obtain rfl := HJ.out.h12 (by simp [hD])
        refine ⟨?_⟩
        clear hD hd
        rw [← HA.out]
        simp only [putL, List.setIfInBounds_toArray, List.set_cons_succ, List.set_cons_zero]
        go_wp2_with fail
        clear x1 x2 x3
        refine ⟨_, _, _, _, _, _, _, _, _, _, _, _, _, _, _, _, _, _, _, _, ?_, hide (HJ.out.p14 hL0 rfl)⟩
        · try rw [← HA.out]
          try simp only [putL, List.setIfInBounds_toArray, List.set_cons_succ, List.set_cons_zero]
      · intro L a wx hL0 hd
        rintro ⟨x41, x42, x43, x44, x45, x46, x47, x48, x49, x50, x51, x52, x53, x54, x55, x56, x57, x58, x59, x2, rfl, HJ⟩
        have hD := hd
        try simp [deps, Region.binds] at hD
        refine Shut.out ?_
        obtain rfl := HJ.out.h12 (by simp [hD])
        refine ⟨?_⟩
        clear hD hd
        rw [← HA.out]
        simp only [putL, List.setIfInBounds_toArray, List.set_cons_succ, List.set_cons_zero]
        go_wp2_with fail
        refine ⟨_, _, _, _, _, _, _, _, _, _, _, _, _, _, _, _, _, _, _, _, ?_, hide (HJ.out.p15 hL0 rfl)⟩
        · try rw [← HA.out]
          try simp only [putL, List.setIfInBounds_toArray, List.set_cons_succ, List.set_cons_zero]
      · intro L a wx hL0 hd
        rintro ⟨x41, x42, x43, x44, x45, x46, x47, x48, x49, x50, x51, x52, x53, x54, x55, x56, x57, x58, x59, x2, rfl, HJ⟩
        have hD := hd
        try simp [deps, Region.binds] at hD
        refine Shut.out ?_
        obtain ⟨x1, x2, x3⟩ := (Xf_8.out.below HJ.out.b).cells
        obtain rfl := HJ.out.h15 (by simp [hD])
        obtain rfl := HJ.out.h12 (by simp [hD])
        refine ⟨?_⟩
        clear hD hd
        rw [← HA.out]
        simp only [putL, List.setIfInBounds_toArray, List.set_cons_succ, List.set_cons_zero]
        go_wp2_with fail
        clear x1 x2 x3
        refine ⟨_, _, _, _, _, _, _, _, _, _, _, _, _, _, _, _, _, _, _, _, ?_, hide (HJ.out.p16 hL0 rfl)⟩
        · try rw [← HA.out]
          try simp only [putL, List.setIfInBounds_toArray, List.set_cons_succ, List.set_cons_zero]
      · intro L a wx hL0 hd
        rintro ⟨x41, x42, x43, x44, x45, x46, x47, x48, x49, x50, x51, x52, x53, x54, x55, x56, x57, x58, x59, x2, rfl, HJ⟩
        have hD := hd
        try simp [deps, Region.binds] at hD
        refine Shut.out ?_
        obtain rfl := HJ.out.h12 (by simp [hD])
        obtain rfl := HJ.out.h14 (by simp [hD])
        obtain rfl := HJ.out.h16 (by simp [hD])
        have he := HE17.out
        have he2 : (outN s sh bs == sh) = false := by have h1 := HE17.out; simpa using h1
        have he3 : ¬ outN s sh bs = sh := by have h1 := HE17.out; simpa using h1
        refine ⟨?_⟩
        clear hD hd
        rw [← HA.out]
        simp only [putL, List.setIfInBounds_toArray, List.set_cons_succ, List.set_cons_zero]
        go_wp2_with fail
        clear he he2 he3
        refine ⟨_, _, _, _, _, _, _, _, _, _, _, _, _, _, _, _, _, _, _, _, ?_, hide (HJ.out.p17 hL0 rfl)⟩
        · try rw [← HA.out]
          try simp only [putL, List.setIfInBounds_toArray, List.set_cons_succ, List.set_cons_zero]
      · intro L a wx hL0 hd
        rintro ⟨x41, x42, x43, x44, x45, x46, x47, x48, x49, x50, x51, x52, x53, x54, x55, x56, x57, x58, x59, x2, rfl, HJ⟩
        have hD := hd
        try simp [deps, Region.binds] at hD
        refine Shut.out ?_
        obtain rfl := HJ.out.h12 (by simp [hD])
        obtain rfl := HJ.out.h17 (by simp [hD])
        refine ⟨?_⟩
        clear hD hd
        rw [← HA.out]
        simp only [putL, List.setIfInBounds_toArray, List.set_cons_succ, List.set_cons_zero]
        go_wp2_with fail
        refine ⟨_, _, _, _, _, _, _, _, _, _, _, _, _, _, _, _, _, _, _, _, ?_, hide (HJ.out.p18 hL0 rfl)⟩
        · try rw [← HA.out]
          try simp only [putL, List.setIfInBounds_toArray, List.set_cons_succ, List.set_cons_zero]
      · intro L a wx hL0 hd
        rintro ⟨x41, x42, x43, x44, x45, x46, x47, x48, x49, x50, x51, x52, x53, x54, x55, x56, x57, x58, x59, x2, rfl, HJ⟩
        have hD := hd
        try simp [deps, Region.binds] at hD
        refine Shut.out ?_
        obtain rfl := HJ.out.h18 (by simp [hD])
        refine ⟨?_⟩
        clear hD hd
        rw [← HA.out]
        simp only [putL, List.setIfInBounds_toArray, List.set_cons_succ, List.set_cons_zero]
        go_wp2_with fail
        refine ⟨_, _, _, _, _, _, _, _, _, _, _, _, _, _, _, _, _, _, _, _, ?_, hide (HJ.out.p19 hL0 rfl)⟩
        · try rw [← HA.out]
          try simp only [putL, List.setIfInBounds_toArray, List.set_cons_succ, List.set_cons_zero]
    · intro L a wx hall
      rintro ⟨x41, x42, x43, x44, x45, x46, x47, x48, x49, x50, x51, x52, x53, x54, x55, x56, x57, x58, x59, x2, rfl, HJ⟩
      rw [← HA.out]
      simp only [putL, List.setIfInBounds_toArray, List.set_cons_succ, List.set_cons_zero]
      obtain rfl := HJ.out.h19 (hall 19 (by decide))
      have HF := hide (bseq B8.out HJ.out.b)
      clear HJ hall
      go_wp2_with fail
      go_ret
      exact ⟨rfl, HF.out⟩
end Go.Proofs.Ytmakpjcjccgalaa
