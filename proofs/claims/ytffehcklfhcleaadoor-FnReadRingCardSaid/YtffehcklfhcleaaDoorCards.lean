/-
  DERIVED. GIVEN WITH THE SEED: THE CARDS: each row of YtffehcklfhcleaaDoorRows.lean that lists a variable, with what it lists TIED to the program's text (the seventh form; the later family's looks); each row that meets fmt, with fmt's text TOLD by the authors' own Lean function (tested against real Go, not proved from fmt's source: count such statements apart). THE CARD IS WHAT COUNTS. Prove the row's statement (the work); the ties are given (YtffehcklfhcleaaDoorTie.lean); close each card by the builder's one call (the guide's Derived/Test/ToyasCard.lean, 'card_holds'). Laid BY PROGRAM, IN A SANDBOX (cutbox-door.mjs). By AI agents, Wed Nov 11 2026. No macro, syntax, notation, axiom, sorry.
-/
import Derived.Test.YtffehcklfhcleaaDoorRows
import GoSem.ClaimSeven
namespace Go.Proofs.YtffehcklfhcleaaDoor
namespace Rows

/-- THE TIED CARD OF 'laws.FnExactRingText'. -/
def fnExactRingTextCard : Claim7 := { stood := { row := fnExactRingTextRow, standIns := [], harness := (true, "7e22de8ca55ea65d8fb17ed1a0683db0f888d8eaafe84fe977b3afa63cfd05d7"), looks := false }, kinds := [], alts := [], laidByText := true, laidKinds := [.data, .data, .data], laidTests := true, laidLooks := .later }
def FnExactRingTextCardSaid : Prop := Claim7.holds Tryd.pinned (.plain (OpenSpec.ofChange fnExactRingTextSpec)) fnExactRingTextCard

/-- THE TIED CARD OF 'laws.FnRingText'. -/
def fnRingTextCard : Claim7 := { stood := { row := fnRingTextRow, standIns := [], harness := (true, "7e22de8ca55ea65d8fb17ed1a0683db0f888d8eaafe84fe977b3afa63cfd05d7"), looks := false }, kinds := [], alts := [], laidByText := true, laidKinds := [.data, .data, .data], laidTests := true, laidLooks := .later }
def FnRingTextCardSaid : Prop := Claim7.holds Tryd.pinned (.plain (OpenSpec.ofChange fnRingTextSpec)) fnRingTextCard

/-- THE TIED CARD OF 'laws.FnReadRing'. -/
def fnReadRingCard : Claim7 := { stood := { row := fnReadRingRow, standIns := [], harness := (true, "7e22de8ca55ea65d8fb17ed1a0683db0f888d8eaafe84fe977b3afa63cfd05d7"), looks := false }, kinds := [], alts := [], laidByText := true, laidKinds := [.data, .data, .data], laidTests := true, laidLooks := .later }
def FnReadRingCardSaid : Prop := Claim7.holds Tryd.pinned (.plain (OpenSpec.ofChange fnReadRingSpec)) fnReadRingCard

/-- THE SECOND FORM's CARD OF 'laws.FnExactRingText'. -/
def fnExactRingTextUptoCard : Claim7 := { stood := { row := fnExactRingTextUptoRow, standIns := [], harness := (true, "7e22de8ca55ea65d8fb17ed1a0683db0f888d8eaafe84fe977b3afa63cfd05d7"), looks := false }, kinds := [], alts := [], laidByText := true, laidKinds := [.data, .data, .data], laidTests := true, laidLooks := .later }
def FnExactRingTextUptoCardSaid : Prop := Claim7.holds Tryd.pinned (.plain (OpenSpec.upto fnExactRingTextSpec)) fnExactRingTextUptoCard

/-- THE SECOND FORM's CARD OF 'laws.FnRingText'. -/
def fnRingTextUptoCard : Claim7 := { stood := { row := fnRingTextUptoRow, standIns := [], harness := (true, "7e22de8ca55ea65d8fb17ed1a0683db0f888d8eaafe84fe977b3afa63cfd05d7"), looks := false }, kinds := [], alts := [], laidByText := true, laidKinds := [.data, .data, .data], laidTests := true, laidLooks := .later }
def FnRingTextUptoCardSaid : Prop := Claim7.holds Tryd.pinned (.plain (OpenSpec.upto fnRingTextSpec)) fnRingTextUptoCard

/-- THE SECOND FORM's CARD OF 'laws.FnReadRing'. -/
def fnReadRingUptoCard : Claim7 := { stood := { row := fnReadRingUptoRow, standIns := [], harness := (true, "7e22de8ca55ea65d8fb17ed1a0683db0f888d8eaafe84fe977b3afa63cfd05d7"), looks := false }, kinds := [], alts := [], laidByText := true, laidKinds := [.data, .data, .data], laidTests := true, laidLooks := .later }
def FnReadRingUptoCardSaid : Prop := Claim7.holds Tryd.pinned (.plain (OpenSpec.upto fnReadRingSpec)) fnReadRingUptoCard
end Rows
end Go.Proofs.YtffehcklfhcleaaDoor
