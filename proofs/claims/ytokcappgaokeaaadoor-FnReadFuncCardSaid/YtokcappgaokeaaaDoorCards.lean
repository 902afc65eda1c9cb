/-
  DERIVED. GIVEN WITH THE SEED: THE CARDS: each row of YtokcappgaokeaaaDoorRows.lean that lists a variable, with what it lists TIED to the program's text (the seventh form; the later family's looks); each row that meets fmt, with fmt's text TOLD by the authors' own Lean function (tested against real Go, not proved from fmt's source: count such statements apart). THE CARD IS WHAT COUNTS. Prove the row's statement (the work); the ties are given (YtokcappgaokeaaaDoorTie.lean); close each card by the builder's one call (the guide's Derived/Test/ToyasCard.lean, 'card_holds'). Laid BY PROGRAM, IN A SANDBOX (cutbox-door.mjs). By AI agents, Wed Nov 11 2026. No macro, syntax, notation, axiom, sorry.
-/
import Derived.Test.YtokcappgaokeaaaDoorRows
import GoSem.ClaimSeven
namespace Go.Proofs.YtokcappgaokeaaaDoor
namespace Rows

/-- THE TIED CARD OF 'laws.FnExactReadFunc'. -/
def fnExactReadFuncCard : Claim7 := { stood := { row := fnExactReadFuncRow, standIns := [], harness := (true, "e905723f70503643e082cc80eb770d8d52ba18e4f45a970cf9d09cd953ef2bc9"), looks := true }, kinds := [], alts := [], laidByText := true, laidKinds := [.data, .data, .data, .data, .sentinel, .sentinel, .pinned], laidTests := true, laidLooks := .later }
def FnExactReadFuncCardSaid : Prop := Claim7.holds Tryd.pinned (.plain (OpenSpec.ofChange fnExactReadFuncSpec)) fnExactReadFuncCard

/-- THE TIED CARD OF 'laws.FnFuncText'. -/
def fnFuncTextCard : Claim7 := { stood := { row := fnFuncTextRow, standIns := [], harness := (true, "e905723f70503643e082cc80eb770d8d52ba18e4f45a970cf9d09cd953ef2bc9"), looks := true }, kinds := [], alts := [], laidByText := true, laidKinds := [.data, .data, .data, .data, .sentinel, .sentinel, .pinned], laidTests := true, laidLooks := .later }
def FnFuncTextCardSaid : Prop := Claim7.holds Tryd.pinned (.plain (OpenSpec.ofChange fnFuncTextSpec)) fnFuncTextCard

/-- THE TIED CARD OF 'laws.FnReadFunc'. -/
def fnReadFuncCard : Claim7 := { stood := { row := fnReadFuncRow, standIns := [], harness := (true, "e905723f70503643e082cc80eb770d8d52ba18e4f45a970cf9d09cd953ef2bc9"), looks := true }, kinds := [], alts := [], laidByText := true, laidKinds := [.data, .data, .data, .data, .sentinel, .sentinel, .pinned], laidTests := true, laidLooks := .later }
def FnReadFuncCardSaid : Prop := Claim7.holds Tryd.pinned (.plain (OpenSpec.ofChange fnReadFuncSpec)) fnReadFuncCard

/-- THE TIED CARD OF 'laws.FnExactFuncText'. -/
def fnExactFuncTextCard : Claim7 := { stood := { row := fnExactFuncTextRow, standIns := [], harness := (true, "e905723f70503643e082cc80eb770d8d52ba18e4f45a970cf9d09cd953ef2bc9"), looks := true }, kinds := [], alts := [], laidByText := true, laidKinds := [.data, .data, .data], laidTests := true, laidLooks := .later }
def FnExactFuncTextCardSaid : Prop := Claim7.holds Tryd.pinned (.plain (OpenSpec.ofChange fnExactFuncTextSpec)) fnExactFuncTextCard

/-- THE SECOND FORM's CARD OF 'laws.FnExactReadFunc'. -/
def fnExactReadFuncUptoCard : Claim7 := { stood := { row := fnExactReadFuncUptoRow, standIns := [], harness := (true, "e905723f70503643e082cc80eb770d8d52ba18e4f45a970cf9d09cd953ef2bc9"), looks := true }, kinds := [], alts := [], laidByText := true, laidKinds := [.data, .data, .data, .data, .sentinel, .sentinel, .pinned], laidTests := true, laidLooks := .later }
def FnExactReadFuncUptoCardSaid : Prop := Claim7.holds Tryd.pinned (.plain (OpenSpec.upto fnExactReadFuncSpec)) fnExactReadFuncUptoCard

/-- THE SECOND FORM's CARD OF 'laws.FnFuncText'. -/
def fnFuncTextUptoCard : Claim7 := { stood := { row := fnFuncTextUptoRow, standIns := [], harness := (true, "e905723f70503643e082cc80eb770d8d52ba18e4f45a970cf9d09cd953ef2bc9"), looks := true }, kinds := [], alts := [], laidByText := true, laidKinds := [.data, .data, .data, .data, .sentinel, .sentinel, .pinned], laidTests := true, laidLooks := .later }
def FnFuncTextUptoCardSaid : Prop := Claim7.holds Tryd.pinned (.plain (OpenSpec.upto fnFuncTextSpec)) fnFuncTextUptoCard

/-- THE SECOND FORM's CARD OF 'laws.FnReadFunc'. -/
def fnReadFuncUptoCard : Claim7 := { stood := { row := fnReadFuncUptoRow, standIns := [], harness := (true, "e905723f70503643e082cc80eb770d8d52ba18e4f45a970cf9d09cd953ef2bc9"), looks := true }, kinds := [], alts := [], laidByText := true, laidKinds := [.data, .data, .data, .data, .sentinel, .sentinel, .pinned], laidTests := true, laidLooks := .later }
def FnReadFuncUptoCardSaid : Prop := Claim7.holds Tryd.pinned (.plain (OpenSpec.upto fnReadFuncSpec)) fnReadFuncUptoCard

/-- THE SECOND FORM's CARD OF 'laws.FnExactFuncText'. -/
def fnExactFuncTextUptoCard : Claim7 := { stood := { row := fnExactFuncTextUptoRow, standIns := [], harness := (true, "e905723f70503643e082cc80eb770d8d52ba18e4f45a970cf9d09cd953ef2bc9"), looks := true }, kinds := [], alts := [], laidByText := true, laidKinds := [.data, .data, .data], laidTests := true, laidLooks := .later }
def FnExactFuncTextUptoCardSaid : Prop := Claim7.holds Tryd.pinned (.plain (OpenSpec.upto fnExactFuncTextSpec)) fnExactFuncTextUptoCard
end Rows
end Go.Proofs.YtokcappgaokeaaaDoor
