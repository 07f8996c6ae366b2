/-
  DERIVED. GIVEN WITH THE SEED: THE CARDS: each row of YtgigdlhcjahejaaGreatDoorRows.lean that lists a variable, with what it lists TIED to the program's text (the seventh form; the later family's looks); each row that meets fmt, with fmt's text TOLD by the authors' own Lean function (tested against real Go, not proved from fmt's source: count such statements apart). THE CARD IS WHAT COUNTS. Prove the row's statement (the work); the ties are given (YtgigdlhcjahejaaGreatDoorTie.lean); close each card by the builder's one call (the guide's Derived/Test/ToyasCard.lean, 'card_holds'). Laid BY PROGRAM, IN A SANDBOX (cutbox-door.mjs). By AI agents, Wed Nov 11 2026. No macro, syntax, notation, axiom, sorry.
-/
import Derived.Test.YtgigdlhcjahejaaGreatDoorRows
import GoSem.ClaimSeven
namespace Go.Proofs.YtgigdlhcjahejaaGreatDoor
namespace Rows

/-- THE TIED CARD OF 'longwirelaw19.ParseBack'. -/
def parseBackCard : Claim7 := { stood := { row := parseBackRow, standIns := [], harness := (true, "ddbd6531cf032dd30591a5bf97e095677f3057fb5d90013ccce80bab20edfcf9"), looks := false }, kinds := [], alts := [], laidByText := true, laidKinds := [.data, .data, .widerDeep, .data, .funcs], laidTests := true, laidLooks := .later }
def ParseBackCardSaid : Prop := Claim7.holds Tryz.pinned (.plain (OpenSpec.ofChange parseBackSpec)) parseBackCard

/-- THE TIED CARD OF 'longwirelaw19.ParseParts'. -/
def parsePartsCard : Claim7 := { stood := { row := parsePartsRow, standIns := [], harness := (true, "ddbd6531cf032dd30591a5bf97e095677f3057fb5d90013ccce80bab20edfcf9"), looks := false }, kinds := [], alts := [], laidByText := true, laidKinds := [.data, .data, .widerDeep, .data, .funcs], laidTests := true, laidLooks := .later }
def ParsePartsCardSaid : Prop := Claim7.holds Tryz.pinned (.plain (OpenSpec.ofChange parsePartsSpec)) parsePartsCard

/-- THE TIED CARD OF 'longwirelaw19.ParseBreaks'. -/
def parseBreaksCard : Claim7 := { stood := { row := parseBreaksRow, standIns := [], harness := (true, "ddbd6531cf032dd30591a5bf97e095677f3057fb5d90013ccce80bab20edfcf9"), looks := false }, kinds := [], alts := [], laidByText := true, laidKinds := [.data, .data, .widerDeep, .data, .funcs], laidTests := true, laidLooks := .later }
def ParseBreaksCardSaid : Prop := Claim7.holds Tryz.pinned (.plain (OpenSpec.ofChange parseBreaksSpec)) parseBreaksCard

/-- THE TIED CARD OF 'longwirelaw19.ParseKnown'. -/
def parseKnownCard : Claim7 := { stood := { row := parseKnownRow, standIns := [], harness := (true, "ddbd6531cf032dd30591a5bf97e095677f3057fb5d90013ccce80bab20edfcf9"), looks := false }, kinds := [], alts := [], laidByText := true, laidKinds := [.data, .data, .widerDeep, .data, .funcs], laidTests := true, laidLooks := .later }
def ParseKnownCardSaid : Prop := Claim7.holds Tryz.pinned (.plain (OpenSpec.ofChange parseKnownSpec)) parseKnownCard

/-- THE SECOND FORM's CARD OF 'longwirelaw19.ParseBack'. -/
def parseBackUptoCard : Claim7 := { stood := { row := parseBackUptoRow, standIns := [], harness := (true, "ddbd6531cf032dd30591a5bf97e095677f3057fb5d90013ccce80bab20edfcf9"), looks := false }, kinds := [], alts := [], laidByText := true, laidKinds := [.data, .data, .widerDeep, .data, .funcs], laidTests := true, laidLooks := .later }
def ParseBackUptoCardSaid : Prop := Claim7.holds Tryz.pinned (.plain (OpenSpec.upto parseBackSpec)) parseBackUptoCard

/-- THE SECOND FORM's CARD OF 'longwirelaw19.ParseParts'. -/
def parsePartsUptoCard : Claim7 := { stood := { row := parsePartsUptoRow, standIns := [], harness := (true, "ddbd6531cf032dd30591a5bf97e095677f3057fb5d90013ccce80bab20edfcf9"), looks := false }, kinds := [], alts := [], laidByText := true, laidKinds := [.data, .data, .widerDeep, .data, .funcs], laidTests := true, laidLooks := .later }
def ParsePartsUptoCardSaid : Prop := Claim7.holds Tryz.pinned (.plain (OpenSpec.upto parsePartsSpec)) parsePartsUptoCard

/-- THE SECOND FORM's CARD OF 'longwirelaw19.ParseBreaks'. -/
def parseBreaksUptoCard : Claim7 := { stood := { row := parseBreaksUptoRow, standIns := [], harness := (true, "ddbd6531cf032dd30591a5bf97e095677f3057fb5d90013ccce80bab20edfcf9"), looks := false }, kinds := [], alts := [], laidByText := true, laidKinds := [.data, .data, .widerDeep, .data, .funcs], laidTests := true, laidLooks := .later }
def ParseBreaksUptoCardSaid : Prop := Claim7.holds Tryz.pinned (.plain (OpenSpec.upto parseBreaksSpec)) parseBreaksUptoCard

/-- THE SECOND FORM's CARD OF 'longwirelaw19.ParseKnown'. -/
def parseKnownUptoCard : Claim7 := { stood := { row := parseKnownUptoRow, standIns := [], harness := (true, "ddbd6531cf032dd30591a5bf97e095677f3057fb5d90013ccce80bab20edfcf9"), looks := false }, kinds := [], alts := [], laidByText := true, laidKinds := [.data, .data, .widerDeep, .data, .funcs], laidTests := true, laidLooks := .later }
def ParseKnownUptoCardSaid : Prop := Claim7.holds Tryz.pinned (.plain (OpenSpec.upto parseKnownSpec)) parseKnownUptoCard
end Rows
end Go.Proofs.YtgigdlhcjahejaaGreatDoor
