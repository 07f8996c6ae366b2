/-
  DERIVED. GIVEN WITH THE SEED: THE CARDS: each row of YtoedopgjonhemaaGreatDoorRows.lean that lists a variable, with what it lists TIED to the program's text (the seventh form; the later family's looks); each row that meets fmt, with fmt's text TOLD by the authors' own Lean function (tested against real Go, not proved from fmt's source: count such statements apart). THE CARD IS WHAT COUNTS. Prove the row's statement (the work); the ties are given (YtoedopgjonhemaaGreatDoorTie.lean); close each card by the builder's one call (the guide's Derived/Test/ToyasCard.lean, 'card_holds'). Laid BY PROGRAM, IN A SANDBOX (cutbox-door.mjs). By AI agents, Wed Nov 11 2026. No macro, syntax, notation, axiom, sorry.
-/
import Derived.Test.YtoedopgjonhemaaGreatDoorRows
import GoSem.ClaimSeven
namespace Go.Proofs.YtoedopgjonhemaaGreatDoor
namespace Rows

/-- THE TIED CARD OF 'longwirelaw23.ArithWorks'. -/
def arithWorksCard : Claim7 := { stood := { row := arithWorksRow, standIns := [], harness := (true, "778a58c29808c6457d342afceccc033f0ac59d73298bf61f56b85cadc0d32909"), looks := true }, kinds := [], alts := [], laidByText := true, laidKinds := [.data, .data, .data, .data, .sentinel, .sentinel, .data, .widerDeep, .funcs, .pinned], laidTests := true, laidLooks := .later }
def ArithWorksCardSaid : Prop := Claim7.holds Tryz.pinned (.plain (OpenSpec.ofChange arithWorksSpec)) arithWorksCard

/-- THE TIED CARD OF 'longwirelaw23.ArithSame'. -/
def arithSameCard : Claim7 := { stood := { row := arithSameRow, standIns := [], harness := (true, "778a58c29808c6457d342afceccc033f0ac59d73298bf61f56b85cadc0d32909"), looks := true }, kinds := [], alts := [], laidByText := true, laidKinds := [.data, .data, .data, .data, .sentinel, .sentinel, .data, .widerDeep, .funcs, .pinned], laidTests := true, laidLooks := .later }
def ArithSameCardSaid : Prop := Claim7.holds Tryz.pinned (.plain (OpenSpec.ofChange arithSameSpec)) arithSameCard

/-- THE SECOND FORM's CARD OF 'longwirelaw23.ArithWorks'. -/
def arithWorksUptoCard : Claim7 := { stood := { row := arithWorksUptoRow, standIns := [], harness := (true, "778a58c29808c6457d342afceccc033f0ac59d73298bf61f56b85cadc0d32909"), looks := true }, kinds := [], alts := [], laidByText := true, laidKinds := [.data, .data, .data, .data, .sentinel, .sentinel, .data, .widerDeep, .funcs, .pinned], laidTests := true, laidLooks := .later }
def ArithWorksUptoCardSaid : Prop := Claim7.holds Tryz.pinned (.plain (OpenSpec.upto arithWorksSpec)) arithWorksUptoCard

/-- THE SECOND FORM's CARD OF 'longwirelaw23.ArithSame'. -/
def arithSameUptoCard : Claim7 := { stood := { row := arithSameUptoRow, standIns := [], harness := (true, "778a58c29808c6457d342afceccc033f0ac59d73298bf61f56b85cadc0d32909"), looks := true }, kinds := [], alts := [], laidByText := true, laidKinds := [.data, .data, .data, .data, .sentinel, .sentinel, .data, .widerDeep, .funcs, .pinned], laidTests := true, laidLooks := .later }
def ArithSameUptoCardSaid : Prop := Claim7.holds Tryz.pinned (.plain (OpenSpec.upto arithSameSpec)) arithSameUptoCard
end Rows
end Go.Proofs.YtoedopgjonhemaaGreatDoor
