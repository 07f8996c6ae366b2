/-
  DERIVED. GIVEN WITH THE SEED: THE CARDS: each row of YtoedopgjonhemaaDoorRows.lean that lists a variable, with what it lists TIED to the program's text (the seventh form; the later family's looks); each row that meets fmt, with fmt's text TOLD by the authors' own Lean function (tested against real Go, not proved from fmt's source: count such statements apart). THE CARD IS WHAT COUNTS. Prove the row's statement (the work); the ties are given (YtoedopgjonhemaaDoorTie.lean); close each card by the builder's one call (the guide's Derived/Test/ToyasCard.lean, 'card_holds'). Laid BY PROGRAM, IN A SANDBOX (cutbox-door.mjs). By AI agents, Wed Nov 11 2026. No macro, syntax, notation, axiom, sorry.
-/
import Derived.Test.YtoedopgjonhemaaDoorRows
import GoSem.ClaimSeven
namespace Go.Proofs.YtoedopgjonhemaaDoor
namespace Rows

/-- THE TIED CARD OF 'longwirelaw23.ArithChains'. -/
def arithChainsCard : Claim7 := { stood := { row := arithChainsRow, standIns := [], harness := (true, "9ea067a13603236e231e957bc4c23450f77d29793e968c7d8be05707471e8299"), looks := true }, kinds := [], alts := [], laidByText := true, laidKinds := [.data, .data, .data, .data, .sentinel, .sentinel, .data, .widerDeep, .funcs, .pinned], laidTests := true, laidLooks := .later }
def ArithChainsCardSaid : Prop := Claim7.holds Tryd.pinned (.plain (OpenSpec.ofChange arithChainsSpec)) arithChainsCard

/-- THE TIED CARD OF 'longwirelaw23.ArithNumbers'. -/
def arithNumbersCard : Claim7 := { stood := { row := arithNumbersRow, standIns := [], harness := (true, "9ea067a13603236e231e957bc4c23450f77d29793e968c7d8be05707471e8299"), looks := true }, kinds := [], alts := [], laidByText := true, laidKinds := [.data, .data, .data, .data, .sentinel, .sentinel, .data, .widerDeep, .funcs, .pinned], laidTests := true, laidLooks := .later }
def ArithNumbersCardSaid : Prop := Claim7.holds Tryd.pinned (.plain (OpenSpec.ofChange arithNumbersSpec)) arithNumbersCard

/-- THE TIED CARD OF 'longwirelaw23.ArithKnown'. -/
def arithKnownCard : Claim7 := { stood := { row := arithKnownRow, standIns := [], harness := (true, "9ea067a13603236e231e957bc4c23450f77d29793e968c7d8be05707471e8299"), looks := true }, kinds := [], alts := [], laidByText := true, laidKinds := [.data, .data, .data, .data, .sentinel, .sentinel, .data, .widerDeep, .funcs, .pinned], laidTests := true, laidLooks := .later }
def ArithKnownCardSaid : Prop := Claim7.holds Tryd.pinned (.plain (OpenSpec.ofChange arithKnownSpec)) arithKnownCard

/-- THE SECOND FORM's CARD OF 'longwirelaw23.ArithChains'. -/
def arithChainsUptoCard : Claim7 := { stood := { row := arithChainsUptoRow, standIns := [], harness := (true, "9ea067a13603236e231e957bc4c23450f77d29793e968c7d8be05707471e8299"), looks := true }, kinds := [], alts := [], laidByText := true, laidKinds := [.data, .data, .data, .data, .sentinel, .sentinel, .data, .widerDeep, .funcs, .pinned], laidTests := true, laidLooks := .later }
def ArithChainsUptoCardSaid : Prop := Claim7.holds Tryd.pinned (.plain (OpenSpec.upto arithChainsSpec)) arithChainsUptoCard

/-- THE SECOND FORM's CARD OF 'longwirelaw23.ArithNumbers'. -/
def arithNumbersUptoCard : Claim7 := { stood := { row := arithNumbersUptoRow, standIns := [], harness := (true, "9ea067a13603236e231e957bc4c23450f77d29793e968c7d8be05707471e8299"), looks := true }, kinds := [], alts := [], laidByText := true, laidKinds := [.data, .data, .data, .data, .sentinel, .sentinel, .data, .widerDeep, .funcs, .pinned], laidTests := true, laidLooks := .later }
def ArithNumbersUptoCardSaid : Prop := Claim7.holds Tryd.pinned (.plain (OpenSpec.upto arithNumbersSpec)) arithNumbersUptoCard

/-- THE SECOND FORM's CARD OF 'longwirelaw23.ArithKnown'. -/
def arithKnownUptoCard : Claim7 := { stood := { row := arithKnownUptoRow, standIns := [], harness := (true, "9ea067a13603236e231e957bc4c23450f77d29793e968c7d8be05707471e8299"), looks := true }, kinds := [], alts := [], laidByText := true, laidKinds := [.data, .data, .data, .data, .sentinel, .sentinel, .data, .widerDeep, .funcs, .pinned], laidTests := true, laidLooks := .later }
def ArithKnownUptoCardSaid : Prop := Claim7.holds Tryd.pinned (.plain (OpenSpec.upto arithKnownSpec)) arithKnownUptoCard
end Rows
end Go.Proofs.YtoedopgjonhemaaDoor
