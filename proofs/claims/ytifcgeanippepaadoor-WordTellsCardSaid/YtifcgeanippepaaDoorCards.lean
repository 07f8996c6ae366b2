/-
  DERIVED. GIVEN WITH THE SEED: THE CARDS: each row of YtifcgeanippepaaDoorRows.lean that lists a variable, with what it lists TIED to the program's text (the seventh form; the later family's looks); each row that meets fmt, with fmt's text TOLD by the authors' own Lean function (tested against real Go, not proved from fmt's source: count such statements apart). THE CARD IS WHAT COUNTS. Prove the row's statement (the work); the ties are given (YtifcgeanippepaaDoorTie.lean); close each card by the builder's one call (the guide's Derived/Test/ToyasCard.lean, 'card_holds'). Laid BY PROGRAM, IN A SANDBOX (cutbox-door.mjs). By AI agents, Wed Nov 11 2026. No macro, syntax, notation, axiom, sorry.
-/
import Derived.Test.YtifcgeanippepaaDoorRows
import GoSem.ClaimSeven
namespace Go.Proofs.YtifcgeanippepaaDoor
namespace Rows

/-- THE TIED CARD OF 'longwirelaw16.LexAgain'. -/
def lexAgainCard : Claim7 := { stood := { row := lexAgainRow, standIns := [], harness := (true, "1c7872c233fedfce32ccbb870d83607e6b09ac48cc6954fa0900af7472b41133"), looks := false }, kinds := [], alts := [], laidByText := true, laidKinds := [.data], laidTests := true, laidLooks := .later }
def LexAgainCardSaid : Prop := Claim7.holds Tryd.pinned (.plain (OpenSpec.ofChange lexAgainSpec)) lexAgainCard

/-- THE TIED CARD OF 'longwirelaw16.LexQuotes'. -/
def lexQuotesCard : Claim7 := { stood := { row := lexQuotesRow, standIns := [], harness := (true, "1c7872c233fedfce32ccbb870d83607e6b09ac48cc6954fa0900af7472b41133"), looks := false }, kinds := [], alts := [], laidByText := true, laidKinds := [.data, .data, .pinned], laidTests := true, laidLooks := .later }
def LexQuotesCardSaid : Prop := Claim7.holds Tryd.pinned (.plain (OpenSpec.ofChange lexQuotesSpec)) lexQuotesCard

/-- THE TIED CARD OF 'longwirelaw17.WordQuotes'. -/
def wordQuotesCard : Claim7 := { stood := { row := wordQuotesRow, standIns := [], harness := (true, "1c7872c233fedfce32ccbb870d83607e6b09ac48cc6954fa0900af7472b41133"), looks := false }, kinds := [], alts := [], laidByText := true, laidKinds := [.data, .data], laidTests := true, laidLooks := .later }
def WordQuotesCardSaid : Prop := Claim7.holds Tryd.pinned (.plain (OpenSpec.ofChange wordQuotesSpec)) wordQuotesCard

/-- THE TIED CARD OF 'longwirelaw16.LexKnown'. -/
def lexKnownCard : Claim7 := { stood := { row := lexKnownRow, standIns := [], harness := (true, "1c7872c233fedfce32ccbb870d83607e6b09ac48cc6954fa0900af7472b41133"), looks := false }, kinds := [], alts := [], laidByText := true, laidKinds := [.data], laidTests := true, laidLooks := .later }
def LexKnownCardSaid : Prop := Claim7.holds Tryd.pinned (.plain (OpenSpec.ofChange lexKnownSpec)) lexKnownCard

/-- THE TIED CARD OF 'longwirelaw17.WordTells'. -/
def wordTellsCard : Claim7 := { stood := { row := wordTellsRow, standIns := [], harness := (true, "1c7872c233fedfce32ccbb870d83607e6b09ac48cc6954fa0900af7472b41133"), looks := false }, kinds := [], alts := [], laidByText := true, laidKinds := [.data, .data], laidTests := true, laidLooks := .later }
def WordTellsCardSaid : Prop := Claim7.holds Tryd.pinned (.plain (OpenSpec.ofChange wordTellsSpec)) wordTellsCard

/-- THE TIED CARD OF 'longwirelaw17.WordAdds'. -/
def wordAddsCard : Claim7 := { stood := { row := wordAddsRow, standIns := [], harness := (true, "1c7872c233fedfce32ccbb870d83607e6b09ac48cc6954fa0900af7472b41133"), looks := false }, kinds := [], alts := [], laidByText := true, laidKinds := [.data, .data], laidTests := true, laidLooks := .later }
def WordAddsCardSaid : Prop := Claim7.holds Tryd.pinned (.plain (OpenSpec.ofChange wordAddsSpec)) wordAddsCard

/-- THE TIED CARD OF 'longwirelaw17.WordBack'. -/
def wordBackCard : Claim7 := { stood := { row := wordBackRow, standIns := [], harness := (true, "1c7872c233fedfce32ccbb870d83607e6b09ac48cc6954fa0900af7472b41133"), looks := false }, kinds := [], alts := [], laidByText := true, laidKinds := [.data, .data], laidTests := true, laidLooks := .later }
def WordBackCardSaid : Prop := Claim7.holds Tryd.pinned (.plain (OpenSpec.ofChange wordBackSpec)) wordBackCard

/-- THE TIED CARD OF 'longwirelaw16.LexTiles'. -/
def lexTilesCard : Claim7 := { stood := { row := lexTilesRow, standIns := [], harness := (true, "1c7872c233fedfce32ccbb870d83607e6b09ac48cc6954fa0900af7472b41133"), looks := false }, kinds := [], alts := [], laidByText := true, laidKinds := [.data, .data, .pinned], laidTests := true, laidLooks := .later }
def LexTilesCardSaid : Prop := Claim7.holds Tryd.pinned (.plain (OpenSpec.ofChange lexTilesSpec)) lexTilesCard

/-- THE TIED CARD OF 'longwirelaw17.WordKnown'. -/
def wordKnownCard : Claim7 := { stood := { row := wordKnownRow, standIns := [], harness := (true, "1c7872c233fedfce32ccbb870d83607e6b09ac48cc6954fa0900af7472b41133"), looks := false }, kinds := [], alts := [], laidByText := true, laidKinds := [.data, .data], laidTests := true, laidLooks := .later }
def WordKnownCardSaid : Prop := Claim7.holds Tryd.pinned (.plain (OpenSpec.ofChange wordKnownSpec)) wordKnownCard

/-- THE SECOND FORM's CARD OF 'longwirelaw16.LexAgain'. -/
def lexAgainUptoCard : Claim7 := { stood := { row := lexAgainUptoRow, standIns := [], harness := (true, "1c7872c233fedfce32ccbb870d83607e6b09ac48cc6954fa0900af7472b41133"), looks := false }, kinds := [], alts := [], laidByText := true, laidKinds := [.data], laidTests := true, laidLooks := .later }
def LexAgainUptoCardSaid : Prop := Claim7.holds Tryd.pinned (.plain (OpenSpec.upto lexAgainSpec)) lexAgainUptoCard

/-- THE SECOND FORM's CARD OF 'longwirelaw16.LexQuotes'. -/
def lexQuotesUptoCard : Claim7 := { stood := { row := lexQuotesUptoRow, standIns := [], harness := (true, "1c7872c233fedfce32ccbb870d83607e6b09ac48cc6954fa0900af7472b41133"), looks := false }, kinds := [], alts := [], laidByText := true, laidKinds := [.data, .data, .pinned], laidTests := true, laidLooks := .later }
def LexQuotesUptoCardSaid : Prop := Claim7.holds Tryd.pinned (.plain (OpenSpec.upto lexQuotesSpec)) lexQuotesUptoCard

/-- THE SECOND FORM's CARD OF 'longwirelaw17.WordQuotes'. -/
def wordQuotesUptoCard : Claim7 := { stood := { row := wordQuotesUptoRow, standIns := [], harness := (true, "1c7872c233fedfce32ccbb870d83607e6b09ac48cc6954fa0900af7472b41133"), looks := false }, kinds := [], alts := [], laidByText := true, laidKinds := [.data, .data], laidTests := true, laidLooks := .later }
def WordQuotesUptoCardSaid : Prop := Claim7.holds Tryd.pinned (.plain (OpenSpec.upto wordQuotesSpec)) wordQuotesUptoCard

/-- THE SECOND FORM's CARD OF 'longwirelaw16.LexKnown'. -/
def lexKnownUptoCard : Claim7 := { stood := { row := lexKnownUptoRow, standIns := [], harness := (true, "1c7872c233fedfce32ccbb870d83607e6b09ac48cc6954fa0900af7472b41133"), looks := false }, kinds := [], alts := [], laidByText := true, laidKinds := [.data], laidTests := true, laidLooks := .later }
def LexKnownUptoCardSaid : Prop := Claim7.holds Tryd.pinned (.plain (OpenSpec.upto lexKnownSpec)) lexKnownUptoCard

/-- THE SECOND FORM's CARD OF 'longwirelaw17.WordTells'. -/
def wordTellsUptoCard : Claim7 := { stood := { row := wordTellsUptoRow, standIns := [], harness := (true, "1c7872c233fedfce32ccbb870d83607e6b09ac48cc6954fa0900af7472b41133"), looks := false }, kinds := [], alts := [], laidByText := true, laidKinds := [.data, .data], laidTests := true, laidLooks := .later }
def WordTellsUptoCardSaid : Prop := Claim7.holds Tryd.pinned (.plain (OpenSpec.upto wordTellsSpec)) wordTellsUptoCard

/-- THE SECOND FORM's CARD OF 'longwirelaw17.WordAdds'. -/
def wordAddsUptoCard : Claim7 := { stood := { row := wordAddsUptoRow, standIns := [], harness := (true, "1c7872c233fedfce32ccbb870d83607e6b09ac48cc6954fa0900af7472b41133"), looks := false }, kinds := [], alts := [], laidByText := true, laidKinds := [.data, .data], laidTests := true, laidLooks := .later }
def WordAddsUptoCardSaid : Prop := Claim7.holds Tryd.pinned (.plain (OpenSpec.upto wordAddsSpec)) wordAddsUptoCard

/-- THE SECOND FORM's CARD OF 'longwirelaw17.WordBack'. -/
def wordBackUptoCard : Claim7 := { stood := { row := wordBackUptoRow, standIns := [], harness := (true, "1c7872c233fedfce32ccbb870d83607e6b09ac48cc6954fa0900af7472b41133"), looks := false }, kinds := [], alts := [], laidByText := true, laidKinds := [.data, .data], laidTests := true, laidLooks := .later }
def WordBackUptoCardSaid : Prop := Claim7.holds Tryd.pinned (.plain (OpenSpec.upto wordBackSpec)) wordBackUptoCard

/-- THE SECOND FORM's CARD OF 'longwirelaw16.LexTiles'. -/
def lexTilesUptoCard : Claim7 := { stood := { row := lexTilesUptoRow, standIns := [], harness := (true, "1c7872c233fedfce32ccbb870d83607e6b09ac48cc6954fa0900af7472b41133"), looks := false }, kinds := [], alts := [], laidByText := true, laidKinds := [.data, .data, .pinned], laidTests := true, laidLooks := .later }
def LexTilesUptoCardSaid : Prop := Claim7.holds Tryd.pinned (.plain (OpenSpec.upto lexTilesSpec)) lexTilesUptoCard

/-- THE SECOND FORM's CARD OF 'longwirelaw17.WordKnown'. -/
def wordKnownUptoCard : Claim7 := { stood := { row := wordKnownUptoRow, standIns := [], harness := (true, "1c7872c233fedfce32ccbb870d83607e6b09ac48cc6954fa0900af7472b41133"), looks := false }, kinds := [], alts := [], laidByText := true, laidKinds := [.data, .data], laidTests := true, laidLooks := .later }
def WordKnownUptoCardSaid : Prop := Claim7.holds Tryd.pinned (.plain (OpenSpec.upto wordKnownSpec)) wordKnownUptoCard
end Rows
end Go.Proofs.YtifcgeanippepaaDoor
