/-
  DERIVED. GIVEN WITH THE SEED: THE PROGRAM's TIES (one call each: nine closed facts by the kernel) AND EACH ROW's TIE, after the 31st guide's Derived/Test/Toyas{Tie, Card}.lean. No idea stands in it: it is a product of the set-up. Laid BY PROGRAM, IN A SANDBOX (cutbox-door.mjs). By AI agents, Wed Nov 11 2026. No macro, syntax, notation, axiom, sorry.
-/
import Derived.Test.YtgigdlhcjahejaaGreatDoorRows
import Derived.LaidByTextLater
import Derived.SevenTiedAt
import Derived.LaidSub
import Derived.LaidOnce
namespace Go.Proofs.YtgigdlhcjahejaaGreatDoor
open Go
set_option maxRecDepth 100000
theorem seatTie1 : Tryz.prog.laidByTextLater [("longwire/lex.operators", Rows.laid_longwire_lex_operators), ("longwire/word.ends", Rows.laid_longwire_word_ends), ("longwire/tree.reserved", Rows.laid_longwire_tree_reserved), ("longwire/tree.signs", Rows.laid_longwire_tree_signs), ("longwire/tree.shapes", Rows.laid_longwire_tree_shapes)] [.data, .data, .widerDeep, .data, .funcs] true :=
  Program.laidByTextLater_by_one 52 8 37 (by kernel_rfl) (by kernel_rfl) (by kernel_rfl) (by kernel_rfl) (by kernel_rfl) (by kernel_rfl) (fun _ _ => by kernel_rfl)
theorem noOwnUnsafe : Tryz.pinned.checked.prog.headLifts.contains "ownunsafe" = false := by kernel_rfl
theorem tie : Tryz.prog.laidByTextLater [("longwire/lex.operators", Rows.laid_longwire_lex_operators), ("longwire/word.ends", Rows.laid_longwire_word_ends), ("longwire/tree.reserved", Rows.laid_longwire_tree_reserved), ("longwire/tree.signs", Rows.laid_longwire_tree_signs), ("longwire/tree.shapes", Rows.laid_longwire_tree_shapes)] [.data, .data, .widerDeep, .data, .funcs] true :=
  Program.laidByTextLater.sub seatTie1 ["longwire/lex.operators", "longwire/word.ends", "longwire/tree.reserved", "longwire/tree.signs", "longwire/tree.shapes"] (by kernel_rfl) (by kernel_rfl)
theorem parseBack_row_tie : Rows.parseBackRow.laidByTextAt .later Tryz.pinned [.data, .data, .widerDeep, .data, .funcs] true :=
  OpenClaim.laidByTextAt_later rfl rfl tie noOwnUnsafe
theorem parseParts_row_tie : Rows.parsePartsRow.laidByTextAt .later Tryz.pinned [.data, .data, .widerDeep, .data, .funcs] true :=
  OpenClaim.laidByTextAt_later rfl rfl tie noOwnUnsafe
theorem parseBreaks_row_tie : Rows.parseBreaksRow.laidByTextAt .later Tryz.pinned [.data, .data, .widerDeep, .data, .funcs] true :=
  OpenClaim.laidByTextAt_later rfl rfl tie noOwnUnsafe
theorem parseKnown_row_tie : Rows.parseKnownRow.laidByTextAt .later Tryz.pinned [.data, .data, .widerDeep, .data, .funcs] true :=
  OpenClaim.laidByTextAt_later rfl rfl tie noOwnUnsafe
theorem parseBackUpto_row_tie : Rows.parseBackUptoRow.laidByTextAt .later Tryz.pinned [.data, .data, .widerDeep, .data, .funcs] true :=
  OpenClaim.laidByTextAt_later rfl rfl tie noOwnUnsafe
theorem parsePartsUpto_row_tie : Rows.parsePartsUptoRow.laidByTextAt .later Tryz.pinned [.data, .data, .widerDeep, .data, .funcs] true :=
  OpenClaim.laidByTextAt_later rfl rfl tie noOwnUnsafe
theorem parseBreaksUpto_row_tie : Rows.parseBreaksUptoRow.laidByTextAt .later Tryz.pinned [.data, .data, .widerDeep, .data, .funcs] true :=
  OpenClaim.laidByTextAt_later rfl rfl tie noOwnUnsafe
theorem parseKnownUpto_row_tie : Rows.parseKnownUptoRow.laidByTextAt .later Tryz.pinned [.data, .data, .widerDeep, .data, .funcs] true :=
  OpenClaim.laidByTextAt_later rfl rfl tie noOwnUnsafe
end Go.Proofs.YtgigdlhcjahejaaGreatDoor
