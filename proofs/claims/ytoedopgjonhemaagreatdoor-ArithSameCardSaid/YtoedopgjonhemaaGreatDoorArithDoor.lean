/- The Arith statements' listed variables: a world in which they are laid. -/
import Derived.Test.YtoedopgjonhemaaGreatDoorLexLaidA
import Derived.Lay
namespace Go.Proofs.YtoedopgjonhemaaGreatDoor
open Go Go.RowKit Go.Lw
set_option linter.unusedVariables false
set_option maxRecDepth 100000
def laidA : List (String × DataW Unit) := [("math/bits.deBruijn32tab", Rows.laid_math_bits_deBruijn32tab), ("math/bits.deBruijn64tab", Rows.laid_math_bits_deBruijn64tab), ("internal/strconv.uint64pow10", Rows.laid_internal_strconv_uint64pow10), ("unicode/utf8.acceptRanges", Rows.laid_unicode_utf8_acceptRanges), ("strconv.ErrRange", Rows.laid_strconv_ErrRange), ("strconv.ErrSyntax", Rows.laid_strconv_ErrSyntax), ("longwire/arith.signs", Rows.laid_longwire_arith_signs), ("longwire/arith.rows", Rows.laid_longwire_arith_rows), ("longwire/arith.does", Rows.laid_longwire_arith_does), ("unicode/utf8.first", Rows.laid_unicode_utf8_first)]
def laidP : List (String × DataW Unit) := [("unicode/utf8.first", Rows.laid_unicode_utf8_first)]
noncomputable def World.doorA (os : Os) : World := (World.doorLaid Tryz.prog 400 os).layVars Tryz.prog laidP
theorem doorA_os (os : Os) : (World.doorA os).os = os := (World.layVars_os _ _ _).trans rfl
theorem doorA_met (os : Os) (args : Array Value) : laidMetH Tryz.prog laidA ((World.doorA os).forCall (fun _ _ => 0) ⟨#[], args, []⟩).memory :=
  laidMetH_of_parts3 (fuel := 8) (laidMet_of_run' 8 (by kernel_rfl) (by kernel_rfl)) (by kernel_rfl) (by kernel_rfl)
end Go.Proofs.YtoedopgjonhemaaGreatDoor
