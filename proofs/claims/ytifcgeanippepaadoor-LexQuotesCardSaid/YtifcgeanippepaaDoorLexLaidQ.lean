/- What the listed variables of LexTiles and LexQuotes give the walks: lex's operators (the tables of utf8 are listed, and not read). -/
import Derived.Test.YtifcgeanippepaaDoorLexLaid
import Derived.Lay
namespace Go.Proofs.YtifcgeanippepaaDoor
open Go Go.RowKit Go.Lw
def laidQ : List (String × DataW Unit) := [("unicode/utf8.acceptRanges", Rows.laid_unicode_utf8_acceptRanges), ("longwire/lex.operators", Rows.laid_longwire_lex_operators), ("unicode/utf8.first", Rows.laid_unicode_utf8_first)]
theorem env_ofQ {W : World} (h : laidMetH Tryd.prog laidQ W) (hs : W.ShapedOpen Tryd.prog) : LEnv W := by
  rw [MakeChecks.laidMetH_plain _ _ _ (by kernel_rfl)] at h
  obtain ⟨ps, ⟨_, _, _, _, _, _, _, _, _, _, ⟨g, t, cs, fuel, p, q, hg, ht, hvar, hd, _, _⟩, _⟩, _⟩ := h
  obtain rfl := Option.some.inj (gOps.symm.trans hg)
  obtain rfl := Option.some.inj (tOps.symm.trans ht)
  exact ⟨opers_of hvar (ops_of hd), maxLen_of hs⟩
end Go.Proofs.YtifcgeanippepaaDoor
