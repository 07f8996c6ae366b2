/- What the listed variables of the Word statements give the walks: lex's operators, word's ends. -/
import Derived.Test.YtifcgeanippepaaDoorLexLaid
import Derived.Test.YtifcgeanippepaaDoorWord4
namespace Go.Proofs.YtifcgeanippepaaDoor
open Go Go.RowKit Go.Lw
set_option linter.unusedVariables false
theorem gEnds : Tryd.prog.globalNamed "longwire/word.ends" = some 1 := by kernel_rfl
theorem tEnds : (Tryd.prog.globals[1]?).map (·.type) = some 125 := by kernel_rfl
theorem laid_ends : (Rows.laid_longwire_word_ends : DataW Unit) = .agg [.lit (.string []), .lit (.string [34]), .lit (.string [125])] := rfl
def endsC : Array Value := #[.string ⟨#[]⟩, .string ⟨#[34]⟩, .string ⟨#[125]⟩]
theorem ends_of {enc : TypeId × Value → Unit} {w : World} {base : Nat} {sp : Nat → Bool} {held : Bool} {fuel : Nat} {cs : List Value} {p : List MemPlace}
    (h : DataW.trod enc Tryd.prog w base sp held fuel 125 cs = some (Rows.laid_longwire_word_ends, p)) : cs = endsC.toList := by
  obtain ⟨xs, m, rfl, hx, hl, hn, hel⟩ := DataW.trod_array Tryd.underlying125 h
  rw [show Tryd.prog.cellsOf 125 = 3 by kernel_rfl] at hl
  rw [laid_ends] at hx
  simp only [Prod.mk.injEq, DataW.agg.injEq] at hx
  refine chunks 1 3 cs _ hl rfl fun i hi => ?_
  have h1 := hel i hi
  rw [show Tryd.prog.cellsOf 9 = 1 by kernel_rfl] at h1
  obtain ⟨x, hxi⟩ : ∃ x, xs[i]? = some x := ⟨_, List.getElem?_eq_getElem (by rw [hn]; exact hi)⟩
  rw [hxi] at h1
  have h2 : ([DataW.lit (.string []), .lit (.string [34]), .lit (.string [125])] : List (DataW Unit))[i]? = some x.1 := by rw [hx.1, List.getElem?_map, hxi]; rfl
  obtain ⟨x1, x2⟩ := x
  obtain ⟨s1, e1, r1, _⟩ := DataW.trod_string Tryd.underlying9 h1
  rw [e1]
  simp only [Prod.mk.injEq] at r1
  have r2 := r1.1
  rcases (by omega : i = 0 ∨ i = 1 ∨ i = 2) with rfl | rfl | rfl
  all_goals
    simp only [List.getElem?_cons_zero, List.getElem?_cons_succ, Option.some.injEq] at h2
    rw [← h2] at r2
    simp only [DataW.lit.injEq, Lit.string.injEq] at r2
    have e : s1 = BA s1.data.toList := BA_of s1
    rw [e, ← r2]
    rfl
theorem ends_laid {W : World} {cs : Array Value} (hv : W.var? Tryd.prog "longwire/word.ends" = some cs) (hc : cs.toList = endsC.toList) : ∃ (t : TypeId) (fr : Nat × Nat), W.heap[1]? = some (.cells #[.string ⟨#[]⟩, .string ⟨#[34]⟩, .string ⟨#[125]⟩] t fr) := by
  unfold World.var? at hv
  rw [gEnds] at hv
  simp only [Option.bind_some] at hv
  have e : cs = endsC := Array.toList_inj.1 hc
  subst e
  split at hv
  · rename_i c t fr heq
    cases hv
    exact ⟨t, fr, heq⟩
  · cases hv
def laidW : List (String × DataW Unit) := [("longwire/lex.operators", Rows.laid_longwire_lex_operators), ("longwire/word.ends", Rows.laid_longwire_word_ends)]
theorem door_metW (os : Os) (args : Array Value) : laidMetH Tryd.prog laidW ((World.doorLaid Tryd.prog 400 os).forCall (fun _ _ => 0) ⟨#[], args, []⟩).memory :=
  laidMetH_of_parts3 (fuel := 8) (laidMet_of_run' 8 (by kernel_rfl) (by kernel_rfl)) (by kernel_rfl) (by kernel_rfl)
theorem env_ofW {W : World} (h : laidMetH Tryd.prog laidW W) (hs : W.ShapedOpen Tryd.prog) : WEnv W := by
  rw [MakeChecks.laidMetH_plain _ _ _ (by kernel_rfl)] at h
  obtain ⟨ps, ⟨g, t, cs, fuel, p, q, hg, ht, hvar, hd, ⟨g2, t2, cs2, fuel2, p2, q2, hg2, ht2, hvar2, hd2, _, _⟩, _⟩, _⟩ := h
  obtain rfl := Option.some.inj (gOps.symm.trans hg)
  obtain rfl := Option.some.inj (tOps.symm.trans ht)
  obtain rfl := Option.some.inj (gEnds.symm.trans hg2)
  obtain rfl := Option.some.inj (tEnds.symm.trans ht2)
  exact ⟨⟨opers_of hvar (ops_of hd), maxLen_of hs⟩, ends_laid hvar2 (ends_of hd2)⟩
end Go.Proofs.YtifcgeanippepaaDoor
