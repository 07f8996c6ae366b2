/- What the listed variable (lex's operators) and the world's shape give the walks. -/
import Derived.Test.YtifcgeanippepaaDoorRows
import Derived.Test.YtifcgeanippepaaDoorTie
import Derived.Test.YtifcgeanippepaaDoorLex2M
import Derived.Lib.LaidTab
import Derived.Shelf.Vars
import Derived.ProofKit
import Derived.LaidMore
import Derived.OpenShut
import Derived.Stop.Joined
import Derived.ShutString
import Derived.ChangeOld
import Derived.ChangeSame
import Derived.Test.YtifcgeanippepaaDoorWord4M
namespace Go.Proofs.YtifcgeanippepaaDoor
open Go Go.RowKit Go.Lw
set_option linter.unusedVariables false
/-- The wrap of a row with a condition on variables, which hands on the world's shape too. -/
theorem wrap_and_shaped {H : Type} {enc : TypeId × Value → H} {a : Assume} {C : Checked} {os : Os} {f : FuncId} {fn : Func} {s : ChangeSpec} {conds : List PathCond} {apart fresh handsOn again : Bool} {X : World → Array Value → Prop}
    (hX : ∀ (w w' : World) (args : Array Value), w.heap = w'.heap → X w args → X w' args)
    (own : ownKnob C.prog.godebug = none) (started : os.Started) (noInit : C.prog.inits.idxOf? f = none) (hfn : C.prog.funcs[f]? = some fn)
    (witness : ∃ (w : World) (tape : Tape) (i : Input), w.os = os ∧ (w.forCall tape i).Shaped C.prog ∧ i.vars = [] ∧ Input.okWide C.prog (w.forCall tape i) .any w.heap.size f i ∧
      ((s.pre enc C.prog fn conds apart (w.forCall tape i).memory i.args ∧ X (w.forCall tape i).memory i.args) ∧ sizedMet enc C.prog fn (OpenSpec.ofChange s) apart (w.forCall tape i).memory i.args) ∧ a.holds C.prog (lone (Frame.enter C.prog f i.args .normal) [] (w.forCall tape i)))
    (contract : ∀ (W : World) (base : Nat) (args : Array Value) (ds gs : List (DataW H)) (before : List MemPlace),
      (∀ (j : Nat) t v, fn.params[j]? = some t → args[j]? = some v → Value.okWide C.prog W .any base t v) →
      DataW.Whole enc C.prog fn.params.toList s.vars apart W args.toList ds gs before → X W args → W.ShapedOpen C.prog →
      Calls C.prog f args W fun e W' => ∃ v, e = .returned v ∧ s.post enc C.prog fn apart fresh handsOn again W args v W') :
    ReturnsInHanded a C os f .any (fun w args => (s.pre enc C.prog fn conds apart w args ∧ X w args) ∧ sizedMet enc C.prog fn (OpenSpec.ofChange s) apart w args) (s.post enc C.prog fn apart fresh handsOn again) := by
  refine returnsInHanded_of_calls own started noInit witness fun w tape i _ hsh _ hok hpre _ => ?_
  obtain ⟨_, _, _, fn1, hfn1, _, _, _, _, hval⟩ := hok
  cases Option.some.inj (hfn1.symm.trans hfn)
  obtain ⟨⟨⟨ds, gs, before, hw, _⟩, hx⟩, _⟩ := hpre
  refine (contract (w.forCall tape i) w.heap.size i.args ds gs before hval (DataW.Whole.of_heap (w' := w.forCall tape i) (by rfl) hw) (hX _ _ _ (by rfl) hx) hsh).mono fun e W' h => ?_
  obtain ⟨v, he, hp⟩ := h
  cases he
  exact ChangeSpec.post_blind hp
theorem own : ownKnob Tryd.prog.godebug = none := by kernel_rfl
theorem laidOut : laidOutB Tryd.prog = true := by kernel_rfl
theorem gOps : Tryd.prog.globalNamed "longwire/lex.operators" = some 0 := by kernel_rfl
theorem tOps : (Tryd.prog.globals[0]?).map (·.type) = some 117 := by kernel_rfl
theorem chunks {α : Type} (m : Nat) : ∀ (n : Nat) (a b : List α), a.length = n * m → b.length = n * m → (∀ i, i < n → (a.drop (i * m)).take m = (b.drop (i * m)).take m) → a = b
  | 0, a, b, ha, hb, _ => by
    rw [Nat.zero_mul] at ha hb
    rw [List.length_eq_zero_iff.1 ha, List.length_eq_zero_iff.1 hb]
  | n + 1, a, b, ha, hb, h => by
    rw [Nat.succ_mul] at ha hb
    have h0 := h 0 (by omega)
    rw [Nat.zero_mul, List.drop_zero, List.drop_zero] at h0
    rw [← List.take_append_drop m a, ← List.take_append_drop m b, h0]
    congr 1
    refine chunks m n _ _ (by rw [List.length_drop]; omega) (by rw [List.length_drop]; omega) (fun i hi => ?_)
    have := h (i + 1) (by omega)
    rw [Nat.succ_mul] at this
    rw [List.drop_drop, List.drop_drop, Nat.add_comm m]
    exact this
def opD (o : Nat × List UInt8) : DataW Unit := .agg [.lit (.int .i64 (o.1 : Int)), .lit (.string o.2)]
theorem laid_ops : (Rows.laid_longwire_lex_operators : DataW Unit) = .agg (opsL.map opD) := rfl
theorem two_of {α : Type} : ∀ {l : List α}, l.length = 2 → ∃ a b, l = [a, b]
  | [a, b], _ => ⟨a, b, rfl⟩
theorem op_cells {enc : TypeId × Value → Unit} {w : World} {base : Nat} {sp : Nat → Bool} {held : Bool} {fuel : Nat} {cs : List Value} {o : Nat × List UInt8} {p : List MemPlace}
    (h : DataW.trod enc Tryd.prog w base sp held fuel 78 cs = some (opD o, p)) : cs = [.int .i64 (o.1 : Int), .string (BA o.2)] := by
  obtain ⟨y0, y1, n, hx, hl, h0, h1⟩ := Go.ChangeShapes.trod_struct2 Tryd.underlying78 h
  rw [show Tryd.prog.cellsOf 78 = 2 by kernel_rfl] at hl
  obtain ⟨a, b, rfl⟩ := two_of hl
  obtain ⟨n0, e0, r0, _⟩ := DataW.trod_int Tryd.underlying3 h0
  obtain ⟨s1, e1, r1, _⟩ := DataW.trod_string Tryd.underlying9 h1
  rw [show Tryd.prog.cellsOf 3 = 1 by kernel_rfl] at e0
  rw [show Tryd.prog.cellsOf 9 = 1 by kernel_rfl] at e1
  simp at e0 e1
  subst e0; subst e1
  rw [r0, r1] at hx
  simp only [opD, Prod.mk.injEq, DataW.agg.injEq, List.cons.injEq, DataW.lit.injEq, Lit.int.injEq, Lit.string.injEq, true_and, and_true] at hx
  obtain ⟨⟨hx0, hx1⟩, _⟩ := hx
  rw [hx0, hx1]
  rfl
theorem ops_chunk (i : Nat) (hi : i < 18) : (opsC.toList.drop (i * 2)).take 2 = [.int .i64 ((opAt i).1 : Int), .string (BA (opAt i).2)] := by
  have h : i = 0 ∨ i = 1 ∨ i = 2 ∨ i = 3 ∨ i = 4 ∨ i = 5 ∨ i = 6 ∨ i = 7 ∨ i = 8 ∨ i = 9 ∨ i = 10 ∨ i = 11 ∨ i = 12 ∨ i = 13 ∨ i = 14 ∨ i = 15 ∨ i = 16 ∨ i = 17 := by omega
  rcases h with rfl | rfl | rfl | rfl | rfl | rfl | rfl | rfl | rfl | rfl | rfl | rfl | rfl | rfl | rfl | rfl | rfl | rfl <;> rfl
theorem ops_of {enc : TypeId × Value → Unit} {w : World} {base : Nat} {sp : Nat → Bool} {held : Bool} {fuel : Nat} {cs : List Value} {p : List MemPlace}
    (h : DataW.trod enc Tryd.prog w base sp held fuel 117 cs = some (Rows.laid_longwire_lex_operators, p)) : cs = opsC.toList := by
  obtain ⟨xs, m, rfl, hx, hl, hn, hel⟩ := DataW.trod_array Tryd.underlying117 h
  rw [show Tryd.prog.cellsOf 117 = 36 by kernel_rfl] at hl
  rw [laid_ops] at hx
  simp only [Prod.mk.injEq, DataW.agg.injEq] at hx
  refine chunks 2 18 cs _ hl rfl fun i hi => ?_
  rw [ops_chunk i hi]
  have h1 := hel i hi
  rw [show Tryd.prog.cellsOf 78 = 2 by kernel_rfl] at h1
  obtain ⟨x, hxi⟩ : ∃ x, xs[i]? = some x := ⟨_, List.getElem?_eq_getElem (by rw [hn]; exact hi)⟩
  rw [hxi] at h1
  have h2 : (opsL.map opD)[i]? = some x.1 := by rw [hx.1, List.getElem?_map, hxi]; rfl
  rw [List.getElem?_map] at h2
  have h3 : opsL[i]? = some (opAt i) := by
    unfold opAt
    rw [List.getD_eq_getElem?_getD, List.getElem?_eq_getElem (show i < opsL.length from hi)]
    rfl
  rw [h3] at h2
  obtain ⟨x1, x2⟩ := x
  cases Option.some.inj h2
  exact op_cells h1
theorem opers_of {W : World} {cs : Array Value} (hv : W.var? Tryd.prog "longwire/lex.operators" = some cs) (hc : cs.toList = opsC.toList) : Opers W := by
  unfold World.var? at hv
  rw [gOps] at hv
  simp only [Option.bind_some] at hv
  have e : cs = opsC := Array.toList_inj.1 hc
  subst e
  split at hv
  · rename_i c t fr heq
    cases hv
    exact ⟨t, fr, heq⟩
  · cases hv
theorem maxLen_of {W : World} (h : W.ShapedOpen Tryd.prog) : ∃ m, W.cell? ⟨2, 0, none⟩ = some (.int .i64 m) :=
  cell_of_shapedOpen_int (g := 2) (t := 3) (zero := #[.int .i64 0]) h (of_decide_eq_true (by kernel_rfl)) (by kernel_rfl) rfl (by kernel_rfl) (by kernel_rfl) Tryd.underlying3
def laidO : List (String × DataW Unit) := [("longwire/lex.operators", Rows.laid_longwire_lex_operators)]
theorem door_metO (os : Os) (args : Array Value) : laidMetH Tryd.prog laidO ((World.doorLaid Tryd.prog 400 os).forCall (fun _ _ => 0) ⟨#[], args, []⟩).memory :=
  laidMetH_of_parts3 (fuel := 8) (laidMet_of_run' 8 (by kernel_rfl) (by kernel_rfl)) (by kernel_rfl) (by kernel_rfl)
theorem env_ofO {W : World} (h : laidMetH Tryd.prog laidO W) (hs : W.ShapedOpen Tryd.prog) : LEnv W := by
  rw [MakeChecks.laidMetH_plain _ _ _ (by kernel_rfl)] at h
  obtain ⟨ps, ⟨g, t, cs, fuel, p, q, hg, ht, hvar, hd, _, _⟩, _⟩ := h
  obtain rfl := Option.some.inj (gOps.symm.trans hg)
  obtain rfl := Option.some.inj (tOps.symm.trans ht)
  exact ⟨opers_of hvar (ops_of hd), maxLen_of hs⟩
end Go.Proofs.YtifcgeanippepaaDoor
/- What the listed variables of the Word statements give the walks: lex's operators, word's ends. -/
namespace Go.Proofs.YtifcgeanippepaaDoor
open Go Go.RowKit Go.Lw
set_option linter.unusedVariables false
theorem gEnds : Tryd.prog.globalNamed "longwire/word.ends" = some 1 := by kernel_rfl
theorem tEnds : (Tryd.prog.globals[1]?).map (·.type) = some 125 := by kernel_rfl
theorem laid_ends : (Rows.laid_longwire_word_ends : DataW Unit) = .agg [.lit (.string []), .lit (.string [34]), .lit (.string [125])] := rfl
def endsC : Array Value := #[.string ⟨#[]⟩, .string ⟨#[34]⟩, .string ⟨#[125]⟩]
theorem ends_of {enc : TypeId × Value → Unit} {w : World} {base : Nat} {sp : Nat → Bool} {held : Bool} {fuel : Nat} {cs : List Value} {p : List MemPlace}
    (h : DataW.trod enc Tryd.prog w base sp held fuel 125 cs = some (Rows.laid_longwire_word_ends, p)) : cs = endsC.toList := by
  obtain ⟨xs, m, rfl, hx, hl, hn, hel⟩ := DataW.trod_array Tryd.underlying125 h
  rw [show Tryd.prog.cellsOf 125 = 3 by kernel_rfl] at hl
  rw [laid_ends] at hx
  simp only [Prod.mk.injEq, DataW.agg.injEq] at hx
  refine chunks 1 3 cs _ hl rfl fun i hi => ?_
  have h1 := hel i hi
  rw [show Tryd.prog.cellsOf 9 = 1 by kernel_rfl] at h1
  obtain ⟨x, hxi⟩ : ∃ x, xs[i]? = some x := ⟨_, List.getElem?_eq_getElem (by rw [hn]; exact hi)⟩
  rw [hxi] at h1
  have h2 : ([DataW.lit (.string []), .lit (.string [34]), .lit (.string [125])] : List (DataW Unit))[i]? = some x.1 := by rw [hx.1, List.getElem?_map, hxi]; rfl
  obtain ⟨x1, x2⟩ := x
  obtain ⟨s1, e1, r1, _⟩ := DataW.trod_string Tryd.underlying9 h1
  rw [e1]
  simp only [Prod.mk.injEq] at r1
  have r2 := r1.1
  rcases (by omega : i = 0 ∨ i = 1 ∨ i = 2) with rfl | rfl | rfl
  all_goals
    simp only [List.getElem?_cons_zero, List.getElem?_cons_succ, Option.some.injEq] at h2
    rw [← h2] at r2
    simp only [DataW.lit.injEq, Lit.string.injEq] at r2
    have e : s1 = BA s1.data.toList := BA_of s1
    rw [e, ← r2]
    rfl
theorem ends_laid {W : World} {cs : Array Value} (hv : W.var? Tryd.prog "longwire/word.ends" = some cs) (hc : cs.toList = endsC.toList) : ∃ (t : TypeId) (fr : Nat × Nat), W.heap[1]? = some (.cells #[.string ⟨#[]⟩, .string ⟨#[34]⟩, .string ⟨#[125]⟩] t fr) := by
  unfold World.var? at hv
  rw [gEnds] at hv
  simp only [Option.bind_some] at hv
  have e : cs = endsC := Array.toList_inj.1 hc
  subst e
  split at hv
  · rename_i c t fr heq
    cases hv
    exact ⟨t, fr, heq⟩
  · cases hv
def laidW : List (String × DataW Unit) := [("longwire/lex.operators", Rows.laid_longwire_lex_operators), ("longwire/word.ends", Rows.laid_longwire_word_ends)]
theorem door_metW (os : Os) (args : Array Value) : laidMetH Tryd.prog laidW ((World.doorLaid Tryd.prog 400 os).forCall (fun _ _ => 0) ⟨#[], args, []⟩).memory :=
  laidMetH_of_parts3 (fuel := 8) (laidMet_of_run' 8 (by kernel_rfl) (by kernel_rfl)) (by kernel_rfl) (by kernel_rfl)
theorem env_ofW {W : World} (h : laidMetH Tryd.prog laidW W) (hs : W.ShapedOpen Tryd.prog) : WEnv W := by
  rw [MakeChecks.laidMetH_plain _ _ _ (by kernel_rfl)] at h
  obtain ⟨ps, ⟨g, t, cs, fuel, p, q, hg, ht, hvar, hd, ⟨g2, t2, cs2, fuel2, p2, q2, hg2, ht2, hvar2, hd2, _, _⟩, _⟩, _⟩ := h
  obtain rfl := Option.some.inj (gOps.symm.trans hg)
  obtain rfl := Option.some.inj (tOps.symm.trans ht)
  obtain rfl := Option.some.inj (gEnds.symm.trans hg2)
  obtain rfl := Option.some.inj (tEnds.symm.trans ht2)
  exact ⟨⟨opers_of hvar (ops_of hd), maxLen_of hs⟩, ends_laid hvar2 (ends_of hd2)⟩
end Go.Proofs.YtifcgeanippepaaDoor
