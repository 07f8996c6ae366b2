/- The wrap of a row with listed variables that hands on the world's shape; MaxLen out of it. -/
import Derived.Test.YtoedopgjonhemaaGreatDoorRows
import Derived.Test.YtoedopgjonhemaaGreatDoorTie
import Derived.Test.YtoedopgjonhemaaGreatDoorArith11
import Derived.Lib.LaidTab
import Derived.Shelf.Vars
import Derived.ProofKit
import Derived.LaidMore
import Derived.OpenShut
import Derived.Stop.Joined
import Derived.ShutString
import Derived.ChangeOld
import Derived.ChangeSame
namespace Go.Proofs.YtoedopgjonhemaaGreatDoor
open Go Go.RowKit Go.Lw
set_option linter.unusedVariables false
/-- The wrap of a row with a condition on variables, which hands on the world's shape too. -/
theorem wrap_and_shaped {H : Type} {enc : TypeId × Value → H} {a : Assume} {C : Checked} {os : Os} {f : FuncId} {fn : Func} {s : ChangeSpec} {conds : List PathCond} {apart fresh handsOn again : Bool} {X : World → Array Value → Prop}
    (hX : ∀ (w w' : World) (args : Array Value), w.heap = w'.heap → X w args → X w' args)
    (own : ownKnob C.prog.godebug = none) (started : os.Started) (noInit : C.prog.inits.idxOf? f = none) (hfn : C.prog.funcs[f]? = some fn)
    (witness : ∃ (w : World) (tape : Tape) (i : Input), w.os = os ∧ (w.forCall tape i).Shaped C.prog ∧ i.vars = [] ∧ Input.okWide C.prog (w.forCall tape i) .any w.heap.size f i ∧
      ((s.pre enc C.prog fn conds apart (w.forCall tape i).memory i.args ∧ X (w.forCall tape i).memory i.args) ∧ sizedMet enc C.prog fn (OpenSpec.ofChange s) apart (w.forCall tape i).memory i.args) ∧ a.holds C.prog (lone (Frame.enter C.prog f i.args .normal) [] (w.forCall tape i)))
    (contract : ∀ (W : World) (base : Nat) (args : Array Value) (ds gs : List (DataW H)) (before : List MemPlace),
      (∀ (j : Nat) t v, fn.params[j]? = some t → args[j]? = some v → Value.okWide C.prog W .any base t v) →
      DataW.Whole enc C.prog fn.params.toList s.vars apart W args.toList ds gs before → X W args → W.ShapedOpen C.prog →
      Calls C.prog f args W fun e W' => ∃ v, e = .returned v ∧ s.post enc C.prog fn apart fresh handsOn again W args v W') :
    ReturnsInHanded a C os f .any (fun w args => (s.pre enc C.prog fn conds apart w args ∧ X w args) ∧ sizedMet enc C.prog fn (OpenSpec.ofChange s) apart w args) (s.post enc C.prog fn apart fresh handsOn again) := by
  refine returnsInHanded_of_calls own started noInit witness fun w tape i _ hsh _ hok hpre _ => ?_
  obtain ⟨_, _, _, fn1, hfn1, _, _, _, _, hval⟩ := hok
  cases Option.some.inj (hfn1.symm.trans hfn)
  obtain ⟨⟨⟨ds, gs, before, hw, _⟩, hx⟩, _⟩ := hpre
  refine (contract (w.forCall tape i) w.heap.size i.args ds gs before hval (DataW.Whole.of_heap (w' := w.forCall tape i) (by rfl) hw) (hX _ _ _ (by rfl) hx) hsh).mono fun e W' h => ?_
  obtain ⟨v, he, hp⟩ := h
  cases he
  exact ChangeSpec.post_blind hp
theorem own : ownKnob Tryz.prog.godebug = none := by kernel_rfl
theorem laidOut : laidOutB Tryz.prog = true := by kernel_rfl
theorem chunks {α : Type} (m : Nat) : ∀ (n : Nat) (a b : List α), a.length = n * m → b.length = n * m → (∀ i, i < n → (a.drop (i * m)).take m = (b.drop (i * m)).take m) → a = b
  | 0, a, b, ha, hb, _ => by
    rw [Nat.zero_mul] at ha hb
    rw [List.length_eq_zero_iff.1 ha, List.length_eq_zero_iff.1 hb]
  | n + 1, a, b, ha, hb, h => by
    rw [Nat.succ_mul] at ha hb
    have h0 := h 0 (by omega)
    rw [Nat.zero_mul, List.drop_zero, List.drop_zero] at h0
    rw [← List.take_append_drop m a, ← List.take_append_drop m b, h0]
    congr 1
    refine chunks m n _ _ (by rw [List.length_drop]; omega) (by rw [List.length_drop]; omega) (fun i hi => ?_)
    have := h (i + 1) (by omega)
    rw [Nat.succ_mul] at this
    rw [List.drop_drop, List.drop_drop, Nat.add_comm m]
    exact this
theorem two_of {α : Type} : ∀ {l : List α}, l.length = 2 → ∃ a b, l = [a, b]
  | [a, b], _ => ⟨a, b, rfl⟩
theorem maxLen_of {W : World} (h : W.ShapedOpen Tryz.prog) : ∃ m, W.cell? ⟨7, 0, none⟩ = some (.int .i64 m) :=
  cell_of_shapedOpen_int (g := 7) (t := 3) (zero := #[.int .i64 0]) h (of_decide_eq_true (by kernel_rfl)) (by kernel_rfl) rfl (by kernel_rfl) (by kernel_rfl) Tryz.underlying3
end Go.Proofs.YtoedopgjonhemaaGreatDoor
