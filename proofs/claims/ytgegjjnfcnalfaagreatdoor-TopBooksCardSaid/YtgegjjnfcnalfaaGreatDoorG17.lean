/- Of the proof of TopBooks: JD. -/
import Derived.Test.YtgegjjnfcnalfaaGreatDoorG16
namespace Go.Proofs.YtgegjjnfcnalfaaGreatDoor
open Go Go.RowKit Go.Lw
set_option maxRecDepth 100000
set_option linter.unusedVariables false
set_option linter.unusedSimpArgs false
def assocI : List (Int × Value) → Int → Option Value
  | [], _ => none
  | p :: l, s => if p.1 = s then some p.2 else assocI l s
def AtI (D : DataW Value) (l : List (Int × Value)) : Prop := ∀ (x : Int) zd, D.atKey (.int .u8 x) zd = ((assocI l x).map DataW.held).getD zd
structure FMap (W0 w : World) (P : Program) (k : TypeId) (b n : Nat) (l : List (Int × Value)) : Prop where
  owns : ∃ D : DataW Value, w.ownsMap P k RV b n D ∧ AtI D l
  new : W0.heap.size ≤ b
  kept : Kept (fun _ => False) W0 w
theorem FMap.made (W0 w : World) (P : Program) (k : TypeId) (h : Kept (fun _ => False) W0 w) : FMap W0 (w.alloc (.map #[] 0)) P k w.heap.size 0 [] :=
  ⟨⟨_, World.ownsMap_made w P k RV, fun x _ => rfl⟩, h.size, h.alloc _⟩
theorem FMap.keep {W0 w w' : World} {P : Program} {k : TypeId} {b n : Nat} {l : List (Int × Value)} (h : FMap W0 w P k b n l) (hk : Kept (fun _ => False) w w') : FMap W0 w' P k b n l := by
  obtain ⟨⟨D, h1, h2⟩, h3, h4⟩ := h
  exact ⟨⟨D, h1.kept (kept_by hk) (by simp), h2⟩, h3, h4.trans hk (fun _ _ h => h)⟩
theorem FMap.look {W0 w : World} {P : Program} {T K E : TypeId} {b n : Nat} {l : List (Int × Value)} (h : FMap W0 w P K b n l) (hK : P.underlying K = some (.int .u8)) (hT : P.underlying T = some (.map K E)) {z : Value} (hz : (zeroValue E).run P w = .ok z w) (x : Int) (hx : 0 ≤ x ∧ x ≤ 255) (v : Value) (hv : assocI l x = some v) :
    (Instr.lookup T (.map (some b)) (.int .u8 x) false).run P w = .ok v w := by
  obtain ⟨⟨D, h1, h2⟩, h3, h4⟩ := h
  obtain ⟨u, ps, hrun, hu⟩ := h1.lookup (Maps.int_keyed hK) hT hz (zd := .held z) (zp := []) rfl (Maps.keyOf_int_mk hK (WalkArith.wf_u8 hx))
  rw [h2, hv] at hu
  cases hu
  exact hrun
section
variable {P : Program} {w : World} {ops : Array Oper} {rest : List Oper} {o : Oper} {a : Act} {Q : Exit → Act → World → Prop}
theorem wpList_insert_u8 {W0 : World} (hg : o.guard = none) (m x v : Operand) (t : TypeId) (hop : o.op = Op.insert t m x v)
    (k e : TypeId) (hk : P.underlying k = some (.int .u8)) (ht : P.underlying t = some (.map k e)) (b n : Nat) (l : List (Int × Value))
    (hm : a.eval m = .map (some b)) (hown : FMap W0 w P k b n l) (hn : n < maxLen) (s : Int) (hx : a.eval x = .int .u8 s) (hs : 0 ≤ s ∧ s ≤ 255) (val : Value) (hv : a.eval v = val)
    (h : ∀ w', FMap W0 w' P k b (n + 1) ((s, val) :: l) → w.grownBy w' (some b) → wpList P ops Q rest (a.put o.dst undef) w') : wpList P ops Q (o :: rest) a w := by
  refine wpList_plain hg fun K' hK' => ?_
  obtain ⟨⟨D, h1, h2⟩, h3, h4⟩ := hown
  have hkey := Maps.keyOf_int_mk hk (WalkArith.wf_u8 hs)
  obtain ⟨w', hrun, r1, r2⟩ := h1.update (Maps.int_keyed hk) ht hn hkey (val := val) rfl
  have hkl : WideAt.IsKeyLit (.int .u8 s) := (Maps.int_keyed hk).key hkey
  have hat : AtI (D.put (.int .u8 s) (.held val)) ((s, val) :: l) := fun y zd => by
    by_cases hks : y = s
    · subst hks
      rw [Maps.atKey_put_same (isMap_of h1) hkl]
      simp [assocI]
    · rw [Maps.atKey_put_other (by intro e; cases e; exact hks rfl), h2]
      simp [assocI, Ne.symm hks]
  have hfin := hK' _ _ (h w' ⟨⟨_, r1, hat⟩, h3, kept_grown h4 r2 (fun k hk => by cases hk; exact h3)⟩ r2)
  unfold Oper.wp
  simp [execOp, hop, hm, hx, hv, hrun, Result.andThen]; exact hfin
end
def doesL : List (Int × Value) := [(6, .func (.func 74) #[] #[]), (5, .func (.func 73) #[] #[]), (4, .func (.func 72) #[] #[]), (3, .func (.func 71) #[] #[]), (2, .func (.func 70) #[] #[]), (1, .func (.func 69) #[] #[])]
set_option maxHeartbeats 4000000 in
theorem does_any (w : World) : Calls Tryz.prog 28 #[] w fun e w' => ∃ b, e = .returned (.map (some b)) ∧ FMap w w' Tryz.prog 5 b 6 doesL := by
  have hmm := @run_makeMap Tryz.prog
  have HM := Lw.hid (FMap.made w w Tryz.prog 5 (Kept.refl _ w))
  go_enter Tryz.func28, Tryz.ntmps28
  go_wp2_with (refine wpList_insert_u8 rfl _ _ _ 74 rfl 5 73 Tryz.underlying5 Tryz.underlying74 _ _ _ rfl HM.out (by decide) _ rfl (by decide) _ rfl ?_; intro w' hm _; have HM := Lw.hid hm; clear hm)
  go_ret
  exact ⟨_, rfl, HM.out⟩
end Go.Proofs.YtgegjjnfcnalfaaGreatDoor
