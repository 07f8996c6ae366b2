/- One map literal with string keys, whose inserts come in any order: what holds of the worlds on the way. Over any program. -/
import Derived.Test.YtoedopgjonhemaaGreatDoorBMap
import Derived.Test.YtoedopgjonhemaaGreatDoorSetLaw
namespace Go.Lw
open Go Go.RowKit
set_option linter.unusedVariables false
/-- The set with one more. -/
abbrev adD (D : Nat → Bool) (j : Nat) : Nat → Bool := fun k => if k = j then true else D k
theorem adD_ne {D : Nat → Bool} {j k : Nat} (h : k ≠ j) : adD D j k = D k := if_neg h
theorem adD_eq {D : Nat → Bool} {j : Nat} : adD D j j = true := if_pos rfl
structure OneM (wr : World) (P : Program) (ks : TypeId) (L : List (Nat × List UInt8 × Value)) (m : Nat) (D : Nat → Bool) (γ : Option Nat) (w : World) : Prop where
  kept : Kept (fun _ => False) wr w
  m1 : D m = true → ∃ b1, γ = some b1 ∧ SMap wr w P ks b1 (selD D L).length (selD D L)
  n1 : D m = false → γ = none ∧ ∀ p ∈ L, D p.1 = false
def oR (γ : Option Nat) (_ : World) (γ' : Option Nat) (_ : World) : Prop := ∀ b, γ = some b → γ' = some b
theorem oR_refl (γ : Option Nat) (w w' : World) : oR γ w γ w' := fun _ h => h
def gMo : StableG oR := ⟨fun v γ _ => ∃ b, v = .map (some b) ∧ γ = some b, fun v γ w γ' w' hr ⟨b, h1, h2⟩ => ⟨b, h1, hr b h2⟩⟩
variable {wr w w' : World} {P : Program} {ks : TypeId} {L : List (Nat × List UInt8 × Value)} {m : Nat} {D : Nat → Bool} {γ : Option Nat}
theorem OneM.start (hk : Kept (fun _ => False) wr w) : OneM wr P ks L m (fun _ => false) none w :=
  ⟨hk, fun h => (by cases h), fun _ => ⟨rfl, fun _ _ => rfl⟩⟩
/-- An operation that touches no map. -/
theorem OneM.pure (h : OneM wr P ks L m D γ w) {j : Nat} (hj : ∀ p ∈ L, p.1 ≠ j) (hm : m ≠ j) : OneM wr P ks L m (adD D j) γ w := by
  have hs : selD (adD D j) L = selD D L := selD_other fun p hp => adD_ne (hj p hp)
  refine ⟨h.kept, fun h0 => ?_, fun h0 => ?_⟩
  · rw [adD_ne hm] at h0; rw [hs]; exact h.m1 h0
  · rw [adD_ne hm] at h0; obtain ⟨r1, r2⟩ := h.n1 h0; exact ⟨r1, fun p hp => by rw [adD_ne (hj p hp)]; exact r2 p hp⟩
theorem OneM.make (h : OneM wr P ks L m D γ w) (hm : ∀ p ∈ L, p.1 ≠ m) (h0 : D m = false) : OneM wr P ks L m (adD D m) (some w.heap.size) (w.alloc (.map #[] 0)) := by
  have hs : selD (adD D m) L = selD D L := selD_other fun p hp => adD_ne (hm p hp)
  obtain ⟨r1, r2⟩ := h.n1 h0
  refine ⟨h.kept.alloc _, fun _ => ⟨_, rfl, ?_⟩, fun h2 => ?_⟩
  · rw [hs, selD_none D _ r2]; exact SMap.made wr w P ks h.kept
  · rw [adD_eq] at h2; cases h2
theorem OneM.ins (h : OneM wr P ks L m D γ w) {j : Nat} {k : List UInt8} {v : Value} (n1 : (L.map (fun p => p.1)).Nodup) (n2 : (L.map (fun p => p.2.1)).Nodup) (hp : (j, k, v) ∈ L) (hmj : m ≠ j) (h0 : D m = true) (hj : D j = false) {b1 : Nat} (hb1 : γ = some b1) (hm : SMap wr w' P ks b1 ((selD D L).length + 1) ((k, v) :: selD D L)) : OneM wr P ks L m (adD D j) γ w' := by
  obtain ⟨s1, s2⟩ := selD_step (D := D) (D' := adD D j) n1 n2 hp hj adD_eq (fun i hi => (adD_ne hi).symm)
  refine ⟨hm.kept, fun _ => ⟨b1, hb1, ?_⟩, fun h2 => ?_⟩
  · rw [s2]; exact hm.same s1
  · rw [adD_ne hmj, h0] at h2; cases h2
theorem selD_len (D : Nat → Bool) (L : List (Nat × List UInt8 × Value)) : (selD D L).length ≤ L.length := by
  unfold selD; rw [List.length_map]; exact List.length_filter_le _ _
theorem selD_all {D : Nat → Bool} {L : List (Nat × List UInt8 × Value)} (h : ∀ p ∈ L, D p.1 = true) : selD D L = L.map Prod.snd := by
  unfold selD
  rw [List.filter_eq_self.2 (fun p hp => h p hp)]
end Go.Lw
