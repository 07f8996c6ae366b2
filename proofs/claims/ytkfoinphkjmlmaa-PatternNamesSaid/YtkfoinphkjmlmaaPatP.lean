/- Patterns, plain: a set; the pieces. -/
import Derived.Test.YtkfoinphkjmlmaaPat
import Derived.Test.YtkfoinphkjmlmaaPatStr
namespace Go.Proofs.Ytkfoinphkjmlmaa
open Go Go.RowKit Go.Lw
/-- One range of a set: its ends, and what is left. -/
def itemF (c : UInt8) (l : List UInt8) : UInt8 × UInt8 × List UInt8 :=
  match (takenF c l).2 with
  | d :: e :: r => if d.toNat = 45 ∧ ¬ e.toNat = 93 then ((takenF c l).1, takenF e r) else ((takenF c l).1, (takenF c l).1, d :: e :: r)
  | r => ((takenF c l).1, (takenF c l).1, r)
theorem itemF_len (c : UInt8) (l : List UInt8) : (itemF c l).2.2.length ≤ l.length := by
  have h := takenF_len c l
  unfold itemF
  split
  · rename_i d e r he
    rw [he] at h
    split
    · have := takenF_len e r
      simp at h; simp only; omega
    · exact h
  · exact h
def addR (f : Nat → Bool) (a b : Nat) : Nat → Bool := fun i => f i || (decide (a ≤ i) && decide (i ≤ b))
/-- A set's ranges: which bytes, and what is left (nothing: there is no bracket). -/
def setF : Nat → Bool → List UInt8 → (Nat → Bool) → (Nat → Bool) × List UInt8
  | 0, _, l, f => (f, l)
  | n + 1, first, l, f => match l with
    | [] => (f, [])
    | c :: l => if first = false ∧ c.toNat = 93 then (f, c :: l) else setF n false (itemF c l).2.2 (addR f (itemF c l).1.toNat (itemF c l).2.1.toNat)
theorem setF_len : ∀ (n : Nat) (first : Bool) (l : List UInt8) (f : Nat → Bool), (setF n first l f).2.length ≤ l.length
  | 0, _, _, _ => Nat.le_refl _
  | n + 1, first, l, f => by
    unfold setF
    split
    · exact Nat.le_refl _
    · rename_i c l
      split
      · exact Nat.le_refl _
      · have h1 := setF_len n false (itemF c l).2.2 (addR f (itemF c l).1.toNat (itemF c l).2.1.toNat)
        have h2 := itemF_len c l
        simp; omega
/-- More rounds turn nothing. -/
theorem setF_more : ∀ (n : Nat) (first : Bool) (l : List UInt8) (f : Nat → Bool), l.length ≤ n → setF (n + 1) first l f = setF n first l f
  | 0, first, l, f, h => by
    obtain rfl : l = [] := List.eq_nil_of_length_eq_zero (by omega)
    rfl
  | n + 1, first, l, f, h => by
    conv => lhs; unfold setF
    conv => rhs; unfold setF
    split
    · rfl
    · rename_i c l
      split
      · rfl
      · exact setF_more n false _ _ (by have := itemF_len c l; simp at h; omega)
theorem setF_fuel (n m : Nat) (first : Bool) (l : List UInt8) (f : Nat → Bool) (hn : l.length ≤ n) (hm : n ≤ m) : setF m first l f = setF n first l f := by
  induction m with
  | zero => rw [show n = 0 by omega]
  | succ m ih =>
    by_cases h : n ≤ m
    · rw [setF_more m first l f (by omega), ih h]
    · rw [show n = m + 1 by omega]
def noneF : Nat → Bool := fun _ => false
/-- A set behind its bracket. -/
def closedF (p : List UInt8) : Option ((Nat → Bool) × List UInt8) :=
  match (setF (cutpF p [33]).1.length true (cutpF p [33]).1 noneF).2 with
  | [] => none
  | _ :: r => some ((fun i => (cutpF p [33]).2 != (setF (cutpF p [33]).1.length true (cutpF p [33]).1 noneF).1 i), r)
end Go.Proofs.Ytkfoinphkjmlmaa
