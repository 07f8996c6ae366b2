/- package pattern: pieces. -/
import Derived.Test.YtkfoinphkjmlmaaClosed
import Derived.Deep.RegionHeld3
namespace Go.Proofs.Ytkfoinphkjmlmaa
open Go Go.RowKit Go.Lw
set_option maxRecDepth 100000
set_option linter.unusedVariables false
attribute [local go_sem] BA_toList
/-- A piece: any bytes, or one of a set. -/
structure Pc where
  any : Bool
  own : Bool
  f : Nat → Bool
/-- The piece at the front, and what is left. -/
def pieceF (c : UInt8) (l : List UInt8) : Pc × List UInt8 :=
  if c.toNat = 42 then (⟨true, false, noneF⟩, l)
  else if c.toNat = 63 then (⟨false, false, fun _ => true⟩, l)
  else match (if c.toNat = 91 then closedF l else none) with
    | some (f, r) => (⟨false, false, f⟩, r)
    | none => (⟨false, true, fun i => if i = (takenF c l).1.toNat then true else false⟩, (takenF c l).2)
theorem closedF_len {p : List UInt8} {f : Nat → Bool} {r : List UInt8} (h : closedF p = some (f, r)) : r.length ≤ p.length := by
  unfold closedF at h
  have h1 := setF_len (cutpF p [33]).1.length true (cutpF p [33]).1 noneF
  have h2 : (cutpF p [33]).1.length ≤ p.length := by unfold cutpF; split <;> simp
  split at h
  · cases h
  · rename_i c r' he
    rw [he] at h1
    simp at h h1
    rw [← h.2]; omega
theorem pieceF_len (c : UInt8) (l : List UInt8) : (pieceF c l).2.length ≤ l.length := by
  unfold pieceF
  split
  · exact Nat.le_refl _
  · split
    · exact Nat.le_refl _
    · split
      · rename_i f r he
        split at he
        · exact closedF_len he
        · cases he
      · exact takenF_len c l
/-- A pattern's pieces. -/
def piecesF : Nat → List UInt8 → List Pc
  | 0, _ => []
  | _, [] => []
  | n + 1, c :: l => (pieceF c l).1 :: piecesF n (pieceF c l).2
theorem piecesF_fuel : ∀ (n m : Nat) (l : List UInt8), l.length ≤ n → l.length ≤ m → piecesF n l = piecesF m l
  | 0, m, l, h, _ => by
    obtain rfl : l = [] := List.eq_nil_of_length_eq_zero (by omega)
    cases m <;> rfl
  | n + 1, 0, l, _, h => by
    obtain rfl : l = [] := List.eq_nil_of_length_eq_zero (by omega)
    rfl
  | n + 1, m + 1, l, hn, hm => by
    cases l with
    | nil => rfl
    | cons c l =>
      have := pieceF_len c l
      show _ :: piecesF n (pieceF c l).2 = _ :: piecesF m (pieceF c l).2
      rw [piecesF_fuel n m _ (by simp at hn; omega) (by simp at hm; omega)]
/-- A piece in memory: the block of its set. -/
structure PcV where
  p : Pc
  g : Option Addr
def PcV.cells (x : PcV) : List Value := [.bool x.p.any, .pointer x.g, .bool x.p.own]
def PcV.ok (w : World) (x : PcV) : Prop := x.p.any = false → ∃ g, x.g = some ⟨g, 0, none⟩ ∧ SetAt w g x.p.f
theorem PcV.ok.kept {S : Nat → Prop} {w w' : World} {x : PcV} (h : x.ok w) (k : Kept S w w') (hS : ∀ g, x.g = some ⟨g, 0, none⟩ → ¬ S g) : x.ok w' := fun ha => by
  obtain ⟨g, h1, h2⟩ := h ha
  exact ⟨g, h1, h2.kept k (hS g h1)⟩
theorem EPc : ElemT Try.prog 40 44 3 24 := by
  refine ElemT.of (z := .agg #[.bool false, .pointer none, .bool false]) Try.underlying40 ?_ rfl (by decide)
  kernel_rfl
end Go.Proofs.Ytkfoinphkjmlmaa
