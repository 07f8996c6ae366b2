/- Chapter 13, plain: a form, read. -/
import Derived.Test.YtbmfnepbdfnlaaaFits
import Derived.Test.YtbmfnepbdfnlaaaReader
namespace Go.Proofs.Ytbmfnepbdfnlaaa
open Go Go.RowKit Go.Lw
def decH (c : List UInt8) : Hv := ⟨beVal (c.take 4), beVal ((c.drop 4).take 4), beVal ((c.drop 8).take 4), decide ((c.getD 12 0).toNat = 1)⟩
def oddH (c : List UInt8) : Bool := decide (1 < (c.getD 12 0).toNat)
def decs (b : List UInt8) (k : Nat) : List Hv := (List.range k).map fun i => decH (b.drop (5 + 13 * i))
def odds (b : List UInt8) (k : Nat) : Bool := (List.range k).any fun i => oddH (b.drop (5 + 13 * i))
def manyB (b : List UInt8) : Nat := (b.getD 4 0).toNat
def parseF (b : List UInt8) : Nat × List Hv × Nat :=
  if b.length < 5 ∨ b.length < 5 + 13 * manyB b then (0, [], 4)
  else if 5 + 13 * manyB b < b.length ∨ odds b (manyB b) = true ∨ mayF (beVal (b.take 4)) (decs b (manyB b)) = false then (0, [], 5)
  else (beVal (b.take 4), decs b (manyB b), 0)
def oneF (r : Rdr) : Hv × Bool × Rdr :=
  let r1 := (r.num 4).2
  let r2 := (r1.num 4).2
  let r3 := (r2.num 4).2
  (⟨(r.num 4).1, (r1.num 4).1, (r2.num 4).1, decide ((r3.num 1).1 = 1)⟩, decide (1 < (r3.num 1).1), (r3.num 1).2)
def itF (r : Rdr) : Nat → List Hv × Bool × Rdr
  | 0 => ([], false, r)
  | k + 1 => ((itF r k).1 ++ [(oneF (itF r k).2.2).1], (itF r k).2.1 || (oneF (itF r k).2.2).2.1, (oneF (itF r k).2.2).2.2)
def parseR (b : List UInt8) : Nat × List Hv × Nat :=
  let r0 : Rdr := ⟨b, false⟩
  let r1 := (r0.num 4).2
  let s := itF (r1.num 1).2 (r1.num 1).1
  if s.2.2.short = true then (0, [], 4) else if 0 < s.2.2.l.length ∨ s.2.1 = true ∨ mayF (r0.num 4).1 s.1 = false then (0, [], 5) else ((r0.num 4).1, s.1, 0)
theorem num_in {l : List UInt8} {n : Nat} (h : n ≤ l.length) : (⟨l, false⟩ : Rdr).num n = (beVal (l.take n), ⟨l.drop n, false⟩) := by
  unfold Rdr.num; rw [take_in n rfl h]
theorem num_ns' {r : Rdr} {n : Nat} (hs : (r.num n).2.short = false) : r.short = false ∧ r.l.length = n + (r.num n).2.l.length := by
  unfold Rdr.num at *
  unfold Rdr.take at *
  split at hs
  · rename_i h; simp only at hs; rw [h] at hs; cases hs
  · rename_i h
    rw [if_neg h]
    split at hs
    · cases hs
    · rename_i h2
      rw [if_neg h2]
      simp only [List.length_drop]
      exact ⟨by simpa using h, by omega⟩
theorem beVal_one {l : List UInt8} {k : Nat} (h : k < l.length) : beVal ((l.drop k).take 1) = (l.getD k 0).toNat := by
  rw [List.drop_eq_getElem_cons h, List.take_succ_cons, List.take_zero]
  simp [beVal, List.getD_eq_getElem?_getD, List.getElem?_eq_getElem h]
theorem one_in {l : List UInt8} (h : 13 ≤ l.length) : oneF ⟨l, false⟩ = (decH l, oddH l, ⟨l.drop 13, false⟩) := by
  have h1 : (⟨l, false⟩ : Rdr).num 4 = _ := num_in (by omega)
  have h2 : (⟨l.drop 4, false⟩ : Rdr).num 4 = _ := num_in (by simp; omega)
  have h3 : (⟨l.drop 8, false⟩ : Rdr).num 4 = _ := num_in (by simp; omega)
  have h4 : (⟨l.drop 12, false⟩ : Rdr).num 1 = _ := num_in (by simp; omega)
  unfold oneF
  simp only [h1, List.drop_drop, Nat.reduceAdd, h2, h3, h4, beVal_one (show 12 < l.length by omega)]
  rfl
theorem it_in {b : List UInt8} {k : Nat} (h : 5 + 13 * k ≤ b.length) : itF ⟨b.drop 5, false⟩ k = (decs b k, odds b k, ⟨b.drop (5 + 13 * k), false⟩) := by
  induction k with
  | zero => rfl
  | succ k ih =>
    have := ih (by omega)
    have ho := one_in (l := b.drop (5 + 13 * k)) (by simp; omega)
    unfold itF
    rw [this]
    simp only [ho, List.drop_drop]
    unfold decs odds
    rw [List.range_succ]
    simp [show 5 + 13 * k + 13 = 5 + 13 * (k + 1) by omega]
theorem one_ns {r : Rdr} (hs : (oneF r).2.2.short = false) : r.short = false ∧ r.l.length = 13 + (oneF r).2.2.l.length := by
  unfold oneF at *
  simp only at *
  obtain ⟨h3, e3⟩ := num_ns' hs
  obtain ⟨h2, e2⟩ := num_ns' h3
  obtain ⟨h1, e1⟩ := num_ns' h2
  obtain ⟨h0, e0⟩ := num_ns' h1
  exact ⟨h0, by omega⟩
theorem it_ns {r : Rdr} {k : Nat} (hs : (itF r k).2.2.short = false) : r.short = false ∧ r.l.length = 13 * k + (itF r k).2.2.l.length := by
  induction k with
  | zero => exact ⟨hs, by simp [itF]⟩
  | succ k ih =>
    unfold itF at hs ⊢
    simp only at hs ⊢
    obtain ⟨h1, e1⟩ := one_ns hs
    obtain ⟨h0, e0⟩ := ih h1
    exact ⟨h0, by omega⟩
theorem parse_eq (b : List UInt8) : parseR b = parseF b := by
  unfold parseF
  by_cases h5 : b.length < 5
  · rw [if_pos (.inl h5)]
    unfold parseR
    simp only
    rw [if_pos]
    rw [← Bool.not_eq_false]
    intro hs
    obtain ⟨h2, e2⟩ := it_ns hs
    obtain ⟨h1, e1⟩ := num_ns' h2
    obtain ⟨h0, e0⟩ := num_ns' h1
    simp only at e0
    omega
  · have h1 : (⟨b, false⟩ : Rdr).num 4 = _ := num_in (by omega)
    have h2 : (⟨b.drop 4, false⟩ : Rdr).num 1 = _ := num_in (by simp; omega)
    rw [List.drop_drop, beVal_one (show 4 < b.length by omega)] at h2
    have hR : parseR b = if (itF ⟨b.drop 5, false⟩ (manyB b)).2.2.short = true then ((0 : Nat), ([] : List Hv), (4 : Nat)) else if 0 < (itF ⟨b.drop 5, false⟩ (manyB b)).2.2.l.length ∨ (itF ⟨b.drop 5, false⟩ (manyB b)).2.1 = true ∨ mayF (beVal (b.take 4)) (itF ⟨b.drop 5, false⟩ (manyB b)).1 = false then (0, [], 5) else (beVal (b.take 4), (itF ⟨b.drop 5, false⟩ (manyB b)).1, 0) := by
      unfold parseR
      simp only [h1, h2]
      rfl
    rw [hR]
    by_cases hm : b.length < 5 + 13 * manyB b
    · have hsh : (itF ⟨b.drop 5, false⟩ (manyB b)).2.2.short = true := by
        rw [← Bool.not_eq_false]
        intro hs
        obtain ⟨_, e2⟩ := it_ns hs
        simp only [List.length_drop] at e2
        omega
      rw [if_pos hsh, if_pos (show b.length < 5 ∨ b.length < 5 + 13 * manyB b from .inr hm)]
    · have hi := it_in (b := b) (k := manyB b) (by omega)
      rw [hi]
      simp only [List.length_drop]
      rw [if_neg (show ¬ (false = true) by simp), if_neg (show ¬ (b.length < 5 ∨ b.length < 5 + 13 * manyB b) by omega)]
      by_cases hc : 5 + 13 * manyB b < b.length ∨ odds b (manyB b) = true ∨ mayF (beVal (b.take 4)) (decs b (manyB b)) = false
      · rw [if_pos hc, if_pos (show 0 < b.length - (5 + 13 * manyB b) ∨ _ from by rcases hc with h | h; exact .inl (by omega); exact .inr h)]
      · rw [if_neg hc, if_neg (show ¬ (0 < b.length - (5 + 13 * manyB b) ∨ _) from fun h => hc (by rcases h with h | h; exact .inl (by omega); exact .inr h))]
theorem it_len (r : Rdr) (k : Nat) : (itF r k).1.length = k := by
  induction k with
  | zero => rfl
  | succ k ih => unfold itF; simp [ih]
theorem one_ok (r : Rdr) : (oneF r).1.ok := ⟨by have := Rdr.num_lt r 4; simpa [oneF] using this, by have := Rdr.num_lt (r.num 4).2 4; simpa [oneF] using this, by have := Rdr.num_lt ((r.num 4).2.num 4).2 4; simpa [oneF] using this⟩
theorem it_ok (r : Rdr) (k : Nat) : ∀ h ∈ (itF r k).1, h.ok := by
  induction k with
  | zero => intro h hh; simp [itF] at hh
  | succ k ih =>
    intro h hh
    unfold itF at hh
    simp only [List.mem_append, List.mem_singleton] at hh
    rcases hh with hh | rfl
    · exact ih h hh
    · exact one_ok _
end Go.Proofs.Ytbmfnepbdfnlaaa
