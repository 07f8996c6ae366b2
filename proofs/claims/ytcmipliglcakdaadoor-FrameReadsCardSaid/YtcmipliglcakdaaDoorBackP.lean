/- What is laid is read as it was; cut short it is not: plain facts on pieces and the plain reader. -/
import Derived.Test.YtcmipliglcakdaaDoorIs
namespace Go.Proofs.YtcmipliglcakdaaDoor
open Go Go.RowKit Go.Lw
theorem beVal_be (k n : Nat) : beVal (be k n) = n % 256 ^ k := by
  induction k generalizing n with
  | zero => simp [be, beVal, Nat.mod_one]
  | succ k ih =>
    show beVal (be k (n / 256) ++ [lo n]) = _
    rw [beVal_snoc, ih, lo_toNat, Nat.pow_succ', Nat.mod_mul]
    omega
theorem take_front (l rest : List UInt8) : (Rdr.mk (l ++ rest) false).take l.length = (l, ⟨rest, false⟩) := by
  rw [take_in _ rfl (by simp)]
  simp
theorem take_cut (l : List UInt8) (n : Nat) (h : l.length < n) : (Rdr.mk l false).take n = ([], ⟨[], true⟩) := take_out n rfl h
theorem take_dead (n : Nat) : (Rdr.mk [] true).take n = ([], ⟨[], true⟩) := take_short n rfl
theorem num_front (k n : Nat) (rest : List UInt8) : (Rdr.mk (be k n ++ rest) false).num k = (n % 256 ^ k, ⟨rest, false⟩) := by
  have := take_front (be k n) rest
  rw [be_length] at this
  unfold Rdr.num
  rw [this, beVal_be]
theorem num_cut (l : List UInt8) (k : Nat) (h : l.length < k) : ((Rdr.mk l false).num k).2 = ⟨[], true⟩ := by
  unfold Rdr.num; rw [take_cut l k h]
theorem num_dead (k : Nat) : (Rdr.mk [] true).num k = (0, ⟨[], true⟩) := by unfold Rdr.num; rw [take_dead]; rfl
theorem text_size (t : ByteArray) : t.data.toList.length = t.size := by simp
theorem isL_front (p : Piece) (hp : p.ok) (ht : p.text.size ≤ 100) (rest : List UInt8) : p.isL ⟨p.form ++ rest, false⟩ = (true, ⟨rest, false⟩) := by
  obtain ⟨what, n, text⟩ := p
  obtain ⟨_, _, hn, _⟩ := hp
  simp only at hn ht
  unfold Piece.isL Piece.form
  by_cases h1 : what = 1
  · simp only [h1, if_true, num_front, Nat.pow_one, beq_self_eq_true]
  by_cases h2 : what = 2
  · simp only [h2, if_true, num_front, Nat.reducePow, beq_self_eq_true, if_false, show ¬ (2 : Int) = 1 by decide]
  by_cases h3 : what = 3
  · simp only [h3, if_true, num_front, Nat.reducePow, beq_self_eq_true, show ¬ (3 : Int) = 1 by decide, show ¬ (3 : Int) = 2 by decide, if_false]
  by_cases h4 : what = 4
  · simp only [h4, if_true, num_front, Nat.reducePow, show ¬ (4 : Int) = 1 by decide, show ¬ (4 : Int) = 2 by decide, show ¬ (4 : Int) = 3 by decide, if_false]
    rw [Nat.mod_eq_of_lt hn, beq_self_eq_true]
  by_cases h5 : what = 5
  · simp only [h5, if_true, show ¬ (5 : Int) = 1 by decide, show ¬ (5 : Int) = 2 by decide, show ¬ (5 : Int) = 3 by decide, show ¬ (5 : Int) = 4 by decide, if_false]
    have e : (Rdr.mk (be 2 text.size ++ text.data.toList ++ rest) false).text = (text.data.toList, ⟨rest, false⟩) := by
      unfold Rdr.text
      rw [List.append_assoc, num_front]
      have : text.size % 256 ^ 2 = text.data.toList.length := by rw [text_size]; exact Nat.mod_eq_of_lt (by omega)
      rw [this]
      exact take_front _ _
    rw [e]; simp
  · simp only [h1, h2, h3, h4, h5, if_false]
    have e := take_front text.data.toList rest
    rw [text_size] at e
    rw [e]; simp
theorem isL_dead (p : Piece) : (p.isL ⟨[], true⟩).2 = ⟨[], true⟩ := by
  unfold Piece.isL
  simp only [num_dead, take_dead]
  have e : (Rdr.mk [] true).text.2 = ⟨[], true⟩ := by unfold Rdr.text; rw [num_dead, take_dead]
  split
  · rfl
  split
  · rfl
  split
  · rfl
  split
  · rfl
  split
  · exact e
  · rfl
theorem isL_cut (p : Piece) (ht : p.text.size ≤ 100) (j : Nat) (hj : j < p.form.length) : (p.isL ⟨p.form.take j, false⟩).2 = ⟨[], true⟩ := by
  obtain ⟨what, n, text⟩ := p
  simp only at ht
  unfold Piece.isL
  unfold Piece.form at hj ⊢
  by_cases h1 : what = 1
  · simp only [h1, if_true, be_length] at hj ⊢
    exact num_cut _ _ (by rw [List.length_take, be_length]; omega)
  by_cases h2 : what = 2
  · simp only [h2, if_true, be_length, show ¬ (2 : Int) = 1 by decide, if_false] at hj ⊢
    exact num_cut _ _ (by rw [List.length_take, be_length]; omega)
  by_cases h3 : what = 3
  · simp only [h3, if_true, be_length, show ¬ (3 : Int) = 1 by decide, show ¬ (3 : Int) = 2 by decide, if_false] at hj ⊢
    exact num_cut _ _ (by rw [List.length_take, be_length]; omega)
  by_cases h4 : what = 4
  · simp only [h4, if_true, be_length, show ¬ (4 : Int) = 1 by decide, show ¬ (4 : Int) = 2 by decide, show ¬ (4 : Int) = 3 by decide, if_false] at hj ⊢
    exact num_cut _ _ (by rw [List.length_take, be_length]; omega)
  by_cases h5 : what = 5
  · simp only [h5, if_true, show ¬ (5 : Int) = 1 by decide, show ¬ (5 : Int) = 2 by decide, show ¬ (5 : Int) = 3 by decide, show ¬ (5 : Int) = 4 by decide, if_false] at hj ⊢
    rw [List.length_append, be_length, text_size] at hj
    unfold Rdr.text
    by_cases hj2 : j < 2
    · have hl : ((be 2 text.size ++ text.data.toList).take j).length < 2 := by rw [List.length_take]; omega
      have e : (Rdr.mk ((be 2 text.size ++ text.data.toList).take j) false).num 2 = (0, ⟨[], true⟩) := by
        unfold Rdr.num; rw [take_cut _ _ hl]; rfl
      rw [e, take_dead]
    · have e0 : (be 2 text.size ++ text.data.toList).take j = be 2 text.size ++ text.data.toList.take (j - 2) := by
        rw [List.take_append, be_length, List.take_of_length_le (by rw [be_length]; omega)]
      rw [e0, num_front]
      have : text.size % 256 ^ 2 = text.size := Nat.mod_eq_of_lt (by omega)
      rw [this]
      rw [take_cut _ _ (by rw [List.length_take, text_size]; omega)]
  · simp only [h1, h2, h3, h4, h5, if_false] at hj ⊢
    rw [text_size] at hj
    rw [take_cut _ _ (by rw [List.length_take, text_size]; omega)]
/-- What stands behind k pieces of a row that was cut behind c bytes. -/
def cutR (m : List Piece) (c k : Nat) : Rdr := if (formL (m.take k)).length ≤ c then ⟨((formL m).take c).drop (formL (m.take k)).length, false⟩ else ⟨[], true⟩
theorem cutR_step (m : List Piece) (c k : Nat) (hk : k < m.length) (hok : ∀ p ∈ m, p.ok ∧ p.text.size ≤ 100) :
    (m[k].isL (cutR m c k)).2 = cutR m c (k + 1) ∧ ((formL (m.take (k + 1))).length ≤ c → (m[k].isL (cutR m c k)).1 = true) := by
  obtain ⟨hp, ht⟩ := hok m[k] (List.getElem_mem hk)
  have hs := formL_snoc m k hk
  have hsplit : formL m = formL (m.take k) ++ (m[k].form ++ formL (m.drop (k + 1))) := by
    have : m = m.take k ++ (m[k] :: m.drop (k + 1)) := by rw [List.getElem_cons_drop, List.take_append_drop]
    conv => lhs; rw [this]
    unfold formL; rw [List.flatMap_append, List.flatMap_cons]
  have hl : (formL (m.take (k + 1))).length = (formL (m.take k)).length + m[k].form.length := by rw [hs, List.length_append]
  unfold cutR
  by_cases h1 : (formL (m.take (k + 1))).length ≤ c
  · rw [if_pos (by omega), if_pos h1]
    have e : ((formL m).take c).drop (formL (m.take k)).length = m[k].form ++ ((formL m).take c).drop (formL (m.take (k + 1))).length := by
      rw [hl, ← List.drop_drop, ← List.take_append_drop m[k].form.length (List.drop (formL (m.take k)).length (List.take c (formL m)))]
      congr 1
      · rw [hsplit, List.take_append, List.take_of_length_le (show (formL (m.take k)).length ≤ c by omega), List.drop_append_of_le_length (Nat.le_refl _), List.drop_length, List.nil_append, List.take_take,
          Nat.min_eq_left (by omega), List.take_append_of_le_length (Nat.le_refl _), List.take_length]
      · rw [List.take_append_drop]
    rw [e, isL_front _ hp ht]
    exact ⟨rfl, fun _ => rfl⟩
  · rw [if_neg h1]
    refine ⟨?_, fun h => absurd h h1⟩
    by_cases h2 : (formL (m.take k)).length ≤ c
    · rw [if_pos h2]
      have e : ((formL m).take c).drop (formL (m.take k)).length = m[k].form.take (c - (formL (m.take k)).length) := by
        rw [hsplit, List.take_append, List.take_of_length_le h2, List.drop_append_of_le_length (Nat.le_refl _), List.drop_length, List.nil_append, List.take_append_of_le_length (by omega)]
      rw [e]
      exact isL_cut _ ht _ (by omega)
    · rw [if_neg h2]
      exact isL_dead _
end Go.Proofs.YtcmipliglcakdaaDoor
