/- Lexing, plain: words, tokens. -/
import Derived.Test.YtifcgeanippepaaDoorLex1
import Derived.Lib.IndexBytes
import Derived.Lib.IndexMore
namespace Go.Proofs.YtifcgeanippepaaDoor
open Go Go.RowKit Go.Lw
/-- A word's pieces, one behind the other. -/
def wordF : Nat → List UInt8 → Rs
  | 0, _ => .error 5
  | _ + 1, [] => .ok []
  | n + 1, c :: r => if endB c then .ok (c :: r) else match pieceR false 0 (c :: r) with
    | .error e => .error e
    | .ok r' => wordF n r'
theorem wordF_tl : ∀ (n : Nat) {r r' : List UInt8}, wordF n r = .ok r' → Tl r r'
  | 0, r, r', h => by cases h
  | n + 1, [], r', h => by cases h; exact Tl.refl _
  | n + 1, c :: r, r', h => by
    unfold wordF at h
    split at h
    · cases h; exact Tl.refl _
    · split at h
      · cases h
      · rename_i r1 h1
        exact (scan_tl _ _ _ h1).trans (wordF_tl n h)
theorem wordF_more : ∀ (n : Nat) (r : List UInt8), r.length < n → wordF (n + 1) r = wordF n r
  | 0, r, h => by omega
  | n + 1, [], h => rfl
  | n + 1, c :: r, h => by
    unfold wordF
    split
    · rfl
    · cases hp : pieceR false 0 (c :: r) with
      | error e => rfl
      | ok r' =>
        simp only
        have := (piece_less hp).len
        exact wordF_more n r' (by simp at h; omega)
theorem wordF_fuel (n k : Nat) (r : List UInt8) (h : r.length < n) : wordF (n + k) r = wordF n r := by
  induction k with
  | zero => rfl
  | succ k ih => rw [← Nat.add_assoc, wordF_more (n + k) r (by omega), ih]
structure Tk where
  kind : Nat
  text : List UInt8
  pos : Nat
deriving DecidableEq
def Tk.cells (t : Tk) : List Value := [.int .i64 (t.kind : Int), .string (BA t.text), .int .i64 (t.pos : Int)]
/-- Tokens, of what is left of a text of N bytes. -/
def lexF : Nat → Nat → List UInt8 → Except Nat (List Tk)
  | 0, _, _ => .error 5
  | _ + 1, _, [] => .ok []
  | n + 1, N, c :: r =>
    if c = 32 ∨ c = 9 then lexF n N r
    else if c = 35 then lexF n N ((c :: r).dropWhile (· != 10))
    else match operF (c :: r) with
      | some o => if o.1 = 0 then .error 5 else (lexF n N ((c :: r).drop o.2.length)).map (⟨o.1, o.2, N - (r.length + 1)⟩ :: ·)
      | none => match wordF (r.length + 2) (c :: r) with
        | .error e => .error e
        | .ok r' => (lexF n N r').map (⟨1, (c :: r).take (r.length + 1 - r'.length), N - (r.length + 1)⟩ :: ·)
def lexT (s : List UInt8) : Except Nat (List Tk) :=
  if 2048 < s.length then .error 3 else if s.all okB = false then .error 5 else lexF (s.length + 1) s.length s
theorem dropWhile_tl (f : UInt8 → Bool) : ∀ r : List UInt8, Tl r (r.dropWhile f)
  | [] => Tl.refl _
  | c :: r => by
    rw [List.dropWhile_cons]
    split
    · exact (dropWhile_tl f r).cons
    · exact Tl.refl _
theorem cut10 (r : List UInt8) : (Lib.cut r [10]).1 = r.takeWhile (· != 10) := by
    unfold Lib.cut
    rw [Lib.index_one]
    induction r with
    | nil => rfl
    | cons b l ih =>
      unfold Lib.indexByte
      rw [List.takeWhile_cons]
      by_cases h : b = 10
      · subst h; simp
      · have hb : (b == 10) = false := beq_eq_false_iff_ne.2 h
        have hb2 : (b != 10) = true := by simp [bne, hb]
        have hge := Lib.indexByte_ge l 10
        rw [hb, hb2, if_pos rfl, ← ih]
        simp only [Bool.false_eq_true, if_false]
        by_cases h2 : Lib.indexByte l 10 = -1
        · rw [h2]; rfl
        · have h3 : (Lib.indexByte l 10 == -1) = false := beq_eq_false_iff_ne.2 h2
          rw [h3]
          simp only [Bool.false_eq_true, if_false]
          have h4 : 0 ≤ Lib.indexByte l 10 := by omega
          rw [if_pos h4, if_pos (by omega)]
          obtain ⟨k, hk⟩ := Int.eq_ofNat_of_zero_le h4
          rw [hk]
          rfl
theorem takeWhile_len (f : UInt8 → Bool) (r : List UInt8) : (r.takeWhile f).length + (r.dropWhile f).length = r.length := by
  rw [← List.length_append, List.takeWhile_append_dropWhile]
theorem drop_takeWhile (f : UInt8 → Bool) (r : List UInt8) : r.drop (r.takeWhile f).length = r.dropWhile f := by
  conv => lhs; rw [← List.takeWhile_append_dropWhile (p := f) (l := r)]
  rw [List.takeWhile_append_dropWhile]
  have := List.drop_left (l₁ := r.takeWhile f) (l₂ := r.dropWhile f)
  rw [List.takeWhile_append_dropWhile] at this
  exact this
theorem operF_in {r : List UInt8} {o : Nat × List UInt8} (h : operF r = some o) : o ∈ opsL ∧ r.take o.2.length = o.2 := by
  unfold operF at h
  have h1 := List.find?_some h
  exact ⟨List.mem_of_find?_eq_some h, by simpa using h1⟩
theorem opsL_len : ∀ o ∈ opsL, 1 ≤ o.2.length ∧ o.2.length ≤ 3 ∧ o.1 ≤ 11 := by decide
theorem operF_len {r : List UInt8} {o : Nat × List UInt8} (h : operF r = some o) : 1 ≤ o.2.length ∧ o.2.length ≤ r.length ∧ o.1 ≤ 11 ∧ o.2.length ≤ 3 := by
  obtain ⟨h1, h2⟩ := operF_in h
  have h3 := opsL_len o h1
  exact ⟨h3.1, take_len h2 rfl, h3.2.2, h3.2.1⟩
/-- A byte that ends a word, and is no blank, is an operator, or the beginning of one. -/
theorem oper_end {c : UInt8} {r : List UInt8} (h : endB c = true) (h1 : ¬ (c = 32 ∨ c = 9)) : operF (c :: r) ≠ none := by
  unfold operF
  intro hn
  rw [List.find?_eq_none] at hn
  have key : ∀ k, [c] = k → (∃ o ∈ opsL, o.2 = k) → False := fun k hk ⟨o, ho, e⟩ => by
    have := hn o ho
    subst e
    rw [← hk] at this
    simp at this
  simp only [endB, Bool.or_eq_true, beq_iff_eq] at h
  rcases h with ((((((h | h) | h) | h) | h) | h) | h) | h
  · exact h1 (.inl h)
  · exact h1 (.inr h)
  · subst h; exact key [10] rfl (by decide)
  · subst h; exact key [59] rfl (by decide)
  · subst h; exact key [38] rfl (by decide)
  · subst h; exact key [124] rfl (by decide)
  · subst h; exact key [60] rfl (by decide)
  · subst h; exact key [62] rfl (by decide)
/-- A word takes something. -/
theorem wordF_less {n : Nat} {c : UInt8} {r r' : List UInt8} (h : wordF (n + 1) (c :: r) = .ok r') (he : endB c = false) : Tl r r' := by
  unfold wordF at h
  rw [he] at h
  simp only [Bool.false_eq_true, if_false] at h
  split at h
  · cases h
  · rename_i r1 h1
    exact (piece_less h1).trans (wordF_tl n h)
end Go.Proofs.YtifcgeanippepaaDoor
