/- Lexing, plain: pieces, one in another; what is left behind a piece, or an error. -/
import Derived.Test.YtoedopgjonhemaaGreatDoorStr
namespace Go.Proofs.YtoedopgjonhemaaGreatDoor
open Go Go.RowKit Go.Lw
/-- What is left, or an error's number. -/
abbrev Rs := Except Nat (List UInt8)
def endB (c : UInt8) : Bool := c == 32 || c == 9 || c == 10 || c == 59 || c == 38 || c == 124 || c == 60 || c == 62
def oddA (c : UInt8) : Bool := c == 39 || c == 34 || c == 92 || c == 96 || c == 36 || c == 10
def braceB (c : UInt8) : Bool := endB c || c == 40 || c == 41 || c == 35
def startB (c : UInt8) : Bool := decide (97 ≤ c.toNat) && decide (c.toNat ≤ 122) || decide (65 ≤ c.toNat) && decide (c.toNat ≤ 90) || decide (c.toNat = 95)
def digitB (c : UInt8) : Bool := decide (48 ≤ c.toNat) && decide (c.toNat ≤ 57)
def letterB (c : UInt8) (first : Bool) : Bool := startB c || (!first && digitB c)
/-- Up to a byte, and that. -/
def untilF (c : UInt8) : List UInt8 → Rs
  | [] => .error 5
  | d :: r => if d = c then .ok r else untilF c r
def pairF : List UInt8 → Rs
  | [] => .error 5
  | d :: r => if d = 10 then .error 5 else .ok r
/-- Behind $((. -/
def arithF : Nat → List UInt8 → Rs
  | _, [] => .error 5
  | o, c :: r =>
    if o = 0 ∧ (c :: r).take 2 = [41, 41] then .ok (r.drop 1)
    else if c = 40 then arithF (o + 1) r
    else if c = 41 ∧ 0 < o then arithF (o - 1) r
    else if c = 41 ∨ oddA c = true then .error 5
    else arithF o r
/-- Behind a name. -/
def namesF : Bool → List UInt8 → List UInt8
  | _, [] => []
  | first, c :: r => if letterB c first then namesF false r else c :: r
inductive Md where
  | piece (q : Bool)
  | double
  | brace
/-- A piece; what stands within double quotes; within curly brackets. -/
def scan : Nat → Md → Nat → List UInt8 → Rs
  | 0, _, _, _ => .error 5
  | n + 1, .piece q, d, r =>
    match r with
    | [] => .error 5
    | c :: r =>
      if c = 92 then pairF r
      else if c = 39 ∧ q = false then untilF 39 r
      else if c = 34 ∧ q = false then (if 16 < d + 1 then .error 12 else scan n .double (d + 1) r)
      else if c = 36 then
        (if r.take 2 = [40, 40] then arithF 0 (r.drop 2)
         else if r.take 1 = [40] then .error 5
         else if r.take 1 = [123] then (if 16 < d + 1 then .error 12 else scan n .brace (d + 1) (r.drop 1))
         else if r.take 1 = [63] then .ok (r.drop 1)
         else .ok (namesF true r))
      else if c = 96 ∨ q = false ∧ (c = 40 ∨ c = 41) then .error 5
      else .ok r
  | n + 1, .double, d, r =>
    match r with
    | [] => .error 5
    | c :: r =>
      if c = 34 then .ok r
      else match scan n (.piece true) d (c :: r) with
        | .error e => .error e
        | .ok r' => scan n .double d r'
  | n + 1, .brace, d, r =>
    match r with
    | [] => .error 5
    | c :: r =>
      if c = 125 then .ok r
      else if c = 10 then .error 5
      else if braceB c then scan n .brace d r
      else match scan n (.piece false) d (c :: r) with
        | .error e => .error e
        | .ok r' => scan n .brace d r'
/-- What is left is a tail. -/
def Tl (r r' : List UInt8) : Prop := ∃ k, k ≤ r.length ∧ r.drop k = r'
theorem Tl.refl (r : List UInt8) : Tl r r := ⟨0, Nat.zero_le _, rfl⟩
theorem Tl.cons {c : UInt8} {r r' : List UInt8} (h : Tl r r') : Tl (c :: r) r' := by
  obtain ⟨k, hk, e⟩ := h
  exact ⟨k + 1, by simp; omega, by simpa using e⟩
theorem Tl.drop {r r' : List UInt8} {m : Nat} (h : Tl (r.drop m) r') : Tl r r' := by
  obtain ⟨k, hk, e⟩ := h
  rw [List.drop_drop] at e
  rw [List.length_drop] at hk
  by_cases hm : m + k ≤ r.length
  · exact ⟨m + k, hm, e⟩
  · exact ⟨r.length, Nat.le_refl _, by rw [← e, List.drop_eq_nil_of_le (by omega), List.drop_eq_nil_of_le (by omega)]⟩
theorem Tl.trans {a b c : List UInt8} (h : Tl a b) (k : Tl b c) : Tl a c := by
  obtain ⟨i, hi, rfl⟩ := h
  exact k.drop
theorem Tl.len {r r' : List UInt8} (h : Tl r r') : r'.length ≤ r.length := by
  obtain ⟨k, hk, rfl⟩ := h
  rw [List.length_drop]; omega
theorem untilF_tl {c : UInt8} : ∀ {r r' : List UInt8}, untilF c r = .ok r' → Tl r r'
  | [], r', h => by cases h
  | d :: r, r', h => by
    unfold untilF at h
    split at h
    · cases h; exact (Tl.refl _).cons
    · exact (untilF_tl h).cons
theorem pairF_tl {r r' : List UInt8} (h : pairF r = .ok r') : Tl r r' := by
  unfold pairF at h
  split at h
  · cases h
  · split at h
    · cases h
    · cases h; exact (Tl.refl _).cons
theorem arithF_tl : ∀ {r : List UInt8} {o : Nat} {r' : List UInt8}, arithF o r = .ok r' → Tl r r'
  | [], o, r', h => by cases h
  | c :: r, o, r', h => by
    unfold arithF at h
    split at h
    · cases h; exact (Tl.drop (m := 1) (Tl.refl _)).cons
    · split at h
      · exact (arithF_tl h).cons
      · split at h
        · exact (arithF_tl h).cons
        · split at h
          · cases h
          · exact (arithF_tl h).cons
theorem namesF_tl : ∀ {first : Bool} {r : List UInt8}, Tl r (namesF first r)
  | _, [] => Tl.refl _
  | first, c :: r => by
    unfold namesF
    split
    · exact namesF_tl.cons
    · exact Tl.refl _
theorem scan_tl : ∀ (n : Nat) (m : Md) (d : Nat) {r r' : List UInt8}, scan n m d r = .ok r' → Tl r r'
  | 0, m, d, r, r', h => by unfold scan at h; cases h
  | n + 1, .piece q, d, r, r', h => by
    unfold scan at h
    split at h
    · cases h
    · rename_i c r
      refine Tl.cons ?_
      split at h
      · exact pairF_tl h
      · split at h
        · exact untilF_tl h
        · split at h
          · split at h
            · cases h
            · exact scan_tl n _ _ h
          · split at h
            · split at h
              · exact (arithF_tl h).drop
              · split at h
                · cases h
                · split at h
                  · split at h
                    · cases h
                    · exact (scan_tl n _ _ h).drop
                  · split at h
                    · cases h; exact Tl.drop (m := 1) (Tl.refl _)
                    · cases h; exact namesF_tl
            · split at h
              · cases h
              · cases h; exact Tl.refl _
  | n + 1, .double, d, r, r', h => by
    unfold scan at h
    split at h
    · cases h
    · rename_i c r
      split at h
      · cases h; exact (Tl.refl _).cons
      · split at h
        · cases h
        · rename_i r1 h1
          exact (scan_tl n _ _ h1).trans (scan_tl n _ _ h)
  | n + 1, .brace, d, r, r', h => by
    unfold scan at h
    split at h
    · cases h
    · rename_i c r
      split at h
      · cases h; exact (Tl.refl _).cons
      · split at h
        · cases h
        · split at h
          · exact (scan_tl n _ _ h).cons
          · split at h
            · cases h
            · rename_i r1 h1
              exact (scan_tl n _ _ h1).trans (scan_tl n _ _ h)
/-- A piece takes something. -/
theorem piece_less {n : Nat} {q : Bool} {d : Nat} {c : UInt8} {r r' : List UInt8} (h : scan n (.piece q) d (c :: r) = .ok r') : Tl r r' := by
  cases n with
  | zero => unfold scan at h; cases h
  | succ n =>
    unfold scan at h
    simp only at h
    split at h
    · exact pairF_tl h
    · split at h
      · exact untilF_tl h
      · split at h
        · split at h
          · cases h
          · exact scan_tl n _ _ h
        · split at h
          · split at h
            · exact (arithF_tl h).drop
            · split at h
              · cases h
              · split at h
                · split at h
                  · cases h
                  · exact (scan_tl n _ _ h).drop
                · split at h
                  · cases h; exact Tl.drop (m := 1) (Tl.refl _)
                  · cases h; exact namesF_tl
          · split at h
            · cases h
            · cases h; exact Tl.refl _
/-- How many steps suffice. -/
def need : Md → Nat → Nat
  | .piece _, k => 2 * k + 1
  | .double, k => 2 * k + 2
  | .brace, k => 2 * k + 2
/-- More steps turn nothing. -/
theorem scan_more : ∀ (n : Nat) (m : Md) (d : Nat) (r : List UInt8), need m r.length ≤ n → scan (n + 1) m d r = scan n m d r
  | 0, m, d, r, h => by cases m <;> simp [need] at h
  | n + 1, .piece q, d, r, h => by
    unfold scan
    split
    · rfl
    · rename_i c r
      simp only [need, List.length_cons] at h
      rw [scan_more n .double (d + 1) r (by simp only [need]; omega), scan_more n .brace (d + 1) (r.drop 1) (by simp only [need]; rw [List.length_drop]; omega)]
  | n + 1, .double, d, r, h => by
    unfold scan
    split
    · rfl
    · rename_i c r
      simp only [need, List.length_cons] at h
      rw [scan_more n (.piece true) d (c :: r) (by simp only [need, List.length_cons]; omega)]
      split
      · rfl
      · split
        · rfl
        · rename_i r' h'
          exact scan_more n .double d r' (by have := (piece_less h').len; simp only [need]; omega)
  | n + 1, .brace, d, r, h => by
    unfold scan
    split
    · rfl
    · rename_i c r
      simp only [need, List.length_cons] at h
      rw [scan_more n (.piece false) d (c :: r) (by simp only [need, List.length_cons]; omega), scan_more n .brace d r (by simp only [need]; omega)]
      split
      · rfl
      · split
        · rfl
        · split
          · rfl
          · split
            · rfl
            · rename_i r' h'
              exact scan_more n .brace d r' (by have := (piece_less h').len; simp only [need]; omega)
theorem scan_fuel (n k : Nat) (m : Md) (d : Nat) (r : List UInt8) (h : need m r.length ≤ n) : scan (n + k) m d r = scan n m d r := by
  induction k with
  | zero => rfl
  | succ k ih => rw [← Nat.add_assoc, scan_more (n + k) m d r (by omega), ih]
end Go.Proofs.YtoedopgjonhemaaGreatDoor
