/- A reader, plainly: what each reading takes from the front. No program in sight. -/
namespace Go.Lw
structure Rdr where
  l : List UInt8
  short : Bool
/-- Take(n). -/
def Rdr.take (r : Rdr) (n : Nat) : List UInt8 × Rdr :=
  if r.short then ([], r) else if r.l.length < n then ([], ⟨[], true⟩) else (r.l.take n, ⟨r.l.drop n, false⟩)
/-- Bytes as a number, the highest first. -/
def beVal (l : List UInt8) : Nat := l.foldl (fun a c => a * 256 + c.toNat) 0
theorem beVal_snoc (l : List UInt8) (c : UInt8) : beVal (l ++ [c]) = beVal l * 256 + c.toNat := by simp [beVal, List.foldl_append]
theorem beVal_lt' (l : List UInt8) : ∀ a b, a < 256 ^ b → l.foldl (fun a c => a * 256 + c.toNat) a < 256 ^ (b + l.length) := by
  induction l with
  | nil => intro a b h; simpa using h
  | cons c l ih =>
    intro a b h
    rw [List.foldl_cons, List.length_cons, show b + (l.length + 1) = (b + 1) + l.length by omega]
    apply ih
    have := c.toNat_lt
    rw [Nat.pow_succ]
    omega
theorem beVal_lt (l : List UInt8) : beVal l < 256 ^ l.length := by
  have := beVal_lt' l 0 0 (by decide)
  simpa [beVal] using this
theorem beVal_lt8 (l : List UInt8) (h : l.length ≤ 8) : beVal l < 18446744073709551616 := by
  have := beVal_lt l
  have h2 : 256 ^ l.length ≤ 256 ^ 8 := Nat.pow_le_pow_right (by decide) h
  have : (256 : Nat) ^ 8 = 18446744073709551616 := by decide
  omega
def Rdr.num (r : Rdr) (k : Nat) : Nat × Rdr := (beVal (r.take k).1, (r.take k).2)
def Rdr.text (r : Rdr) : List UInt8 × Rdr := (r.num 2).2.take (r.num 2).1
theorem Rdr.take_len (r : Rdr) (n : Nat) : (r.take n).1.length ≤ n := by
  unfold Rdr.take; split
  · simp
  split
  · simp
  · simp; omega
theorem Rdr.take_le (r : Rdr) (n : Nat) : (r.take n).1.length ≤ r.l.length ∧ (r.take n).2.l.length ≤ r.l.length := by
  unfold Rdr.take; split
  · simp
  split
  · simp
  · simp
    omega
theorem Rdr.num_lt (r : Rdr) (k : Nat) : (r.num k).1 < 256 ^ k := by
  have h1 := beVal_lt (r.take k).1
  have h2 : 256 ^ (r.take k).1.length ≤ 256 ^ k := Nat.pow_le_pow_right (by decide) (r.take_len k)
  exact Nat.lt_of_lt_of_le h1 h2
theorem Rdr.num_lt8 (r : Rdr) (k : Nat) (h : k ≤ 8) : (r.num k).1 < 18446744073709551616 :=
  beVal_lt8 _ (Nat.le_trans (r.take_len k) h)
/-- A reader that is short holds nothing. -/
def Rdr.ok (r : Rdr) : Prop := r.short = true → r.l = []
theorem Rdr.take_ok (r : Rdr) (n : Nat) (h : r.ok) : (r.take n).2.ok := by
  unfold Rdr.take; split
  · exact h
  split
  · exact fun _ => rfl
  · exact fun h => by cases h
end Go.Lw
