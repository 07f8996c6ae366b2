/- Plain facts on the check (CRC-32): the table's step of four bits, and the bitwise one. No program in sight. -/
namespace Go.Lw
def tab : List Nat := [0, 498536548, 997073096, 651767980, 1994146192, 1802195444, 1303535960, 1342533948, 3988292384, 4027552580, 3604390888, 3412177804, 2607071920, 2262029012, 2685067896, 3183342108]
def halfN (n : Nat) : Nat := (n / 16) ^^^ tab.getD (n % 16) 0
theorem tab_lt (i : Nat) : tab.getD i 0 < 4294967296 := by
  rcases Nat.lt_or_ge i 16 with h | h
  · revert i; decide
  · have : tab.length ≤ i := h
    simp [List.getD_eq_getElem?_getD, List.getElem?_eq_none this]
theorem halfN_lt (n : Nat) (h : n < 4294967296) : halfN n < 4294967296 := by
  unfold halfN
  exact Nat.xor_lt_two_pow (n := 32) (by omega) (tab_lt _)
/-- One bit's step. -/
def bitN (n : Nat) : Nat := if n % 2 = 1 then (n / 2) ^^^ 3988292384 else n / 2
def bits8 (n : Nat) : Nat := bitN (bitN (bitN (bitN (bitN (bitN (bitN (bitN n)))))))
def crcStep (n : Nat) (c : UInt8) : Nat := halfN (halfN (n ^^^ c.toNat))
def crcReg (l : List UInt8) : Nat := l.foldl crcStep 4294967295
def crcN (l : List UInt8) : Nat := 4294967295 - crcReg l
theorem crcStep_lt (n : Nat) (c : UInt8) (h : n < 4294967296) : crcStep n c < 4294967296 :=
  halfN_lt _ (halfN_lt _ (Nat.xor_lt_two_pow (n := 32) h (by have := c.toNat_lt; omega)))
theorem crcReg_lt' (l : List UInt8) : ∀ n, n < 4294967296 → l.foldl crcStep n < 4294967296 := by
  induction l with
  | nil => intro n h; exact h
  | cons c l ih => intro n h; exact ih _ (crcStep_lt _ _ h)
theorem crcReg_lt (l : List UInt8) : crcReg l < 4294967296 := crcReg_lt' l _ (by decide)
theorem crcN_lt (l : List UInt8) : crcN l < 4294967296 := by unfold crcN; omega
theorem crcReg_snoc (l : List UInt8) (c : UInt8) : crcReg (l ++ [c]) = crcStep (crcReg l) c := by simp [crcReg, List.foldl_append]
/-- The step of a bit goes over sums: on the low bit by itself, on the others by themselves. -/
theorem bitN_split (a r : Nat) : bitN (2 * a + r) = (2 * a + r) / 2 ^^^ (if r % 2 = 1 then 3988292384 else 0) := by
  unfold bitN
  have : (2 * a + r) % 2 = r % 2 := by omega
  rw [this]; split <;> simp
theorem bitN_zero (a : Nat) : bitN (2 * a) = a := by unfold bitN; rw [if_neg (by omega)]; omega
theorem bitN_xor (a b : Nat) : bitN (a ^^^ b) = bitN a ^^^ bitN b := by
  have hm : (a ^^^ b) % 2 = 1 ↔ ¬(a % 2 = 1 ↔ b % 2 = 1) := Nat.xor_mod_two_eq_one
  have hd : (a ^^^ b) / 2 = a / 2 ^^^ b / 2 := Nat.xor_div_two
  have k1 : ∀ x y z : Nat, x ^^^ z ^^^ (y ^^^ z) = x ^^^ y := by
    intro x y z
    rw [Nat.xor_assoc, ← Nat.xor_assoc z y z, Nat.xor_comm z y, Nat.xor_assoc, Nat.xor_self, Nat.xor_zero]
  have k2 : ∀ x y z : Nat, x ^^^ z ^^^ y = x ^^^ y ^^^ z := by
    intro x y z
    rw [Nat.xor_assoc, Nat.xor_comm z y, Nat.xor_assoc]
  unfold bitN
  rw [hd]
  by_cases ha : a % 2 = 1 <;> by_cases hb : b % 2 = 1 <;> simp only [ha, hb, hm, iff_true, iff_false, not_true_eq_false, not_false_eq_true, if_true, if_false]
  · rw [k1]
  · rw [k2]
  · rw [Nat.xor_assoc]
theorem bit4_low (r : Nat) (h : r < 16) : bitN (bitN (bitN (bitN r))) = tab.getD r 0 := by
  revert r; decide
theorem bit4_high (a : Nat) : bitN (bitN (bitN (bitN (16 * a)))) = a := by
  rw [show 16 * a = 2 * (2 * (2 * (2 * a))) by omega, bitN_zero, bitN_zero, bitN_zero, bitN_zero]
theorem half_eq (n : Nat) : halfN n = bitN (bitN (bitN (bitN n))) := by
  have e : n = 16 * (n / 16) ^^^ (n % 16) := by
    have h1 : 16 * (n / 16) ^^^ (n % 16) = 16 * (n / 16) + n % 16 := by
      have h0 := Nat.two_pow_add_eq_or_of_lt (i := 4) (b := n % 16) (by omega) (n / 16)
      have h2 : 2 ^ 4 * (n / 16) ||| n % 16 = 2 ^ 4 * (n / 16) ^^^ n % 16 := by
        apply Nat.eq_of_testBit_eq; intro i
        rw [Nat.testBit_or, Nat.testBit_xor, Nat.testBit_two_pow_mul]
        by_cases hi : 4 ≤ i
        · have : (n % 16).testBit i = false := Nat.testBit_lt_two_pow (Nat.lt_of_lt_of_le (by omega : n % 16 < 2 ^ 4) (Nat.pow_le_pow_right (by decide) hi))
          simp [this]
        · simp [hi]
      simp only [Nat.reducePow] at h0 h2
      rw [h0, h2]
    omega
  rw [show bitN (bitN (bitN (bitN n))) = bitN (bitN (bitN (bitN (16 * (n / 16) ^^^ n % 16)))) from by rw [← e]]
  simp only [bitN_xor, bit4_high, bit4_low (n % 16) (by omega)]
  rfl
/-- What the document's check makes of a byte, and the program's: one. -/
theorem step_eq (n : Nat) (c : UInt8) : crcStep n c = bits8 (n ^^^ c.toNat) := by
  unfold crcStep bits8; rw [half_eq, half_eq]
end Go.Lw
