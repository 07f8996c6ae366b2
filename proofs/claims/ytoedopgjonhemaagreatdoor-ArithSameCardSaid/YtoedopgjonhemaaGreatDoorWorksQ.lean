/- ArithWorks, plain: numbers, names' texts, what signs do, as the document's machine works them out. -/
import Derived.Test.YtoedopgjonhemaaGreatDoorWorksP
import Derived.Lib.ParseIntBCases
import Derived.IntWalk
namespace Go.Proofs.YtoedopgjonhemaaGreatDoor
open Go Go.RowKit Go.Lw
set_option linter.unusedVariables false
set_option linter.unusedSimpArgs false
abbrev I64 (a : Int) : Prop := -9223372036854775808 ≤ a ∧ a ≤ 9223372036854775807
theorem wk_in {a : Int} (h : I64 a) : W64 a = a := by
  show IntKind.i64.wrap a = a
  rw [IntWalk.i64_left]; unfold wrap64; unfold I64 at h; omega
theorem wk_is (a : Int) : I64 (W64 a) := by
  show I64 (IntKind.i64.wrap a)
  rw [IntWalk.i64_left]; unfold wrap64 I64; omega
theorem wk_mod (a : Int) : W64 a % 18446744073709551616 = a % 18446744073709551616 := by
  show IntKind.i64.wrap a % _ = _
  rw [IntWalk.i64_left]; unfold wrap64; omega
theorem wk_eq {a b : Int} (h : a % 18446744073709551616 = b % 18446744073709551616) : W64 a = W64 b := by
  show IntKind.i64.wrap a = IntKind.i64.wrap b
  rw [IntWalk.i64_left, IntWalk.i64_left]; unfold wrap64; omega
/-! Numbers. -/
def dgN (c : UInt8) : Nat := c.toNat - 48
theorem dg_nat {c : UInt8} (h : digitB c = true) : 48 ≤ c.toNat ∧ c.toNat ≤ 57 := by
  unfold digitB at h
  simpa using h
/-- The document's: none, if it is too great. -/
def numR : List UInt8 → Nat → Option Nat
  | [], n => some n
  | c :: l, n => if (9223372036854775808 - dgN c) / 10 < n then none else numR l (10 * n + dgN c)
theorem big_more : ∀ (l : List UInt8) (acc : Nat), l.all digitB = true → 9223372036854775808 < acc → Lib.parseUintM (2 ^ 64 - 1) acc l = .range ∨ ∃ u, 9223372036854775808 < u ∧ Lib.parseUintM (2 ^ 64 - 1) acc l = .ok u
  | [], acc, _, h => .inr ⟨acc, h, rfl⟩
  | c :: l, acc, hd, h => by
    rw [List.all_cons, Bool.and_eq_true] at hd
    have hc := dg_nat hd.1
    unfold Lib.parseUintM
    rw [if_pos (by omega)]
    split
    · exact .inl rfl
    · split
      · exact .inl rfl
      · exact big_more l _ hd.2 (by omega)
theorem num_law : ∀ (l : List UInt8) (acc : Nat), l.all digitB = true → acc ≤ 9223372036854775808 →
    (∀ n, numR l acc = some n → n ≤ 9223372036854775808 ∧ Lib.parseUintM (2 ^ 64 - 1) acc l = .ok n) ∧ (numR l acc = none → Lib.parseUintM (2 ^ 64 - 1) acc l = .range ∨ ∃ u, 9223372036854775808 < u ∧ Lib.parseUintM (2 ^ 64 - 1) acc l = .ok u)
  | [], acc, _, h => ⟨fun n hn => (by have e : acc = n := Option.some.inj hn; subst e; exact ⟨h, rfl⟩), fun hn => (by exact absurd hn (by unfold numR; simp))⟩
  | c :: l, acc, hd, h => by
    rw [List.all_cons, Bool.and_eq_true] at hd
    have hc := dg_nat hd.1
    have hg : dgN c = c.toNat - 48 := rfl
    unfold numR Lib.parseUintM
    rw [if_pos (show 48 ≤ c.toNat ∧ c.toNat ≤ 57 from hc)]
    by_cases hb : (9223372036854775808 - dgN c) / 10 < acc
    · rw [if_pos hb]
      refine ⟨fun n hn => (by cases hn), fun _ => ?_⟩
      split
      · exact .inl rfl
      · split
        · exact .inl rfl
        · exact big_more l _ hd.2 (by omega)
    · rw [if_neg hb, if_neg (by omega), if_neg (by omega)]
      have := num_law l (acc * 10 + (c.toNat - 48)) hd.2 (by omega)
      rw [show 10 * acc + dgN c = acc * 10 + (c.toNat - 48) by omega]
      exact this
theorem uintB_eq {l : List UInt8} (h : l ≠ []) : Lib.parseUintB 64 l = Lib.parseUintM (2 ^ 64 - 1) 0 l := by unfold Lib.parseUintB; rw [if_neg h]
/-- A text that is digits. -/
theorem num_text {c : UInt8} {l : List UInt8} (h : (c :: l).all digitB = true) : Lib.parseIntB 64 (c :: l) = match numR (c :: l) 0 with
    | some n => if n = 9223372036854775808 then .range else .ok (n : Int)
    | none => .range := by
  have hc := h
  rw [List.all_cons, Bool.and_eq_true] at hc
  have hd := dg_nat hc.1
  rw [Lib.parseIntB_plain 64 c l (by omega) (by omega), uintB_eq (by simp)]
  obtain ⟨h1, h2⟩ := num_law (c :: l) 0 h (by omega)
  cases hn : numR (c :: l) 0 with
  | some n =>
    obtain ⟨h3, h4⟩ := h1 n hn
    rw [h4]
    simp only [Lib.signlessC]
    by_cases e : n = 9223372036854775808
    · rw [if_pos e, if_pos (by omega)]
    · rw [if_neg e, if_neg (by omega)]
  | none =>
    rcases h2 hn with h3 | ⟨u, h3, h4⟩
    · rw [h3]; rfl
    · rw [h4]
      simp only [Lib.signlessC]
      rw [if_pos (by omega)]
theorem tw_all (f : UInt8 → Bool) : ∀ l : List UInt8, (l.takeWhile f).all f = true
  | [] => rfl
  | d :: r => by
    rw [List.takeWhile_cons]
    split
    · rename_i hd
      rw [List.all_cons, hd, tw_all f r]; rfl
    · rfl
/-- What a number at the front is. -/
theorem numberF_eq {s : List UInt8} {c : UInt8} {l : List UInt8} (h : s.takeWhile digitB = c :: l) : numberF s = match numR (c :: l) 0 with
    | some n => if n = 9223372036854775808 then .error 24 else .ok (.num (n : Int), s.dropWhile digitB)
    | none => .error 24 := by
  unfold numberF
  rw [h, num_text (by rw [← h]; exact tw_all digitB s)]
  cases numR (c :: l) 0 with
  | none => rfl
  | some n => by_cases e : n = 9223372036854775808 <;> simp [e]
/-- The document's value of a name's text. -/
def valR (s : List UInt8) : Int × Nat :=
  if s = [] then (0, 0)
  else if (bareA s).all digitB = false ∨ bareA s = [] then (0, 5)
  else match numR (bareA s) 0 with
    | none => (0, 24)
    | some n => if s.head? ≠ some 45 ∧ n = 9223372036854775808 then (0, 24) else (if s.head? = some 45 then -(n : Int) else (n : Int), 0)
theorem val_law (s : List UInt8) : valR s = valueF s := by
  unfold valR valueF
  cases s with
  | nil => rfl
  | cons c r =>
    have hne : ¬ (c :: r) = ([] : List UInt8) := by simp
    rw [if_neg hne, if_neg hne]
    by_cases hb : (bareA (c :: r)).all digitB = false ∨ bareA (c :: r) = []
    · rw [if_pos hb, if_pos (hb.symm)]
    · rw [if_neg hb, if_neg (fun h => hb h.symm)]
      have hb1 : (bareA (c :: r)).all digitB = true := by
        cases hx : (bareA (c :: r)).all digitB with
        | true => rfl
        | false => exact absurd (.inl hx) hb
      have hb2 : bareA (c :: r) ≠ [] := fun e => hb (.inr e)
      obtain ⟨h1, h2⟩ := num_law (bareA (c :: r)) 0 hb1 (by omega)
      by_cases hp : c = 43
      · subst hp
        have eb : bareA (43 :: r) = r := by unfold bareA; simp
        rw [eb] at h1 h2 hb1 hb2 ⊢
        rw [Lib.parseIntB_plus, uintB_eq hb2]
        cases hn : numR r 0 with
        | none =>
          rcases h2 hn with h3 | ⟨u, h3, h4⟩
          · rw [h3]; rfl
          · rw [h4]; simp only [Lib.signlessC]; rw [if_pos (by omega)]
        | some n =>
          obtain ⟨h3, h4⟩ := h1 n hn
          rw [h4]; simp only [Lib.signlessC]
          by_cases e : n = 9223372036854775808
          · subst e; simp
          · rw [if_neg (by omega : ¬ 2 ^ (64 - 1) ≤ n)]; simp [e]
      · by_cases hm : c = 45
        · subst hm
          have eb : bareA (45 :: r) = r := by unfold bareA; simp
          rw [eb] at h1 h2 hb1 hb2 ⊢
          rw [Lib.parseIntB_minus, uintB_eq hb2]
          cases hn : numR r 0 with
          | none =>
            rcases h2 hn with h3 | ⟨u, h3, h4⟩
            · rw [h3]; rfl
            · rw [h4]; simp only [Lib.signedC]; rw [if_pos (by omega)]
          | some n =>
            obtain ⟨h3, h4⟩ := h1 n hn
            rw [h4]; simp only [Lib.signedC]
            rw [if_neg (by omega : ¬ 2 ^ (64 - 1) < n)]; simp
        · have eb : bareA (c :: r) = c :: r := by unfold bareA; simp [hp, hm]
          rw [eb] at hb1 ⊢
          rw [num_text hb1]
          cases hn : numR (c :: r) 0 with
          | none => rfl
          | some n =>
            by_cases e : n = 9223372036854775808
            · subst e; simp [hm]
            · simp [e, hm]
theorem numR_le {l : List UInt8} {n : Nat} (hd : l.all digitB = true) (h : numR l 0 = some n) : n ≤ 9223372036854775808 := ((num_law l 0 hd (by omega)).1 n h).1
/-! Signs between. -/
/-- Shifting by one, again and again. -/
def shL : Nat → Int → Int
  | 0, a => a
  | n + 1, a => shL n (W64 (a + a))
def halfR (a : Int) : Int := if a < 0 then (a + 1).tdiv 2 - 1 else a.tdiv 2
def shR : Nat → Int → Int
  | 0, a => a
  | n + 1, a => shR n (halfR a)
theorem shL_eq : ∀ (n : Nat) (a : Int), I64 a → shL n a = W64 (a * 2 ^ n)
  | 0, a, h => by rw [Int.pow_zero, Int.mul_one, wk_in h]; rfl
  | n + 1, a, h => by
    show shL n (W64 (a + a)) = _
    rw [shL_eq n _ (wk_is _)]
    refine wk_eq ?_
    rw [Int.mul_emod, wk_mod, ← Int.mul_emod, Int.pow_succ]
    congr 1
    rw [show a + a = a * 2 by omega, Int.mul_assoc, Int.mul_comm 2]
theorem half_eq (a : Int) : halfR a = a.fdiv 2 := by
  unfold halfR
  rw [Int.fdiv_eq_ediv_of_nonneg _ (by decide)]
  split
  · rename_i h
    have e : (a + 1).tdiv 2 = -((-(a + 1)) / 2) := by
      rw [← Int.neg_neg (a + 1), Int.neg_tdiv, Int.neg_neg, Int.tdiv_eq_ediv_of_nonneg (by omega)]
    rw [e]; omega
  · rw [Int.tdiv_eq_ediv_of_nonneg (by omega)]
theorem shR_eq : ∀ (n : Nat) (a : Int), shR n a = a.fdiv (2 ^ n)
  | 0, a => by
    show a = _
    rw [Int.pow_zero]
    exact (Int.fdiv_one a).symm
  | n + 1, a => by
    show shR n (halfR a) = _
    rw [shR_eq n, half_eq]
    have h2 : (0 : Int) ≤ 2 ^ n := Int.le_of_lt (Int.pow_pos (by decide))
    rw [Int.fdiv_eq_ediv_of_nonneg _ h2, Int.fdiv_eq_ediv_of_nonneg a (show (0:Int) ≤ 2 by decide), Int.fdiv_eq_ediv_of_nonneg _ (Int.le_of_lt (Int.pow_pos (by decide))), Int.pow_succ, Int.mul_comm, Int.ediv_ediv_of_nonneg (by decide)]
theorem shR_in {a : Int} (n : Nat) (h : I64 a) : I64 (shR n a) := by
  induction n generalizing a with
  | zero => exact h
  | succ n ih =>
    refine ih ?_
    rw [half_eq, Int.fdiv_eq_ediv_of_nonneg _ (by decide)]
    unfold I64 at *; omega
theorem rest_eq {a b : Int} (ha : I64 a) (hb : I64 b) (h : b ≠ 0) : W64 (a - W64 (W64 (a.tdiv b) * b)) = a.tmod b := by
  have e : a.tmod b = a - a.tdiv b * b := by have := Int.mul_tdiv_add_tmod a b; rw [Int.mul_comm] at this; omega
  have hin : I64 (a.tmod b) := by
    have h1 := Int.tmod_lt_of_pos a (b := (b.natAbs : Int)) (by omega)
    have h2 : a.tmod (b.natAbs : Int) = a.tmod b := by
      rcases Int.natAbs_eq b with h | h
      · rw [← h]
      · rw [show (b.natAbs : Int) = -b by omega, Int.tmod_neg]
    have h3 : -(b.natAbs : Int) < a.tmod b := by
      have := Int.tmod_lt_of_pos (-a) (b := (b.natAbs : Int)) (by omega)
      rw [Int.neg_tmod, h2] at this
      omega
    unfold I64 at *; omega
  rw [← wk_in hin, e]
  refine wk_eq ?_
  have h1 : W64 (W64 (a.tdiv b) * b) % 18446744073709551616 = (a.tdiv b * b) % 18446744073709551616 := by
    rw [wk_mod, Int.mul_emod, wk_mod, ← Int.mul_emod]
  omega
theorem neg_not (a : Int) (h : I64 a) : W64 (BitVec.ofInt 64 (-1) ^^^ BitVec.ofInt 64 a).toNat = W64 (W64 (0 - a) - 1) := by
  refine wk_eq ?_
  have h1 : BitVec.ofInt 64 (-1) = BitVec.allOnes 64 := by decide
  rw [h1, BitVec.allOnes_xor]
  have h2 : W64 (0 - a) % 18446744073709551616 = (0 - a) % 18446744073709551616 := wk_mod _
  rw [BitVec.toNat_not]
  have h3 : ((BitVec.ofInt 64 a).toNat : Int) = a % 18446744073709551616 := by
    rw [BitVec.toNat_ofInt]
    rw [Int.toNat_of_nonneg (Int.emod_nonneg _ (by decide))]
    rfl
  have h4 := (BitVec.ofInt 64 a).isLt
  omega
end Go.Proofs.YtoedopgjonhemaaGreatDoor
