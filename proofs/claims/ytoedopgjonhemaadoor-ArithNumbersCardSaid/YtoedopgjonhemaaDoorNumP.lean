/- Numbers as texts, plain: what Itoa writes is read as that number. -/
import Derived.Test.YtoedopgjonhemaaDoorArith12
import Derived.Lib.ItoaNum
import Derived.Lib.ItoaLen
import Derived.Lib.ItoaMem
import Derived.Lib.ParseIntBCases
namespace Go.Proofs.YtoedopgjonhemaaDoor
open Go Go.RowKit Go.Lw
set_option linter.unusedVariables false
set_option linter.unusedSimpArgs false
theorem digit_dg (k : Nat) (h : k < 10) : digitB (UInt8.ofNat (48 + k)) = true ∧ (UInt8.ofNat (48 + k)).toNat = 48 + k := by
  have e : (UInt8.ofNat (48 + k)).toNat = 48 + k := by simp [UInt8.toNat_ofNat']; omega
  refine ⟨?_, e⟩
  unfold digitB
  rw [e]; simp; omega
theorem dec_ne (u : Nat) : Lib.decDigits u ≠ [] := by
  rw [Lib.decDigits]
  split
  · simp
  · simp
theorem dec_all : ∀ u : Nat, (Lib.decDigits u).all digitB = true := by
  intro u
  induction u using Nat.strongRecOn with
  | ind u ih =>
    rw [Lib.decDigits]
    split
    · rename_i h
      simp only [List.all_cons, List.all_nil, Bool.and_true]
      exact (digit_dg u h).1
    · rw [List.all_append, ih (u / 10) (by omega)]
      simp only [List.all_cons, List.all_nil, Bool.and_true, Bool.true_and]
      exact (digit_dg (u % 10) (by omega)).1
theorem parseM_app (M : Nat) : ∀ (l : List UInt8) (acc v : Nat) (r : List UInt8), Lib.parseUintM M acc l = .ok v → Lib.parseUintM M acc (l ++ r) = Lib.parseUintM M v r
  | [], acc, v, r, h => by
    unfold Lib.parseUintM at h
    cases h; rfl
  | c :: l, acc, v, r, h => by
    unfold Lib.parseUintM at h
    rw [List.cons_append]
    conv => lhs; unfold Lib.parseUintM
    split at h
    · rename_i h1
      rw [if_pos h1]
      split at h
      · cases h
      · rename_i h2
        rw [if_neg h2]
        split at h
        · cases h
        · rename_i h3
          rw [if_neg h3]
          exact parseM_app M l _ v r h
    · cases h
theorem parse_dec : ∀ u : Nat, u < 18446744073709551616 → Lib.parseUintM (2 ^ 64 - 1) 0 (Lib.decDigits u) = .ok u := by
  intro u
  induction u using Nat.strongRecOn with
  | ind u ih =>
    intro hu
    rw [Lib.decDigits]
    split
    · rename_i h
      have hd := (digit_dg u h).2
      unfold Lib.parseUintM
      rw [if_pos (by rw [hd]; omega), if_neg (by omega), hd, if_neg (by omega)]
      unfold Lib.parseUintM
      congr 1; omega
    · rename_i h
      rw [parseM_app _ _ _ _ _ (ih (u / 10) (by omega) (by omega))]
      have hd := (digit_dg (u % 10) (by omega)).2
      unfold Lib.parseUintM
      rw [if_pos (by rw [hd]; omega), if_neg (by omega), hd, if_neg (by omega)]
      unfold Lib.parseUintM
      congr 1; omega
theorem dec_cons (u : Nat) : ∃ c r, Lib.decDigits u = c :: r ∧ digitB c = true := by
  have h1 := dec_ne u; have h2 := dec_all u
  cases h : Lib.decDigits u with
  | nil => exact absurd h h1
  | cons c r =>
    rw [h, List.all_cons, Bool.and_eq_true] at h2
    exact ⟨c, r, rfl, h2.1⟩
theorem digit_nat {c : UInt8} (h : digitB c = true) : 48 ≤ c.toNat ∧ c.toNat ≤ 57 := by
  unfold digitB at h
  simpa using h
theorem parseI_dec (u : Nat) (hu : u < 9223372036854775808) : Lib.parseIntB 64 (Lib.decDigits u) = .ok (u : Int) := by
  obtain ⟨c, r, hc, hd⟩ := dec_cons u
  have hp := parse_dec u (by omega)
  have hn := digit_nat hd
  rw [hc] at hp ⊢
  rw [Lib.parseIntB_plain 64 c r (by omega) (by omega)]
  unfold Lib.parseUintB
  rw [if_neg (by simp), hp]
  unfold Lib.signlessC
  simp
  omega
theorem parseI_neg (u : Nat) (hu : u ≤ 9223372036854775808) : Lib.parseIntB 64 (45 :: Lib.decDigits u) = .ok (-(u : Int)) := by
  have hp := parse_dec u (by omega)
  rw [Lib.parseIntB_minus]
  unfold Lib.parseUintB
  rw [if_neg (dec_ne u), hp]
  unfold Lib.signedC
  simp
  omega
theorem parse_itoa (n : Int) (h0 : -9223372036854775808 ≤ n) (h1 : n ≤ 9223372036854775807) : Lib.parseIntB 64 (Lib.itoa n) = .ok n := by
  unfold Lib.itoa
  split
  · rw [parseI_neg _ (by omega)]; congr 1; omega
  · rw [parseI_dec _ (by omega)]; congr 1; omega
/-! What is read at the front. -/
theorem sign_digit {c : UInt8} (r : List UInt8) (h : digitB c = true) : signF (c :: r) = [] := by
  have hn := digit_nat h
  unfold signF
  rw [List.find?_eq_none.2]
  · rfl
  · intro o ho
    have key : ∀ g ∈ signsL, ∃ d q, g = d :: q ∧ digitB d = false := by
      have : signsL.all (fun g => match g with | [] => false | d :: _ => !digitB d) = true := by decide +kernel
      intro g hg
      have := List.all_eq_true.1 this g hg
      cases g with
      | nil => cases this
      | cons d q => exact ⟨d, q, rfl, by simpa using this⟩
    obtain ⟨d, q, rfl, hd⟩ := key o ho
    rw [List.length_cons, List.take_succ_cons]
    intro he
    have := (List.cons.inj (beq_iff_eq.1 he)).1
    rw [← this, h] at hd; cases hd
theorem trim_digit {c : UInt8} (r : List UInt8) (h : digitB c = true) : trimA (c :: r) = c :: r := by
  have hn := digit_nat h
  unfold trimA
  rw [List.dropWhile_cons, if_neg]
  unfold blankA
  simp only [Bool.or_eq_true, beq_iff_eq, not_or]
  constructor <;> (rintro rfl; revert hn; decide)
theorem tw_app {l : List UInt8} (r : List UInt8) (h : l.all digitB = true) (hr : ∀ c, r.head? = some c → digitB c = false) : (l ++ r).takeWhile digitB = l ∧ (l ++ r).dropWhile digitB = r := by
  induction l with
  | nil =>
    cases r with
    | nil => exact ⟨rfl, rfl⟩
    | cons c r =>
      have := hr c rfl
      simp [this]
  | cons c l ih =>
    rw [List.all_cons, Bool.and_eq_true] at h
    have := ih h.2
    rw [List.cons_append, List.takeWhile_cons, List.dropWhile_cons, if_pos h.1, if_pos h.1, this.1, this.2]
    exact ⟨rfl, rfl⟩
theorem one_dec (d u : Nat) (r : List UInt8) (hu : u < 9223372036854775808) (hr : ∀ c, r.head? = some c → digitB c = false) : rdA .one d (Lib.decDigits u ++ r) = .ok (.num u, r) := by
  obtain ⟨c, q, hc, hd⟩ := dec_cons u
  have htw := tw_app r (dec_all u) hr
  have hp := parseI_dec u hu
  rw [rdA_one]
  rw [hc] at htw hp ⊢
  rw [List.cons_append] at htw ⊢
  rw [trim_digit _ hd, if_neg (by simp), sign_digit _ hd, if_neg (by decide), if_neg (by decide), if_pos (by simpa using hd)]
  unfold numberF
  rw [htw.1, htw.2, hp]
/-- A number as it is read. -/
def numEx (n : Int) : Ex := if n < 0 then .un [45] (.num (-n)) else .num n
theorem sign_minus (r : List UInt8) : signF (45 :: r) = [45] := by
  unfold signF signsL
  simp [List.find?]
theorem one_itoa (d : Nat) (n : Int) (r : List UInt8) (hd : d ≤ 15) (h0 : -9223372036854775808 < n) (h1 : n ≤ 9223372036854775807) (hr : ∀ c, r.head? = some c → digitB c = false) : rdA .one d (Lib.itoa n ++ r) = .ok (numEx n, r) := by
  unfold Lib.itoa numEx
  split
  · rw [rdA_one, List.cons_append]
    have ht : trimA (45 :: (Lib.decDigits n.natAbs ++ r)) = 45 :: (Lib.decDigits n.natAbs ++ r) := rfl
    rw [ht, if_neg (by simp), sign_minus, if_pos (by decide), if_neg (by omega)]
    have e : List.drop ([45] : List UInt8).length (45 :: (Lib.decDigits n.natAbs ++ r)) = Lib.decDigits n.natAbs ++ r := rfl
    rw [e, one_dec _ _ _ (by omega) hr]
    simp only
    congr 4
    omega
  · rw [one_dec _ _ _ (by omega) hr]
    congr 3
    omega
/-- What a read number is worth. -/
theorem of_numEx (env : List UInt8 → List UInt8) (n : Int) (h0 : -9223372036854775808 < n) (h1 : n ≤ 9223372036854775807) : ofF env (numEx n) = ⟨n, 0, []⟩ := by
  unfold numEx
  split
  · show (⟨aheadF [45] (-n), 0, []⟩ : Va) = _
    congr 1
    unfold aheadF
    rw [if_pos rfl]
    show IntKind.i64.wrap (0 - -n) = n
    rw [IntWalk.i64_left]
    unfold wrap64
    omega
  · rfl
theorem itoa_cons (n : Int) : ∃ c r, Lib.itoa n = c :: r ∧ (digitB c = true ∨ c = 45) := by
  unfold Lib.itoa
  split
  · exact ⟨45, _, rfl, .inr rfl⟩
  · obtain ⟨c, r, hc, hd⟩ := dec_cons n.toNat
    exact ⟨c, r, hc, .inl hd⟩
/-- What stands ahead of blanks is read behind them. -/
theorem one_blank (d : Nat) (s : List UInt8) : rdA .one d (32 :: s) = rdA .one d s := by
  have ht : trimA (32 :: s) = trimA s := rfl
  refine (rdA_one d (32 :: s)).trans (Eq.trans ?_ (rdA_one d s).symm)
  rw [ht]
end Go.Proofs.YtoedopgjonhemaaDoor
