/- Arithmetic, plain: how a text is read; what it is worth. -/
import Derived.Test.YtoedopgjonhemaaGreatDoorScanP
import Derived.Lib.ParseIntB
namespace Go.Proofs.YtoedopgjonhemaaGreatDoor
open Go Go.RowKit Go.Lw
set_option linter.unusedVariables false
set_option linter.unusedSimpArgs false
def blankA (c : UInt8) : Bool := c == 32 || c == 9
def trimA (s : List UInt8) : List UInt8 := s.dropWhile blankA
def signsL : List (List UInt8) := [[124, 124], [38, 38], [61, 61], [33, 61], [60, 61], [62, 61], [60, 60], [62, 62], [63], [58], [124], [94], [38], [60], [62], [43], [45], [42], [47], [37], [33], [126], [40], [41]]
/-- The sign at the front; none: nothing. -/
def signF (r : List UInt8) : List UInt8 := (signsL.find? fun g => r.take g.length == g).getD []
def rowsL : List (List (List UInt8)) := [[[124, 124]], [[38, 38]], [[124]], [[94]], [[38]], [[61, 61], [33, 61]], [[60], [60, 61], [62], [62, 61]], [[60, 60], [62, 62]], [[43], [45]], [[42], [47], [37]]]
def aheadL : List (List UInt8) := [[45], [43], [33], [126]]
/-- An expression. -/
inductive Ex where
  | num (n : Int)
  | name (s : List UInt8)
  | un (g : List UInt8) (a : Ex)
  | bin (g : List UInt8) (a b : Ex)
  | cond (a b c : Ex)
deriving DecidableEq
/-- A name at the front. -/
def nameA : List UInt8 → List UInt8
  | [] => []
  | c :: r => if letterB c true then (c :: r.takeWhile (fun c => letterB c false)).take 32 else []
abbrev Rx := Except Nat (Ex × List UInt8)
/-- A number at the front. -/
def numberF (s : List UInt8) : Rx := match Lib.parseIntB 64 (s.takeWhile digitB) with
  | .ok v => .ok (.num v, s.dropWhile digitB)
  | _ => .error 24
/-- A name, or nothing that is known. -/
def wordA (s : List UInt8) : Rx := if nameA s = [] then .error 5 else .ok (.name (nameA s), s.drop (nameA s).length)
inductive Lvl where
  | one
  | row (k : Nat)
  | loop (k : Nat) (x : Ex)
  | all
/-- Reading, at depth d. -/
def readA : Nat → Lvl → Nat → List UInt8 → Rx
  | 0, _, _, _ => .error 5
  | n + 1, .one, d, s =>
    if trimA s = [] then .error 5
    else if signF (trimA s) ∈ aheadL then
      (if 16 < d + 1 then .error 12 else match readA n .one (d + 1) ((trimA s).drop (signF (trimA s)).length) with
        | .error e => .error e
        | .ok y => .ok (.un (signF (trimA s)) y.1, y.2))
    else if signF (trimA s) = [40] then
      (if 16 < d + 1 then .error 12 else match readA n .all (d + 1) ((trimA s).drop 1) with
        | .error e => .error e
        | .ok y => if signF (trimA y.2) = [41] then .ok (y.1, (trimA y.2).drop 1) else .error 5)
    else if (trimA s).head?.any digitB then numberF (trimA s)
    else wordA (trimA s)
  | n + 1, .row k, d, s =>
    if 10 ≤ k then readA n .one d s
    else match readA n (.row (k + 1)) d s with
      | .error e => .error e
      | .ok y => readA n (.loop k y.1) d y.2
  | n + 1, .loop k x, d, s =>
    if signF (trimA s) ∈ rowsL.getD k [] then match readA n (.row (k + 1)) d ((trimA s).drop (signF (trimA s)).length) with
      | .error e => .error e
      | .ok y => readA n (.loop k (.bin (signF (trimA s)) x y.1)) d y.2
    else .ok (x, trimA s)
  | n + 1, .all, d, s =>
    match readA n (.row 0) d s with
    | .error e => .error e
    | .ok x =>
      if signF (trimA x.2) = [63] then
        (if 16 < d + 1 then .error 12 else match readA n .all (d + 1) ((trimA x.2).drop 1) with
          | .error e => .error e
          | .ok y => if signF (trimA y.2) = [58] then (match readA n .all (d + 1) ((trimA y.2).drop 1) with
              | .error e => .error e
              | .ok z => .ok (.cond x.1 y.1 z.1, z.2))
            else .error 5)
      else .ok (x.1, trimA x.2)
/-- How many steps suffice. -/
def needA : Lvl → Nat → Nat
  | .one, m => 14 * m + 1
  | .row k, m => 14 * m + 2 + (10 - k)
  | .loop k _, m => 14 * m + 1 + (10 - k)
  | .all, m => 14 * m + 13
theorem trimA_len (s : List UInt8) : (trimA s).length ≤ s.length := (List.dropWhile_sublist _).length_le
theorem trimA_idem (s : List UInt8) : trimA (trimA s) = trimA s := by
  unfold trimA
  induction s with
  | nil => rfl
  | cons c s ih =>
    rw [List.dropWhile_cons]
    split
    · exact ih
    · rename_i h
      rw [List.dropWhile_cons, if_neg h]
theorem signF_in (r : List UInt8) : signF r = [] ∨ (signF r ∈ signsL ∧ r.take (signF r).length = signF r) := by
  unfold signF
  cases h : signsL.find? fun g => r.take g.length == g with
  | none => exact .inl rfl
  | some g =>
    right
    have h1 := List.find?_some h
    exact ⟨List.mem_of_find?_eq_some h, by simpa using h1⟩
theorem signsL_len : ∀ g ∈ signsL, 1 ≤ g.length ∧ g.length ≤ 2 := by decide
theorem signF_len {r : List UInt8} (h : signF r ≠ []) : 1 ≤ (signF r).length ∧ (signF r).length ≤ r.length ∧ (signF r).length ≤ 2 := by
  rcases signF_in r with h0 | ⟨h1, h2⟩
  · exact absurd h0 h
  · have h3 := signsL_len _ h1
    have h4 := congrArg List.length h2
    rw [List.length_take] at h4
    omega
theorem drop_less {s : List UInt8} {g : List UInt8} (h : signF (trimA s) = g) (hg : g ≠ []) : ((trimA s).drop g.length).length < s.length := by
  subst h
  have h1 := signF_len hg
  have h2 := trimA_len s
  rw [List.length_drop]; omega
theorem rowsL_ne : ∀ k, k < 11 → [] ∉ rowsL.getD k [] := by decide
theorem rows_mem_ne {k : Nat} {g : List UInt8} (h : g ∈ rowsL.getD k []) : g ≠ [] := by
  rintro rfl
  rcases Nat.lt_or_ge k 11 with hk | hk
  · exact rowsL_ne k hk h
  · rw [List.getD_eq_getElem?_getD, List.getElem?_eq_none (by show 10 ≤ k; omega)] at h
    cases h
theorem nameA_len (s : List UInt8) : (nameA s).length ≤ s.length := by
  cases s with
  | nil => exact Nat.zero_le _
  | cons c r =>
    unfold nameA
    simp only
    split
    · have := (List.takeWhile_sublist (fun c => letterB c false) (l := r)).length_le
      rw [List.length_take, List.length_cons, List.length_cons]
      omega
    · exact Nat.zero_le _
/-- What is left is no longer. -/
theorem readA_len : ∀ (n : Nat) (l : Lvl) (d : Nat) (s : List UInt8) {x : Ex × List UInt8}, readA n l d s = .ok x → x.2.length ≤ s.length
  | 0, l, d, s, x, h => by unfold readA at h; cases h
  | n + 1, .one, d, s, x, h => by
    have ht := trimA_len s
    unfold readA at h
    split at h
    · cases h
    · split at h
      · rename_i ha
        split at h
        · cases h
        · split at h
          · cases h
          · rename_i y hy
            cases h
            have := readA_len n _ _ _ hy
            rw [List.length_drop] at this
            show y.2.length ≤ _
            omega
      · split at h
        · split at h
          · cases h
          · split at h
            · cases h
            · rename_i y hy
              split at h
              · cases h
                have h1 := readA_len n _ _ _ hy
                have h2 := trimA_len y.2
                rw [List.length_drop] at h1
                show ((trimA y.2).drop 1).length ≤ _
                rw [List.length_drop]; omega
              · cases h
        · split at h
          · unfold numberF at h
            split at h
            · cases h
              have := (List.dropWhile_sublist digitB (l := trimA s)).length_le
              show ((trimA s).dropWhile digitB).length ≤ _
              omega
            · cases h
          · unfold wordA at h
            split at h
            · cases h
            · cases h
              show ((trimA s).drop _).length ≤ _
              rw [List.length_drop]; omega
  | n + 1, .row k, d, s, x, h => by
    unfold readA at h
    split at h
    · exact readA_len n _ _ _ h
    · split at h
      · cases h
      · rename_i y hy
        have h1 := readA_len n _ _ _ hy
        have h2 := readA_len n _ _ _ h
        omega
  | n + 1, .loop k y, d, s, x, h => by
    have ht := trimA_len s
    unfold readA at h
    split at h
    · split at h
      · cases h
      · rename_i y hy
        have h1 := readA_len n _ _ _ hy
        have h2 := readA_len n _ _ _ h
        rw [List.length_drop] at h1
        omega
    · cases h; exact ht
  | n + 1, .all, d, s, x, h => by
    unfold readA at h
    split at h
    · cases h
    · rename_i x0 hx
      have h1 := readA_len n _ _ _ hx
      have ht := trimA_len x0.2
      split at h
      · split at h
        · cases h
        · split at h
          · cases h
          · rename_i y hy
            have h2 := readA_len n _ _ _ hy
            have ht2 := trimA_len y.2
            split at h
            · split at h
              · cases h
              · rename_i z hz
                cases h
                have h3 := readA_len n _ _ _ hz
                rw [List.length_drop] at h2 h3
                show z.2.length ≤ _
                omega
            · cases h
      · cases h
        show (trimA x0.2).length ≤ _
        omega
/-- More steps turn nothing. -/
theorem readA_more : ∀ (n : Nat) (l : Lvl) (d : Nat) (s : List UInt8), needA l s.length ≤ n → readA (n + 1) l d s = readA n l d s
  | 0, l, d, s, h => by
    exfalso
    cases l with
    | one => simp [needA] at h
    | all => simp [needA] at h
    | row k => simp only [needA] at h; omega
    | loop k x => simp only [needA] at h; omega
  | n + 1, .one, d, s, h => by
    simp only [needA] at h
    conv => lhs; unfold readA
    conv => rhs; unfold readA
    split
    · rfl
    · split
      · rename_i ha
        have hne : signF (trimA s) ≠ [] := fun e => by rw [e] at ha; exact absurd ha (by decide)
        have := drop_less rfl hne
        rw [readA_more n .one _ _ (by simp only [needA]; omega)]
      · split
        · rename_i hp
          have := drop_less hp (by simp)
          rw [readA_more n .all _ _ (by simp only [needA]; simp only [List.length_cons, List.length_nil, Nat.zero_add] at this; omega)]
        · rfl
  | n + 1, .row k, d, s, h => by
    simp only [needA] at h
    conv => lhs; unfold readA
    conv => rhs; unfold readA
    split
    · exact readA_more n .one _ _ (by simp only [needA]; omega)
    · rename_i hk
      rw [readA_more n (.row (k + 1)) _ _ (by simp only [needA]; omega)]
      split
      · rfl
      · rename_i y hy
        have := readA_len n _ _ _ hy
        exact readA_more n (.loop k y.1) _ _ (by simp only [needA]; omega)
  | n + 1, .loop k x, d, s, h => by
    simp only [needA] at h
    conv => lhs; unfold readA
    conv => rhs; unfold readA
    split
    · rename_i hm
      have h1 := drop_less rfl (rows_mem_ne hm)
      rw [readA_more n (.row (k + 1)) _ _ (by simp only [needA]; omega)]
      split
      · rfl
      · rename_i y hy
        have := readA_len n _ _ _ hy
        exact readA_more n (.loop k _) _ _ (by simp only [needA]; omega)
    · rfl
  | n + 1, .all, d, s, h => by
    simp only [needA] at h
    conv => lhs; unfold readA
    conv => rhs; unfold readA
    rw [readA_more n (.row 0) _ _ (by simp only [needA]; omega)]
    split
    · rfl
    · rename_i x hx
      have h0 := readA_len n _ _ _ hx
      split
      · rename_i hq
        have h1 := drop_less hq (by simp)
        simp only [List.length_cons, List.length_nil, Nat.zero_add] at h1
        rw [readA_more n .all _ _ (by simp only [needA]; omega)]
        split
        · rfl
        · split
          · rfl
          · rename_i y hy
            have h2 := readA_len n _ _ _ hy
            split
            · rename_i hc
              have h3 := drop_less hc (by simp)
              simp only [List.length_cons, List.length_nil, Nat.zero_add] at h3
              rw [readA_more n .all _ _ (by simp only [needA]; omega)]
            · rfl
      · rfl
theorem readA_fuel (n k : Nat) (l : Lvl) (d : Nat) (s : List UInt8) (h : needA l s.length ≤ n) : readA (n + k) l d s = readA n l d s := by
  induction k with
  | zero => rfl
  | succ k ih => rw [← Nat.add_assoc, readA_more (n + k) l d s (by omega), ih]
/-- Reading, with as many steps as it needs. -/
def rdA (l : Lvl) (d : Nat) (s : List UInt8) : Rx := readA (needA l s.length) l d s
theorem rdA_of {n : Nat} {l : Lvl} {d : Nat} {s : List UInt8} (h : needA l s.length ≤ n) : readA n l d s = rdA l d s := by
  obtain ⟨k, rfl⟩ : ∃ k, n = needA l s.length + k := ⟨n - needA l s.length, by omega⟩
  exact readA_fuel _ _ _ _ _ (Nat.le_refl _)
theorem rdA_len {l : Lvl} {d : Nat} {s : List UInt8} {x : Ex × List UInt8} (h : rdA l d s = .ok x) : x.2.length ≤ s.length := readA_len _ _ _ _ h
theorem rdA_one (d : Nat) (s : List UInt8) : rdA .one d s =
    if trimA s = [] then .error 5
    else if signF (trimA s) ∈ aheadL then
      (if 16 < d + 1 then .error 12 else match rdA .one (d + 1) ((trimA s).drop (signF (trimA s)).length) with
        | .error e => .error e
        | .ok y => .ok (.un (signF (trimA s)) y.1, y.2))
    else if signF (trimA s) = [40] then
      (if 16 < d + 1 then .error 12 else match rdA .all (d + 1) ((trimA s).drop 1) with
        | .error e => .error e
        | .ok y => if signF (trimA y.2) = [41] then .ok (y.1, (trimA y.2).drop 1) else .error 5)
    else if (trimA s).head?.any digitB then numberF (trimA s)
    else wordA (trimA s) := by
  conv => lhs; unfold rdA; simp only [needA]; unfold readA
  split
  · rfl
  · split
    · rename_i ha
      have hne : signF (trimA s) ≠ [] := fun e => by rw [e] at ha; exact absurd ha (by decide)
      have := drop_less rfl hne
      rw [rdA_of (l := .one) (by simp only [needA]; omega)]
    · split
      · rename_i hp
        have := drop_less hp (by simp)
        rw [rdA_of (l := .all) (by simp only [needA]; simp only [List.length_cons, List.length_nil, Nat.zero_add] at this; omega)]
      · rfl
theorem rdA_row10 (k : Nat) (d : Nat) (s : List UInt8) (h : 10 ≤ k) : rdA (.row k) d s = rdA .one d s := by
  conv => lhs; unfold rdA; simp only [needA]; rw [show 14 * s.length + 2 + (10 - k) = (14 * s.length + 1 + (10 - k)) + 1 by omega]; unfold readA
  rw [if_pos h]
  exact rdA_of (by simp only [needA]; omega)
theorem rdA_row (k : Nat) (d : Nat) (s : List UInt8) (h : k < 10) : rdA (.row k) d s = match rdA (.row (k + 1)) d s with
    | .error e => .error e
    | .ok y => rdA (.loop k y.1) d y.2 := by
  conv => lhs; unfold rdA; simp only [needA]; rw [show 14 * s.length + 2 + (10 - k) = (14 * s.length + 1 + (10 - k)) + 1 by omega]; unfold readA
  rw [if_neg (by omega), rdA_of (l := .row (k + 1)) (by simp only [needA]; omega)]
  cases hx : rdA (.row (k + 1)) d s with
  | error e => rfl
  | ok y =>
    have := rdA_len hx
    exact rdA_of (by simp only [needA]; omega)
theorem rdA_loop (k : Nat) (x : Ex) (d : Nat) (s : List UInt8) : rdA (.loop k x) d s =
    if signF (trimA s) ∈ rowsL.getD k [] then match rdA (.row (k + 1)) d ((trimA s).drop (signF (trimA s)).length) with
      | .error e => .error e
      | .ok y => rdA (.loop k (.bin (signF (trimA s)) x y.1)) d y.2
    else .ok (x, trimA s) := by
  conv => lhs; unfold rdA; simp only [needA]; rw [show 14 * s.length + 1 + (10 - k) = (14 * s.length + (10 - k)) + 1 by omega]; unfold readA
  split
  · rename_i hm
    have h1 := drop_less rfl (rows_mem_ne hm)
    rw [rdA_of (l := .row (k + 1)) (by simp only [needA]; omega)]
    cases hx : rdA (.row (k + 1)) d ((trimA s).drop (signF (trimA s)).length) with
    | error e => rfl
    | ok y =>
      have := rdA_len hx
      exact rdA_of (by simp only [needA]; omega)
  · rfl
theorem rdA_all (d : Nat) (s : List UInt8) : rdA .all d s = match rdA (.row 0) d s with
    | .error e => .error e
    | .ok x =>
      if signF (trimA x.2) = [63] then
        (if 16 < d + 1 then .error 12 else match rdA .all (d + 1) ((trimA x.2).drop 1) with
          | .error e => .error e
          | .ok y => if signF (trimA y.2) = [58] then (match rdA .all (d + 1) ((trimA y.2).drop 1) with
              | .error e => .error e
              | .ok z => .ok (.cond x.1 y.1 z.1, z.2))
            else .error 5)
      else .ok (x.1, trimA x.2) := by
  conv => lhs; unfold rdA; simp only [needA]; unfold readA
  rw [rdA_of (l := .row 0) (by simp only [needA]; omega)]
  cases hx : rdA (.row 0) d s with
  | error e => rfl
  | ok x =>
    have h0 := rdA_len hx
    simp only
    split
    · rename_i hq
      have h1 := drop_less hq (by simp)
      simp only [List.length_cons, List.length_nil, Nat.zero_add] at h1
      rw [rdA_of (l := .all) (by simp only [needA]; omega)]
      split
      · rfl
      · cases hy : rdA .all (d + 1) ((trimA x.2).drop 1) with
        | error e => rfl
        | ok y =>
          have h2 := rdA_len hy
          simp only
          split
          · rename_i hc
            have h3 := drop_less hc (by simp)
            simp only [List.length_cons, List.length_nil, Nat.zero_add] at h3
            rw [rdA_of (l := .all) (by simp only [needA]; omega)]
          · rfl
    · rfl
/-- A text, read. -/
def readT (s : List UInt8) : Except Nat Ex := match rdA .all 0 s with
  | .error e => .error e
  | .ok x => if trimA x.2 = [] then .ok x.1 else .error 5
/-! What it is worth. -/
abbrev W64 (n : Int) : Int := IntKind.i64.wrap n
def truthI (b : Bool) : Int := if b then 1 else 0
/-- A name's text as a number. -/
def bareA (s : List UInt8) : List UInt8 := if s.head? = some 43 ∨ s.head? = some 45 then s.drop 1 else s
def valueF (s : List UInt8) : Int × Nat :=
  if s = [] then (0, 0)
  else if bareA s = [] ∨ (bareA s).all digitB = false then (0, 5)
  else match Lib.parseIntB 64 s with
    | .ok v => (v, 0)
    | _ => (0, 24)
def aheadF (g : List UInt8) (n : Int) : Int := if g = [45] then W64 (0 - n) else if g = [33] then truthI (n == 0) else if g = [126] then W64 (BitVec.ofInt 64 (-1) ^^^ BitVec.ofInt 64 n).toNat else n
def minI : Int := -9223372036854775808
/-- What a sign between two does. -/
def binF (g : List UInt8) (a b : Int) : Int × Nat :=
  if g = [124] then (W64 (BitVec.ofInt 64 a ||| BitVec.ofInt 64 b).toNat, 0)
  else if g = [94] then (W64 (BitVec.ofInt 64 a ^^^ BitVec.ofInt 64 b).toNat, 0)
  else if g = [38] then (W64 (BitVec.ofInt 64 a &&& BitVec.ofInt 64 b).toNat, 0)
  else if g = [61, 61] then (truthI (a == b), 0)
  else if g = [33, 61] then (truthI (a != b), 0)
  else if g = [60] then (truthI (decide (a < b)), 0)
  else if g = [60, 61] then (truthI (decide (a ≤ b)), 0)
  else if g = [62] then (truthI (decide (b < a)), 0)
  else if g = [62, 61] then (truthI (decide (b ≤ a)), 0)
  else if g = [60, 60] then (if b < 0 ∨ 63 < b then (0, 24) else (W64 (a * 2 ^ b.toNat), 0))
  else if g = [62, 62] then (if b < 0 ∨ 63 < b then (0, 24) else (a.fdiv (2 ^ b.toNat), 0))
  else if g = [43] then (W64 (a + b), 0)
  else if g = [45] then (W64 (a - b), 0)
  else if g = [42] then (W64 (a * b), 0)
  else if b = 0 ∨ (a = minI ∧ b = -1) then (0, 25)
  else if g = [47] then (W64 (a.tdiv b), 0)
  else (a.tmod b, 0)
/-- A value, an error, the names that were asked. -/
structure Va where
  v : Int
  e : Nat
  l : List (List UInt8)
deriving DecidableEq
/-- An expression's value, with names' texts. -/
def ofF (env : List UInt8 → List UInt8) : Ex → Va
  | .num n => ⟨n, 0, []⟩
  | .name s => ⟨(valueF (env s)).1, (valueF (env s)).2, [s]⟩
  | .un g a => ⟨aheadF g (ofF env a).v, (ofF env a).e, (ofF env a).l⟩
  | .cond a b c => if (ofF env a).e ≠ 0 then ⟨0, (ofF env a).e, (ofF env a).l⟩
      else if (ofF env a).v ≠ 0 then ⟨(ofF env b).v, (ofF env b).e, (ofF env a).l ++ (ofF env b).l⟩
      else ⟨(ofF env c).v, (ofF env c).e, (ofF env a).l ++ (ofF env c).l⟩
  | .bin g a b => if (ofF env a).e ≠ 0 then ⟨0, (ofF env a).e, (ofF env a).l⟩
      else if g = [38, 38] then (if (ofF env a).v ≠ 0 then ⟨truthI ((ofF env b).v != 0), (ofF env b).e, (ofF env a).l ++ (ofF env b).l⟩ else ⟨0, 0, (ofF env a).l⟩)
      else if g = [124, 124] then (if (ofF env a).v ≠ 0 then ⟨1, 0, (ofF env a).l⟩ else ⟨truthI ((ofF env b).v != 0), (ofF env b).e, (ofF env a).l ++ (ofF env b).l⟩)
      else if (ofF env b).e ≠ 0 then ⟨0, (ofF env b).e, (ofF env a).l ++ (ofF env b).l⟩
      else ⟨(binF g (ofF env a).v (ofF env b).v).1, (binF g (ofF env a).v (ofF env b).v).2, (ofF env a).l ++ (ofF env b).l⟩
/-- A text, worked out. -/
def evalF (env : List UInt8 → List UInt8) (s : List UInt8) : Va := match readT s with
  | .error e => ⟨0, e, []⟩
  | .ok x => if (ofF env x).e ≠ 0 then ⟨0, (ofF env x).e, (ofF env x).l⟩ else ⟨(ofF env x).v, 0, (ofF env x).l⟩
/-- The document's examples. -/
theorem ex_wakes : evalF (fun _ => []) [49, 43, 50, 42, 51] = ⟨7, 0, []⟩ ∧ evalF (fun _ => []) [40, 49, 43, 50, 41, 42, 51] = ⟨9, 0, []⟩ ∧ evalF (fun _ => []) [55, 45, 50, 45, 49] = ⟨4, 0, []⟩ ∧
    (evalF (fun _ => []) [120, 63, 45, 120, 58, 48, 124, 124, 49, 47, 48]).e = 25 ∧ evalF (fun _ => []) [45, 55, 47, 50] = ⟨-3, 0, []⟩ ∧ evalF (fun _ => []) [45, 55, 37, 50] = ⟨-1, 0, []⟩ ∧ evalF (fun _ => []) [49, 60, 60, 54, 51] = ⟨-9223372036854775808, 0, []⟩ := by decide +kernel
end Go.Proofs.YtoedopgjonhemaaGreatDoor
