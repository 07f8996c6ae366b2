/- ArithWorks, plain: tokens; climbing by ranks is reading by rows. -/
import Derived.Test.YtoedopgjonhemaaGreatDoorArithP
namespace Go.Proofs.YtoedopgjonhemaaGreatDoor
open Go Go.RowKit Go.Lw
set_option linter.unusedVariables false
set_option linter.unusedSimpArgs false
/-! Tokens: 1 a number, 2 a name, 3 a sign. -/
abbrev Tok := Nat × List UInt8
/-- One round: what comes out, and what is left. -/
def stepT (s : List UInt8) : Option Tok × List UInt8 :=
  if s.head?.any blankA then (none, s.drop 1)
  else if s.head?.any digitB then (some (1, s.takeWhile digitB), s.dropWhile digitB)
  else if nameA s ≠ [] then (some (2, nameA s), s.drop (nameA s).length)
  else if signF s ≠ [] then (some (3, signF s), s.drop (signF s).length)
  else (some (3, [35]), s.drop 1)
theorem stepT_len (c : UInt8) (r : List UInt8) : (stepT (c :: r)).2.length < (c :: r).length := by
  unfold stepT
  split
  · simp
  · split
    · rename_i h
      have hd : digitB c = true := by simpa using h
      simp only [List.dropWhile_cons, hd, if_true]
      have := (List.dropWhile_sublist digitB (l := r)).length_le
      simp only [List.length_cons]; omega
    · split
      · rename_i h
        have : 1 ≤ (nameA (c :: r)).length := by
          cases hx : nameA (c :: r) with
          | nil => exact absurd hx h
          | cons _ _ => simp
        simp only [List.length_drop, List.length_cons]; omega
      · split
        · rename_i h
          have := signF_len h
          simp only [List.length_drop, List.length_cons]; omega
        · simp
def tokG : Nat → List UInt8 → List Tok
  | _, [] => []
  | 0, _ :: _ => []
  | n + 1, c :: r => (stepT (c :: r)).1.toList ++ tokG n (stepT (c :: r)).2
theorem tokG_more : ∀ (n m : Nat) (s : List UInt8), s.length ≤ n → s.length ≤ m → tokG n s = tokG m s
  | _, _, [], _, _ => by unfold tokG; rfl
  | 0, _, _ :: _, h, _ => by simp at h
  | _ + 1, 0, _ :: _, _, h => by simp at h
  | n + 1, m + 1, c :: r, h1, h2 => by
    have := stepT_len c r
    simp only [List.length_cons] at h1 h2 this
    unfold tokG
    rw [tokG_more n m _ (by omega) (by omega)]
def tokF (s : List UInt8) : List Tok := tokG s.length s
theorem tokF_nil : tokF [] = [] := rfl
theorem tokF_cons (c : UInt8) (r : List UInt8) : tokF (c :: r) = (stepT (c :: r)).1.toList ++ tokF (stepT (c :: r)).2 := by
  have := stepT_len c r
  simp only [List.length_cons] at this
  conv => lhs; unfold tokF; simp only [List.length_cons]; unfold tokG
  unfold tokF
  rw [tokG_more r.length _ _ (by omega) (Nat.le_refl _)]
theorem tokF_trim : ∀ s : List UInt8, tokF (trimA s) = tokF s
  | [] => rfl
  | c :: r => by
    by_cases h : blankA c = true
    · have e : trimA (c :: r) = trimA r := by unfold trimA; rw [List.dropWhile_cons, if_pos h]
      rw [e, tokF_trim r, tokF_cons]
      unfold stepT
      rw [if_pos (by simpa using h)]
      rfl
    · have e : trimA (c :: r) = c :: r := by unfold trimA; rw [List.dropWhile_cons, if_neg h]
      rw [e]
/-- What a trimmed text begins with is no blank. -/
theorem trim_head {s : List UInt8} {c : UInt8} {r : List UInt8} (h : trimA s = c :: r) : blankA c = false := by
  induction s with
  | nil => cases h
  | cons d s ih =>
    unfold trimA at h
    rw [List.dropWhile_cons] at h
    split at h
    · exact ih h
    · rename_i hd
      cases h
      simpa using hd
theorem sign_first : ∀ g ∈ signsL, ∀ c l, g = c :: l → digitB c = false ∧ letterB c true = false ∧ blankA c = false := by
  have key : (signsL.all fun g => match g with | [] => true | c :: _ => !digitB c && !letterB c true && !blankA c) = true := by decide +kernel
  rintro g hg c l rfl
  have := List.all_eq_true.1 key _ hg
  simpa [and_assoc] using this
/-- A sign at the front: neither digits nor a name is. -/
theorem sign_not {c : UInt8} {r : List UInt8} (h : signF (c :: r) ≠ []) : digitB c = false ∧ letterB c true = false ∧ blankA c = false := by
  rcases signF_in (c :: r) with h0 | ⟨h1, h2⟩
  · exact absurd h0 h
  · cases hg : signF (c :: r) with
    | nil => exact absurd hg h
    | cons d l =>
      rw [hg] at h1 h2
      simp only [List.length_cons, List.take_succ_cons, List.cons.injEq] at h2
      obtain ⟨rfl, _⟩ := h2
      exact sign_first _ h1 _ _ rfl
theorem nameA_first {c : UInt8} {r : List UInt8} (h : letterB c true = false) : nameA (c :: r) = [] := by
  unfold nameA; simp only; rw [if_neg (by rw [h]; simp)]
theorem digit_noletter {c : UInt8} (h : digitB c = true) : letterB c true = false := by
  unfold digitB at h
  unfold letterB startB
  simp at h ⊢
  omega
/-- The token at the front of what is read. -/
theorem tok_end {s : List UInt8} (h : trimA s = []) : tokF s = [] := by rw [← tokF_trim, h]; rfl
theorem tok_num {s : List UInt8} (h : (trimA s).head?.any digitB = true) : tokF s = (1, (trimA s).takeWhile digitB) :: tokF ((trimA s).dropWhile digitB) := by
  rw [← tokF_trim s]
  cases hs : trimA s with
  | nil => rw [hs] at h; cases h
  | cons c r =>
    rw [hs] at h
    rw [tokF_cons]
    unfold stepT
    have hb := trim_head hs
    rw [if_neg (by simp [hb]), if_pos h]
    rfl
theorem tok_sign {s : List UInt8} (h : signF (trimA s) ≠ []) : tokF s = (3, signF (trimA s)) :: tokF ((trimA s).drop (signF (trimA s)).length) := by
  rw [← tokF_trim s]
  cases hs : trimA s with
  | nil => rw [hs] at h; exact absurd rfl h
  | cons c r =>
    rw [hs] at h
    rw [tokF_cons]
    obtain ⟨h1, h2, h3⟩ := sign_not h
    unfold stepT
    rw [if_neg (by simp [h3]), if_neg (by simp [h1]), if_neg (by rw [nameA_first h2]; simp), if_pos h]
    rfl
theorem tok_name {s : List UInt8} (h0 : (trimA s).head?.any digitB = false) (h : nameA (trimA s) ≠ []) : tokF s = (2, nameA (trimA s)) :: tokF ((trimA s).drop (nameA (trimA s)).length) := by
  rw [← tokF_trim s]
  cases hs : trimA s with
  | nil => rw [hs] at h; exact absurd rfl h
  | cons c r =>
    rw [hs] at h h0
    rw [tokF_cons]
    have hb := trim_head hs
    unfold stepT
    rw [if_neg (by simp [hb]), if_neg (by rw [h0]; simp), if_pos h]
    rfl
theorem tok_odd {s : List UInt8} (hn : trimA s ≠ []) (h0 : (trimA s).head?.any digitB = false) (h1 : nameA (trimA s) = []) (h : signF (trimA s) = []) : tokF s = (3, [35]) :: tokF ((trimA s).drop 1) := by
  rw [← tokF_trim s]
  cases hs : trimA s with
  | nil => exact absurd hs hn
  | cons c r =>
    rw [hs] at h h0 h1
    rw [tokF_cons]
    have hb := trim_head hs
    unfold stepT
    rw [if_neg (by simp [hb]), if_neg (by rw [h0]; simp), if_neg (by rw [h1]; simp), if_neg (by rw [h]; simp)]
    rfl
theorem trim_ne_tok {s : List UInt8} (h : tokF s = []) : trimA s = [] := by
  cases hs : trimA s with
  | nil => rfl
  | cons c r =>
    exfalso
    by_cases h1 : (trimA s).head?.any digitB = true
    · rw [tok_num h1] at h; cases h
    · have h1' : (trimA s).head?.any digitB = false := by simpa using h1
      by_cases h2 : nameA (trimA s) = []
      · by_cases h3 : signF (trimA s) = []
        · rw [tok_odd (by rw [hs]; simp) h1' h2 h3] at h; cases h
        · rw [tok_sign h3] at h; cases h
      · rw [tok_name h1' h2] at h; cases h
/-- A token that is a sign: the text's. -/
theorem tok_is {s : List UInt8} {g : List UInt8} (hg : g ∈ signsL) : (∃ l, tokF s = (3, g) :: l) ↔ signF (trimA s) = g := by
  have hg0 : g ≠ [] := by rintro rfl; exact absurd hg (by decide)
  have hg1 : g ≠ [35] := by rintro rfl; exact absurd hg (by decide)
  constructor
  · rintro ⟨l, h⟩
    by_cases h0 : trimA s = []
    · rw [tok_end h0] at h; cases h
    by_cases h3 : signF (trimA s) = []
    · exfalso
      by_cases h1 : (trimA s).head?.any digitB = true
      · rw [tok_num h1] at h; cases h
      · have h1' : (trimA s).head?.any digitB = false := by simpa using h1
        by_cases h2 : nameA (trimA s) = []
        · rw [tok_odd h0 h1' h2 h3] at h; cases h; exact hg1 rfl
        · rw [tok_name h1' h2] at h; cases h
    · rw [tok_sign h3] at h; cases h; rfl
  · rintro rfl
    exact ⟨_, tok_sign hg0⟩
/-! Ranks. -/
def rankF (g : List UInt8) : Nat :=
  if g = [124, 124] then 1 else if g = [38, 38] then 2 else if g = [124] then 3 else if g = [94] then 4 else if g = [38] then 5
  else if g = [61, 61] ∨ g = [33, 61] then 6 else if g = [60] ∨ g = [60, 61] ∨ g = [62] ∨ g = [62, 61] then 7
  else if g = [60, 60] ∨ g = [62, 62] then 8 else if g = [43] ∨ g = [45] then 9 else if g = [42] ∨ g = [47] ∨ g = [37] then 10 else 0
theorem rank_of_row : ∀ k, k < 10 → ∀ g ∈ rowsL.getD k [], rankF g = k + 1 := by decide
theorem rank_row {k : Nat} {g : List UInt8} (hk : k < 10) : g ∈ rowsL.getD k [] ↔ rankF g = k + 1 := by
  constructor
  · exact rank_of_row k hk g
  · intro h
    unfold rankF at h
    repeat' split at h
    all_goals first
      | (exfalso; omega)
      | (subst g; obtain rfl : k = 0 := by omega
         decide)
      | (subst g; obtain rfl : k = 1 := by omega
         decide)
      | (subst g; obtain rfl : k = 2 := by omega
         decide)
      | (subst g; obtain rfl : k = 3 := by omega
         decide)
      | (subst g; obtain rfl : k = 4 := by omega
         decide)
      | (rename_i hx; obtain rfl : k = 5 := by omega
         rcases hx with rfl | rfl <;> decide)
      | (rename_i hx; obtain rfl : k = 6 := by omega
         rcases hx with rfl | rfl | rfl | rfl <;> decide)
      | (rename_i hx; obtain rfl : k = 7 := by omega
         rcases hx with rfl | rfl <;> decide)
      | (rename_i hx; obtain rfl : k = 8 := by omega
         rcases hx with rfl | rfl <;> decide)
      | (rename_i hx; obtain rfl : k = 9 := by omega
         rcases hx with rfl | rfl | rfl <;> decide)
theorem rank_le (g : List UInt8) : rankF g ≤ 10 := by
  unfold rankF
  repeat' split
  all_goals omega
theorem rank_nil : rankF [] = 0 := by decide
theorem rank_odd : rankF [35] = 0 := by decide
/-- The rank of the sign at the front. -/
abbrev rk (s : List UInt8) : Nat := rankF (signF (trimA s))
theorem rk_trim (s : List UInt8) : rk (trimA s) = rk s := by unfold rk; rw [trimA_idem]
/-! The loops of the rows k + n - 1, .., k, one behind the other. -/
def lpD : Nat → Nat → Ex → Nat → List UInt8 → Rx
  | 0, _, x, _, s => .ok (x, s)
  | n + 1, k, x, d, s => match rdA (.loop (k + n) x) d s with
    | .error e => .error e
    | .ok y => lpD n k y.1 d y.2
def bnd (r : Rx) (f : Ex × List UInt8 → Rx) : Rx := match r with
  | .error e => .error e
  | .ok y => f y
theorem lpD_app : ∀ (m n k : Nat) (x : Ex) (d : Nat) (s : List UInt8), lpD (n + m) k x d s = bnd (lpD m (k + n) x d s) fun y => lpD n k y.1 d y.2
  | 0, n, k, x, d, s => rfl
  | m + 1, n, k, x, d, s => by
    show (match rdA (.loop (k + (n + m)) x) d s with | .error e => Except.error e | .ok y => lpD (n + m) k y.1 d y.2) = bnd (match rdA (.loop (k + n + m) x) d s with | .error e => Except.error e | .ok y => lpD m (k + n) y.1 d y.2) _
    rw [show k + (n + m) = k + n + m by omega]
    cases rdA (.loop (k + n + m) x) d s with
    | error e => rfl
    | ok y => exact lpD_app m n k y.1 d y.2
/-- Reading a row: one, and then the loops. -/
theorem row_lps : ∀ (n : Nat) (d : Nat) (s : List UInt8), n ≤ 10 → rdA (.row (10 - n)) d s = bnd (rdA .one d s) fun y => lpD n (10 - n) y.1 d y.2
  | 0, d, s, _ => by
    rw [rdA_row10 _ _ _ (Nat.le_refl _)]
    cases rdA .one d s <;> rfl
  | n + 1, d, s, h => by
    rw [rdA_row _ _ _ (by omega), show 10 - (n + 1) + 1 = 10 - n by omega, row_lps n d s (by omega)]
    cases rdA .one d s with
    | error e => rfl
    | ok y =>
      show (match lpD n (10 - n) y.1 d y.2 with | .error e => Except.error e | .ok y => rdA (.loop (10 - (n + 1)) y.1) d y.2) = lpD (n + 1) (10 - (n + 1)) y.1 d y.2
      rw [show lpD (n + 1) (10 - (n + 1)) y.1 d y.2 = lpD (1 + n) (10 - (n + 1)) y.1 d y.2 by rw [Nat.add_comm], lpD_app n 1, show 10 - (n + 1) + 1 = 10 - n by omega]
      cases lpD n (10 - n) y.1 d y.2 with
      | error e => rfl
      | ok z =>
        show rdA (.loop (10 - (n + 1)) z.1) d z.2 = match rdA (.loop (10 - (n + 1) + 0) z.1) d z.2 with | .error e => Except.error e | .ok y => lpD 0 (10 - (n + 1)) y.1 d y.2
        rw [Nat.add_zero]
        cases rdA (.loop (10 - (n + 1)) z.1) d z.2 <;> rfl
theorem loop_none {k : Nat} {x : Ex} {d : Nat} {s : List UInt8} (hk : k < 10) (h : rk s ≠ k + 1) : rdA (.loop k x) d s = .ok (x, trimA s) := by
  rw [rdA_loop, if_neg (fun hm => h ((rank_row hk).1 hm))]
theorem loop_some {k : Nat} {x : Ex} {d : Nat} {s : List UInt8} (hk : k < 10) (h : rk s = k + 1) : rdA (.loop k x) d s = bnd (rdA (.row (k + 1)) d ((trimA s).drop (signF (trimA s)).length)) fun y => rdA (.loop k (.bin (signF (trimA s)) x y.1)) d y.2 := by
  rw [rdA_loop, if_pos ((rank_row hk).2 h)]
  rfl
/-- No sign of these rows: nothing is done. -/
theorem lpD_none : ∀ (n k : Nat) (x : Ex) (d : Nat) (s : List UInt8), k + n ≤ 10 → (rk s ≤ k ∨ k + n < rk s) → ∃ r, lpD n k x d s = .ok (x, r) ∧ trimA r = trimA s
  | 0, k, x, d, s, _, _ => ⟨s, rfl, rfl⟩
  | n + 1, k, x, d, s, h1, h2 => by
    unfold lpD
    rw [loop_none (by omega) (by omega)]
    obtain ⟨r, h3, h4⟩ := lpD_none n k x d (trimA s) (by omega) (by rw [rk_trim]; omega)
    exact ⟨r, h3, by rw [h4, trimA_idem]⟩
theorem loop_trim (k : Nat) (x : Ex) (d : Nat) {s t : List UInt8} (h : trimA s = trimA t) : rdA (.loop k x) d s = rdA (.loop k x) d t := by
  rw [rdA_loop, rdA_loop, h]
/-- Behind a row no sign binds tighter. -/
theorem row_rank : ∀ (n m : Nat), n ≤ 10 → (∀ (d : Nat) (s : List UInt8) (y : Ex × List UInt8), s.length ≤ m → rdA (.row (10 - n)) d s = .ok y → rk y.2 ≤ 10 - n)
  | 0, _, _, d, s, y, _, _ => rank_le _
  | n + 1, m, h, d, s, y, hm, hy => by
    have key : ∀ (m : Nat) (x : Ex) (s : List UInt8) (y : Ex × List UInt8), s.length ≤ m → rk s ≤ 10 - n → rdA (.loop (10 - (n + 1)) x) d s = .ok y → rk y.2 ≤ 10 - (n + 1) := by
      intro m
      induction m with
      | zero =>
        intro x s y hs hr he
        have : s = [] := List.eq_nil_of_length_eq_zero (by omega)
        subst this
        rw [loop_none (by omega) (by show rankF _ ≠ _; rw [show signF (trimA []) = [] from rfl, rank_nil]; omega)] at he
        cases he
        show rankF _ ≤ _
        rw [show signF (trimA (trimA [])) = [] from rfl, rank_nil]; omega
      | succ m ih =>
        intro x s y hs hr he
        by_cases hk : rk s = 10 - (n + 1) + 1
        · rw [loop_some (by omega) hk] at he
          have hne : signF (trimA s) ≠ [] := fun e => by
            have : rk s = 0 := by unfold rk; rw [e]; exact rank_nil
            omega
          have hl := drop_less rfl hne
          rw [show 10 - (n + 1) + 1 = 10 - n by omega] at he
          cases hz : rdA (.row (10 - n)) d ((trimA s).drop (signF (trimA s)).length) with
          | error e => rw [hz] at he; cases he
          | ok z =>
            rw [hz] at he
            have hz2 := rdA_len hz
            exact ih _ z.2 y (by omega) (row_rank n _ (by omega) d _ z (Nat.le_refl _) hz) he
        · rw [loop_none (by omega) hk] at he
          cases he
          show rk (trimA s) ≤ _
          rw [rk_trim]; omega
    rw [rdA_row _ _ _ (by omega), show 10 - (n + 1) + 1 = 10 - n by omega] at hy
    cases hz : rdA (.row (10 - n)) d s with
    | error e => rw [hz] at hy; cases hy
    | ok z =>
      rw [hz] at hy
      exact key _ z.1 z.2 y (Nat.le_refl _) (row_rank n _ (by omega) d s z (Nat.le_refl _) hz) hy
/-- CLIMBING: the loop of all rows from k on takes one sign, whatever its rank. -/
theorem climb {k j : Nat} {x : Ex} {d : Nat} {s : List UInt8} (hj : rk s = j) (hk : k < j) : lpD (10 - k) k x d s = bnd (rdA (.row j) d ((trimA s).drop (signF (trimA s)).length)) fun y => lpD (10 - k) k (.bin (signF (trimA s)) x y.1) d y.2 := by
  have hj10 : j ≤ 10 := by rw [← hj]; exact rank_le _
  have split3 : ∀ (x : Ex) (s : List UInt8), lpD (10 - k) k x d s = bnd (lpD (10 - j) j x d s) fun y => bnd (rdA (.loop (j - 1) y.1) d y.2) fun y => lpD (j - 1 - k) k y.1 d y.2 := by
    intro x s
    rw [show 10 - k = (j - k) + (10 - j) by omega, lpD_app, show k + (j - k) = j by omega]
    congr 1
    funext y
    rw [show j - k = (j - 1 - k) + 1 by omega]
    show (match rdA (.loop (k + (j - 1 - k)) y.1) d y.2 with | .error e => Except.error e | .ok y => lpD (j - 1 - k) k y.1 d y.2) = _
    rw [show k + (j - 1 - k) = j - 1 by omega]
    rfl
  rw [split3]
  obtain ⟨r, h1, h2⟩ := lpD_none (10 - j) j x d s (by omega) (.inl (by omega))
  rw [h1]
  show bnd (rdA (.loop (j - 1) x) d r) _ = _
  rw [loop_trim _ _ _ h2, loop_some (by omega) (by omega), show j - 1 + 1 = j by omega]
  cases hz : rdA (.row j) d ((trimA s).drop (signF (trimA s)).length) with
  | error e => rfl
  | ok y =>
    show bnd (rdA (.loop (j - 1) (.bin (signF (trimA s)) x y.1)) d y.2) _ = lpD (10 - k) k (.bin (signF (trimA s)) x y.1) d y.2
    rw [split3]
    have hr : rk y.2 ≤ j := by
      have := row_rank (10 - j) _ (by omega) d _ y (Nat.le_refl _) (by rw [show 10 - (10 - j) = j by omega]; exact hz)
      rw [show 10 - (10 - j) = j by omega] at this
      exact this
    obtain ⟨r2, h3, h4⟩ := lpD_none (10 - j) j (.bin (signF (trimA s)) x y.1) d y.2 (by omega) (.inl hr)
    rw [h3]
    show _ = bnd (rdA (.loop (j - 1) _) d r2) _
    rw [loop_trim _ _ _ h4]
/-- No sign of rank k + 1 or more: the loop is done. -/
theorem climb_end {k : Nat} {x : Ex} {d : Nat} {s : List UInt8} (hk : k ≤ 10) (hj : rk s ≤ k) : ∃ r, lpD (10 - k) k x d s = .ok (x, r) ∧ tokF r = tokF s := by
  obtain ⟨r, h1, h2⟩ := lpD_none (10 - k) k x d s (by omega) (.inl hj)
  exact ⟨r, h1, by rw [← tokF_trim, h2, tokF_trim]⟩
end Go.Proofs.YtoedopgjonhemaaGreatDoor
