/- ArithWorks, plain: what stands at the front, and what one, all and the rows make of it. -/
import Derived.Test.YtoedopgjonhemaaGreatDoorWorksR
namespace Go.Proofs.YtoedopgjonhemaaGreatDoor
open Go Go.RowKit Go.Lw
set_option linter.unusedVariables false
set_option linter.unusedSimpArgs false
def unR (g : List UInt8) (R : Rx) : Rx := bnd R fun y => .ok (.un g y.1, y.2)
def parR (R : Rx) : Rx := bnd R fun y => if signF (trimA y.2) = [41] then .ok (y.1, (trimA y.2).drop 1) else .error 5
def numK (t r : List UInt8) : Rx := match numR t 0 with
  | some n => if n = 9223372036854775808 then .error 24 else .ok (.num (n : Int), r)
  | none => .error 24
def dpR (d : Nat) (R : Rx) : Rx := if 16 < d + 1 then .error 12 else R
theorem drop_cons {α : Type} {L : List α} {k : Nat} {x : α} {l : List α} (h : L.drop k = x :: l) : L[k]? = some x ∧ L.drop (k + 1) = l ∧ k < L.length := by
  have hk : k < L.length := by
    rcases Nat.lt_or_ge k L.length with h' | h'
    · exact h'
    · rw [List.drop_eq_nil_of_le h'] at h; cases h
  rw [List.drop_eq_getElem_cons hk] at h
  cases h
  exact ⟨List.getElem?_eq_getElem hk, rfl, hk⟩
theorem drop_nil {α : Type} {L : List α} {k : Nat} (h : L.drop k = []) (hk : k ≤ L.length) : k = L.length := by
  have := congrArg List.length h
  rw [List.length_drop] at this
  simp at this; omega
theorem ahead_signs : ∀ g ∈ aheadL, g ∈ signsL := by decide
inductive OneC (s : List UInt8) (d k : Nat) (t r : List UInt8) : Prop where
  | un (hk : k = 3) (ht : t ∈ aheadL) (h : rdA .one d s = dpR d (unR t (rdA .one (d + 1) r)))
  | par (hk : k = 3) (ht : t = [40]) (h : rdA .one d s = dpR d (parR (rdA .all (d + 1) r)))
  | num (hk : k = 1) (hd : t.all digitB = true) (h : rdA .one d s = numK t r)
  | name (hk : k = 2) (h : rdA .one d s = .ok (.name t, r))
  | bad (hk : k = 3) (h1 : t ∉ aheadL) (h2 : t ≠ [40]) (h : rdA .one d s = .error 5)
theorem one_cases (d : Nat) {s : List UInt8} (h : trimA s ≠ []) : ∃ k t r, tokF s = (k, t) :: tokF r ∧ r.length < s.length ∧ t.length + r.length ≤ s.length + 1 ∧ OneC s d k t r := by
  have hT := trimA_len s
  have hpos : 1 ≤ (trimA s).length := by
    cases hx : trimA s with
    | nil => exact absurd hx h
    | cons _ _ => simp
  by_cases h3 : signF (trimA s) = []
  · by_cases h1 : (trimA s).head?.any digitB = true
    · refine ⟨1, _, _, tok_num h1, ?_, ?_, ?_⟩
      · cases hx : trimA s with
        | nil => rw [hx] at h1; cases h1
        | cons c l =>
          rw [hx] at h1 hT
          have hd : digitB c = true := by simpa using h1
          rw [List.dropWhile_cons, if_pos hd]
          have := (List.dropWhile_sublist digitB (l := l)).length_le
          simp only [List.length_cons] at hT
          omega
      · have := congrArg List.length (List.takeWhile_append_dropWhile (p := digitB) (l := trimA s))
        rw [List.length_append] at this
        omega
      · refine .num rfl (tw_all digitB _) ?_
        rw [rdA_one, if_neg h, h3, if_neg (by decide), if_neg (by simp), if_pos h1]
        cases hx : (trimA s).takeWhile digitB with
        | nil =>
          exfalso
          cases hy : trimA s with
          | nil => exact h hy
          | cons c l =>
            rw [hy] at h1 hx
            have hd : digitB c = true := by simpa using h1
            rw [List.takeWhile_cons, if_pos hd] at hx
            cases hx
        | cons c l => rw [numberF_eq hx]; rfl
    · have h1' : (trimA s).head?.any digitB = false := by simpa using h1
      by_cases h2 : nameA (trimA s) = []
      · refine ⟨3, _, _, tok_odd h h1' h2 h3, ?_, ?_, ?_⟩
        · rw [List.length_drop]; omega
        · rw [List.length_drop]; simp; omega
        · refine .bad rfl (by decide) (by simp) ?_
          rw [rdA_one, if_neg h, h3, if_neg (by decide), if_neg (by simp), if_neg (by rw [h1']; simp)]
          unfold wordA
          rw [if_pos h2]
      · have hn := nameA_len (trimA s)
        have hn1 : 1 ≤ (nameA (trimA s)).length := by
          cases hx : nameA (trimA s) with
          | nil => exact absurd hx h2
          | cons _ _ => simp
        refine ⟨2, _, _, tok_name h1' h2, ?_, ?_, ?_⟩
        · rw [List.length_drop]; omega
        · rw [List.length_drop]; omega
        · refine .name rfl ?_
          rw [rdA_one, if_neg h, h3, if_neg (by decide), if_neg (by simp), if_neg (by rw [h1']; simp)]
          unfold wordA
          rw [if_neg h2]
  · have hl := signF_len h3
    refine ⟨3, _, _, tok_sign h3, ?_, ?_, ?_⟩
    · rw [List.length_drop]; omega
    · rw [List.length_drop]; omega
    · by_cases ha : signF (trimA s) ∈ aheadL
      · refine .un rfl ha ?_
        rw [rdA_one, if_neg h, if_pos ha]
        unfold dpR unR
        by_cases hd : 16 < d + 1
        · rw [if_pos hd, if_pos hd]
        · rw [if_neg hd, if_neg hd]
          cases rdA .one (d + 1) ((trimA s).drop (signF (trimA s)).length) <;> rfl
      · by_cases hp : signF (trimA s) = [40]
        · refine .par rfl hp ?_
          rw [rdA_one, if_neg h, if_neg ha, if_pos hp]
          unfold dpR parR
          by_cases hd : 16 < d + 1
          · rw [if_pos hd, if_pos hd]
          · rw [if_neg hd, if_neg hd, hp]
            show (match rdA .all (d + 1) ((trimA s).drop 1) with | .error e => Except.error e | .ok y => if signF (trimA y.2) = [41] then .ok (y.1, (trimA y.2).drop 1) else .error 5) = bnd (rdA .all (d + 1) ((trimA s).drop 1)) _
            cases rdA .all (d + 1) ((trimA s).drop 1) <;> rfl
        · refine .bad rfl ha hp ?_
          have hh : (trimA s).head?.any digitB = false ∧ nameA (trimA s) = [] := by
            cases hx : trimA s with
            | nil => exact absurd hx h
            | cons c l =>
              rw [hx] at h3
              obtain ⟨q1, q2, q3⟩ := sign_not h3
              exact ⟨by simp [q1], nameA_first q2⟩
          rw [rdA_one, if_neg h, if_neg ha, if_neg hp, if_neg (by rw [hh.1]; simp)]
          unfold wordA
          rw [if_pos hh.2]
theorem one_endW {s : List UInt8} (d : Nat) (h : trimA s = []) : rdA .one d s = .error 5 := by rw [rdA_one, if_pos h]
/-- all, by the sign behind. -/
def colR (x y : Ex) (R : Rx) : Rx := bnd R fun z => .ok (.cond x y z.1, z.2)
def ynR (x : Ex) (d : Nat) (R : Rx) : Rx := bnd R fun y => if signF (trimA y.2) = [58] then colR x y.1 (rdA .all (d + 1) ((trimA y.2).drop 1)) else .error 5
def allR (d : Nat) (R : Rx) : Rx := bnd R fun x => if signF (trimA x.2) = [63] then dpR d (ynR x.1 d (rdA .all (d + 1) ((trimA x.2).drop 1))) else .ok (x.1, trimA x.2)
theorem rdA_allR (d : Nat) (s : List UInt8) : rdA .all d s = allR d (rdA (.row 0) d s) := by
  rw [rdA_all]
  unfold allR
  cases rdA (.row 0) d s with
  | error e => rfl
  | ok x =>
    show (if signF (trimA x.2) = [63] then _ else _) = if signF (trimA x.2) = [63] then _ else _
    by_cases h : signF (trimA x.2) = [63]
    · rw [if_pos h, if_pos h]
      unfold dpR
      by_cases hd : 16 < d + 1
      · rw [if_pos hd, if_pos hd]
      · rw [if_neg hd, if_neg hd]
        unfold ynR
        cases rdA .all (d + 1) ((trimA x.2).drop 1) with
        | error e => rfl
        | ok y =>
          show (if signF (trimA y.2) = [58] then _ else _) = if signF (trimA y.2) = [58] then _ else _
          by_cases hc : signF (trimA y.2) = [58]
          · rw [if_pos hc, if_pos hc]
            unfold colR
            cases rdA .all (d + 1) ((trimA y.2).drop 1) <;> rfl
          · rw [if_neg hc, if_neg hc]
    · rw [if_neg h, if_neg h]
/-- A row: one, and then the loops from it on. -/
def lpR (k d : Nat) (R : Rx) : Rx := bnd R fun y => lpD (10 - k) k y.1 d y.2
theorem row_lp {k : Nat} (hk : k ≤ 10) (d : Nat) (s : List UInt8) : rdA (.row k) d s = lpR k d (rdA .one d s) := by
  have := row_lps (10 - k) d s (by omega)
  rw [show 10 - (10 - k) = k by omega] at this
  exact this
/-- One more sign. -/
def mrR (k d : Nat) (x : Ex) (g : List UInt8) (R : Rx) : Rx := bnd R fun y => lpD (10 - k) k (.bin g x y.1) d y.2
theorem climb2 {k : Nat} {x : Ex} {d : Nat} {s : List UInt8} (hk : k < rk s) : lpD (10 - k) k x d s = mrR k d x (signF (trimA s)) (rdA (.row (rk s)) d ((trimA s).drop (signF (trimA s)).length)) := climb rfl hk
/-- Errors are none of nothing. -/
theorem readA_ne : ∀ (n : Nat) (l : Lvl) (d : Nat) (s : List UInt8) {e : Nat}, readA n l d s = .error e → e ≠ 0
  | 0, l, d, s, e, h => by unfold readA at h; cases h; decide
  | n + 1, .one, d, s, e, h => by
    unfold readA at h
    split at h
    · cases h; decide
    · split at h
      · split at h
        · cases h; decide
        · split at h
          · rename_i e' he; cases h; exact readA_ne n _ _ _ he
          · cases h
      · split at h
        · split at h
          · cases h; decide
          · split at h
            · rename_i e' he; cases h; exact readA_ne n _ _ _ he
            · split at h
              · cases h
              · cases h; decide
        · split at h
          · unfold numberF at h
            split at h
            · cases h
            · cases h; decide
          · unfold wordA at h
            split at h
            · cases h; decide
            · cases h
  | n + 1, .row k, d, s, e, h => by
    unfold readA at h
    split at h
    · exact readA_ne n _ _ _ h
    · split at h
      · rename_i e' he; cases h; exact readA_ne n _ _ _ he
      · exact readA_ne n _ _ _ h
  | n + 1, .loop k x, d, s, e, h => by
    unfold readA at h
    split at h
    · split at h
      · rename_i e' he; cases h; exact readA_ne n _ _ _ he
      · exact readA_ne n _ _ _ h
    · cases h
  | n + 1, .all, d, s, e, h => by
    unfold readA at h
    split at h
    · rename_i e' he; cases h; exact readA_ne n _ _ _ he
    · split at h
      · split at h
        · cases h; decide
        · split at h
          · rename_i e' he; cases h; exact readA_ne n _ _ _ he
          · split at h
            · split at h
              · rename_i e' he; cases h; exact readA_ne n _ _ _ he
              · cases h
            · cases h; decide
      · cases h
theorem rdA_ne {l : Lvl} {d : Nat} {s : List UInt8} {e : Nat} (h : rdA l d s = .error e) : e ≠ 0 := readA_ne _ _ _ _ h
end Go.Proofs.YtoedopgjonhemaaGreatDoor
