/- The replacer's sizes, plain. -/
import Derived.Test.YtoedopgjonhemaaGreatDoorSameR
import Derived.Lib.CountLaws
namespace Go.Proofs.YtoedopgjonhemaaGreatDoor
open Go Go.RowKit Go.Lw
set_option linter.unusedVariables false
set_option linter.unusedSimpArgs false
def specB (c : UInt8) : Bool := c == 40 || c == 41 || c == 43 || c == 42
theorem repB_plain {c : UInt8} (h : specB c = false) : repB c = [c] := by
  unfold specB at h
  simp only [Bool.or_eq_false_iff, beq_eq_false_iff_ne, ne_eq] at h
  obtain ⟨⟨⟨h1, h2⟩, h3⟩, h4⟩ := h
  unfold repB
  rw [if_neg h1, if_neg h2, if_neg h3, if_neg h4]
theorem repB_len (c : UInt8) : 1 ≤ (repB c).length ∧ (repB c).length ≤ 3 := by
  unfold repB
  repeat' split
  all_goals simp
theorem repF_cons (c : UInt8) (s : List UInt8) : repF (c :: s) = repB c ++ repF s := rfl
theorem repF_app (s t : List UInt8) : repF (s ++ t) = repF s ++ repF t := by unfold repF; exact List.flatMap_append
theorem repF_len : ∀ s : List UInt8, s.length ≤ (repF s).length ∧ (repF s).length ≤ 3 * s.length
  | [] => ⟨Nat.le_refl _, Nat.le_refl _⟩
  | c :: s => by
    obtain ⟨h1, h2⟩ := repF_len s
    have := repB_len c
    rw [repF_cons, List.length_append, List.length_cons]
    omega
theorem repF_none : ∀ s : List UInt8, s.any specB = false → repF s = s
  | [], _ => rfl
  | c :: s, h => by
    rw [List.any_cons, Bool.or_eq_false_iff] at h
    rw [repF_cons, repB_plain h.1, repF_none s h.2]; rfl
/-- How often a byte stands in a text. -/
def cntB (s : List UInt8) (c : UInt8) : Nat := s.countP (· == c)
theorem repF_size (s : List UInt8) : (repF s).length = s.length + 2 * cntB s 42 + cntB s 43 + 2 * cntB s 41 + 2 * cntB s 40 := by
  induction s with
  | nil => rfl
  | cons c s ih =>
    rw [repF_cons, List.length_append, ih, List.length_cons]
    unfold cntB
    simp only [List.countP_cons]
    by_cases h0 : c = 40
    · subst h0; simp [repB]; omega
    · by_cases h1 : c = 41
      · subst h1; simp [repB]; omega
      · by_cases h2 : c = 43
        · subst h2; simp [repB]; omega
        · by_cases h3 : c = 42
          · subst h3; simp [repB]; omega
          · simp [repB, h0, h1, h2, h3]; omega
theorem any_cnt (s : List UInt8) : s.any specB = (cntB s 42 != 0 || cntB s 43 != 0 || cntB s 41 != 0 || cntB s 40 != 0) := by
  have key : ∀ c : UInt8, (cntB s c != 0) = s.any (· == c) := fun c => by
    unfold cntB
    rw [Bool.eq_iff_iff, bne_iff_ne, List.any_eq_true]
    rw [show (List.countP (fun x => x == c) s ≠ 0) ↔ 0 < List.countP (fun x => x == c) s by omega, List.countP_pos_iff]
  rw [key, key, key, key]
  induction s with
  | nil => rfl
  | cons c s ih =>
    simp only [List.any_cons]
    have ih' : s.any specB = (s.any (· == 42) || s.any (· == 43) || s.any (· == 41) || s.any (· == 40)) := by
      rw [Bool.eq_iff_iff, List.any_eq_true]
      simp only [Bool.or_eq_true, List.any_eq_true, specB]
      constructor
      · rintro ⟨x, hx, h⟩
        rcases h with ((h | h) | h) | h
        · exact .inr ⟨x, hx, h⟩
        · exact .inl (.inr ⟨x, hx, h⟩)
        · exact .inl (.inl (.inr ⟨x, hx, h⟩))
        · exact .inl (.inl (.inl ⟨x, hx, h⟩))
      · rintro (((⟨x, hx, h⟩ | ⟨x, hx, h⟩) | ⟨x, hx, h⟩) | ⟨x, hx, h⟩)
        · exact ⟨x, hx, .inr h⟩
        · exact ⟨x, hx, .inl (.inr h)⟩
        · exact ⟨x, hx, .inl (.inl (.inr h))⟩
        · exact ⟨x, hx, .inl (.inl (.inl h))⟩
    rw [ih']
    unfold specB
    cases (c == 40) <;> cases (c == 41) <;> cases (c == 43) <;> cases (c == 42) <;> cases (s.any (· == 42)) <;> cases (s.any (· == 43)) <;> cases (s.any (· == 41)) <;> cases (s.any (· == 40)) <;> rfl
end Go.Proofs.YtoedopgjonhemaaGreatDoor
