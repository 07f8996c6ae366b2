/- ArithSame, plain: tokens of texts put together; brackets; what is not asked. -/
import Derived.Test.YtoedopgjonhemaaGreatDoorSameP
namespace Go.Proofs.YtoedopgjonhemaaGreatDoor
open Go Go.RowKit Go.Lw
set_option linter.unusedVariables false
set_option linter.unusedSimpArgs false
/-- A byte that merges with nothing ahead of it. -/
abbrev cutB (c : UInt8) : Prop := letterB c false = false ∧ c ≠ 124 ∧ c ≠ 38 ∧ c ≠ 61 ∧ c ≠ 60 ∧ c ≠ 62
theorem cut_dg {c : UInt8} (h : cutB c) : digitB c = false := by
  have := h.1
  unfold letterB at this
  simp at this
  exact this.2
theorem cut_lt {c : UInt8} (h : cutB c) : letterB c true = false := by
  have := h.1
  unfold letterB at this ⊢
  simp at this ⊢
  exact this.1
theorem sTw_app (f : UInt8 → Bool) {c : UInt8} (h : f c = false) : ∀ (s q : List UInt8), (s ++ c :: q).takeWhile f = s.takeWhile f ∧ (s ++ c :: q).dropWhile f = s.dropWhile f ++ c :: q
  | [], q => by
    rw [List.nil_append, List.takeWhile_cons, List.dropWhile_cons, if_neg (by rw [h]; simp), if_neg (by rw [h]; simp)]
    exact ⟨rfl, rfl⟩
  | b :: s, q => by
    obtain ⟨h1, h2⟩ := sTw_app f h s q
    rw [List.cons_append, List.takeWhile_cons, List.dropWhile_cons, List.takeWhile_cons, List.dropWhile_cons, h1, h2]
    by_cases hb : f b = true
    · rw [if_pos hb, if_pos hb, if_pos hb]; exact ⟨rfl, rfl⟩
    · rw [if_neg hb, if_neg hb, if_neg hb]; exact ⟨rfl, rfl⟩
theorem nameA_app {c : UInt8} (h : cutB c) (b : UInt8) (s q : List UInt8) : nameA (b :: s ++ c :: q) = nameA (b :: s) := by
  rw [List.cons_append]
  unfold nameA
  simp only
  rw [(sTw_app (fun c => letterB c false) h.1 s q).1]
theorem two_second : ∀ g ∈ signsL, ∀ a b, g = [a, b] → b = 124 ∨ b = 38 ∨ b = 61 ∨ b = 60 ∨ b = 62 := by
  have key : (signsL.all fun g => match g with | [a, b] => b == 124 || b == 38 || b == 61 || b == 60 || b == 62 | _ => true) = true := by decide +kernel
  rintro g hg a b rfl
  have := List.all_eq_true.1 key _ hg
  simpa [or_assoc] using this
theorem signF_app {c : UInt8} (h : cutB c) (b : UInt8) (s q : List UInt8) : signF (b :: s ++ c :: q) = signF (b :: s) := by
  unfold signF
  congr 1
  have key : ∀ (l : List (List UInt8)), (∀ g ∈ l, g ∈ signsL) → l.find? (fun g => (b :: s ++ c :: q).take g.length == g) = l.find? (fun g => (b :: s).take g.length == g) := by
    intro l
    induction l with
    | nil => intro _; rfl
    | cons g l ih =>
      intro hl
      have hg := hl g List.mem_cons_self
      have hgl := signsL_len g hg
      have e : ((b :: s ++ c :: q).take g.length == g) = ((b :: s).take g.length == g) := by
        by_cases hs : g.length ≤ (b :: s).length
        · rw [List.take_append_of_le_length hs]
        · have hs1 : s = [] := by
            cases s with
            | nil => rfl
            | cons _ _ => simp only [List.length_cons] at hs; omega
          subst hs1
          have hg2 : g.length = 2 := by simp only [List.length_cons, List.length_nil] at hs; omega
          match g, hg2, hg with
          | [x, y], _, hg =>
            have hy := two_second _ hg x y rfl
            have hcy : c ≠ y := by
              rintro rfl
              obtain ⟨_, h1, h2, h3, h4, h5⟩ := h
              rcases hy with e | e | e | e | e
              · exact h1 e
              · exact h2 e
              · exact h3 e
              · exact h4 e
              · exact h5 e
            show (([b, c] : List UInt8) == [x, y]) = (([b] : List UInt8) == [x, y])
            rw [beq_eq_false_iff_ne.2 (fun e : ([b, c] : List UInt8) = [x, y] => hcy (by simp at e; exact e.2)), beq_eq_false_iff_ne.2 (by simp)]
      rw [List.find?_cons, List.find?_cons, e, ih (fun g hg => hl g (List.mem_cons_of_mem _ hg))]
  rw [key signsL (fun g hg => hg)]
theorem stepT_c (b : UInt8) (r : List UInt8) : stepT (b :: r) = if blankA b = true then (none, r) else if digitB b = true then (some (1, (b :: r).takeWhile digitB), (b :: r).dropWhile digitB) else if nameA (b :: r) ≠ [] then (some (2, nameA (b :: r)), (b :: r).drop (nameA (b :: r)).length) else if signF (b :: r) ≠ [] then (some (3, signF (b :: r)), (b :: r).drop (signF (b :: r)).length) else (some (3, [35]), r) := rfl
/-- TOKENS OF TEXTS PUT TOGETHER. -/
theorem tok_app {c : UInt8} (h : cutB c) (q : List UInt8) : ∀ (n : Nat) (s : List UInt8), s.length ≤ n → tokF (s ++ c :: q) = tokF s ++ tokF (c :: q)
  | _, [], _ => by rw [tokF_nil]; rfl
  | 0, _ :: _, hn => by simp at hn
  | n + 1, b :: r, hn => by
    have hl := stepT_len b r
    have e : stepT (b :: r ++ c :: q) = ((stepT (b :: r)).1, (stepT (b :: r)).2 ++ c :: q) := by
      have hsg := signF_app h b r q
      have hnm := nameA_app h b r q
      have htw := sTw_app digitB (cut_dg h) (b :: r) q
      rw [List.cons_append, stepT_c, stepT_c, ← List.cons_append, hsg, hnm, htw.1, htw.2]
      by_cases h1 : blankA b = true
      · rw [if_pos h1, if_pos h1]
      · rw [if_neg h1, if_neg h1]
        by_cases h2 : digitB b = true
        · rw [if_pos h2, if_pos h2]
        · rw [if_neg h2, if_neg h2]
          by_cases h3 : nameA (b :: r) ≠ []
          · rw [if_pos h3, if_pos h3, List.drop_append_of_le_length (nameA_len _)]
          · rw [if_neg h3, if_neg h3]
            by_cases h4 : signF (b :: r) ≠ []
            · rw [if_pos h4, if_pos h4, List.drop_append_of_le_length (signF_len h4).2.1]
            · rw [if_neg h4, if_neg h4]
    rw [List.cons_append, tokF_cons, ← List.cons_append, e, tokF_cons b r]
    simp only
    rw [tok_app h q n _ (by simp only [List.length_cons] at hl hn; omega), List.append_assoc]
/-- A sign of one byte that begins no other. -/
theorem tok_one {c : UInt8} (hc : c = 40 ∨ c = 41 ∨ c = 43 ∨ c = 42) (q : List UInt8) : tokF (c :: q) = (3, [c]) :: tokF q := by
  have h1 : blankA c = false ∧ digitB c = false ∧ letterB c true = false := by rcases hc with rfl | rfl | rfl | rfl <;> decide
  have h2 : signF (c :: q) = [c] := by rcases hc with rfl | rfl | rfl | rfl <;> (unfold signF signsL; simp [List.find?])
  rw [tokF_cons]
  unfold stepT
  rw [if_neg (by simp [h1.1]), if_neg (by simp [h1.2.1]), if_neg (by rw [nameA_first h1.2.2]; simp), if_pos (by rw [h2]; simp), h2]
  rfl
theorem tok_blank {c : UInt8} (hc : blankA c = true) (q : List UInt8) : tokF (c :: q) = tokF q := by
  rw [tokF_cons]; unfold stepT; rw [if_pos (by simpa using hc)]; rfl
/-- What the replacer makes of a byte. -/
def repB (c : UInt8) : List UInt8 := if c = 40 then [32, 40, 32] else if c = 41 then [32, 41, 32] else if c = 43 then [43, 32] else if c = 42 then [32, 42, 32] else [c]
def repF (s : List UInt8) : List UInt8 := s.flatMap repB
theorem rep_spec {c : UInt8} (hc : c = 40 ∨ c = 41 ∨ c = 43 ∨ c = 42) (q : List UInt8) : ∃ b r, repB c ++ q = b :: r ∧ cutB b ∧ tokF (b :: r) = (3, [c]) :: tokF q := by
  rcases hc with rfl | rfl | rfl | rfl
  · exact ⟨32, 40 :: 32 :: q, rfl, by decide, by rw [tok_blank (by decide), tok_one (.inl rfl), tok_blank (by decide)]⟩
  · exact ⟨32, 41 :: 32 :: q, rfl, by decide, by rw [tok_blank (by decide), tok_one (.inr (.inl rfl)), tok_blank (by decide)]⟩
  · exact ⟨43, 32 :: q, rfl, by decide, by rw [tok_one (.inr (.inr (.inl rfl))), tok_blank (by decide)]⟩
  · exact ⟨32, 42 :: 32 :: q, rfl, by decide, by rw [tok_blank (by decide), tok_one (.inr (.inr (.inr rfl))), tok_blank (by decide)]⟩
theorem rep_cut {c : UInt8} (hc : c = 40 ∨ c = 41 ∨ c = 43 ∨ c = 42) : cutB c := by rcases hc with rfl | rfl | rfl | rfl <;> decide
/-- Blanks about signs turn no token. -/
theorem tok_rep : ∀ (n : Nat) (p s : List UInt8), s.length ≤ n → tokF (p ++ repF s) = tokF (p ++ s)
  | _, p, [], _ => rfl
  | 0, _, _ :: _, hn => by simp at hn
  | n + 1, p, c :: r, hn => by
    have hr : r.length ≤ n := by simpa using hn
    by_cases hc : c = 40 ∨ c = 41 ∨ c = 43 ∨ c = 42
    · obtain ⟨b, q, e1, e2, e3⟩ := rep_spec hc (repF r)
      have e4 : repF (c :: r) = b :: q := e1
      rw [e4, tok_app e2 q _ p (Nat.le_refl _), e3, tok_app (rep_cut hc) r _ p (Nat.le_refl _), tok_one hc]
      have := tok_rep n [] r hr
      rw [List.nil_append, List.nil_append] at this
      rw [this]
    · have e : repB c = [c] := by
        unfold repB
        rw [if_neg (fun h => hc (.inl h)), if_neg (fun h => hc (.inr (.inl h))), if_neg (fun h => hc (.inr (.inr (.inl h)))), if_neg (fun h => hc (.inr (.inr (.inr h))))]
      have e2 : repF (c :: r) = c :: repF r := by show repB c ++ repF r = _; rw [e]; rfl
      have := tok_rep n (p ++ [c]) r hr
      rw [e2]
      simpa using this
/-- What is read hangs on the tokens. -/
theorem readT_tok {s s' : List UInt8} (h : tokF s' = tokF s) : readT s' = readT s := by
  have hS := (same_read (j := 0) (tl := []) (.inl rfl) s.length).2.2 0 s s' (Nat.le_refl _) (by rw [h, List.append_nil])
  unfold readT
  cases hR : rdA .all 0 s with
  | error e => rw [show (0 : Nat) = 0 + 0 from rfl, hS.2 e hR rfl rfl]
  | ok y =>
    rcases hS.1 y hR with ⟨r', e1, e2⟩ | ⟨e1, _⟩
    · rw [show (0 : Nat) = 0 + 0 from rfl, e1]
      rw [List.append_nil] at e2
      have : (trimA r' = []) ↔ (trimA y.2 = []) := by
        constructor
        · intro h; exact trim_ne_tok (by rw [← e2]; exact tok_end h)
        · intro h; exact trim_ne_tok (by rw [e2]; exact tok_end h)
      simp only
      by_cases hy : trimA y.2 = []
      · rw [if_pos (this.2 hy), if_pos hy]
      · rw [if_neg (fun h => hy (this.1 h)), if_neg hy]
    · exact absurd rfl e1
theorem same_spaced (env : List UInt8 → List UInt8) (s : List UInt8) : evalF env (repF s) = evalF env s := by
  have e : tokF (repF s) = tokF s := by
    have := tok_rep s.length [] s (Nat.le_refl _)
    simpa using this
  unfold evalF
  rw [readT_tok e]
end Go.Proofs.YtoedopgjonhemaaGreatDoor
