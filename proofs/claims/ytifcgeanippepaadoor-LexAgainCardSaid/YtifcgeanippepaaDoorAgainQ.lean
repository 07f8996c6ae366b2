/- What Join tells has just these tokens; blanks and a remark turn nothing; two texts, a newline between. Plain. -/
import Derived.Test.YtifcgeanippepaaDoorAgainP
namespace Go.Proofs.YtifcgeanippepaaDoor
open Go Go.RowKit Go.Lw
set_option linter.unusedVariables false
theorem g_blank {c : UInt8} {r : List UInt8} {m : Nat} (h : c = 32 ∨ c = 9) : lexG (m + 1) (c :: r) = lexG m r := by
  conv => lhs; unfold lexG
  rw [if_pos h]
theorem g_hash {c : UInt8} {r : List UInt8} {m : Nat} (h : ¬ (c = 32 ∨ c = 9)) (h1 : c = 35) : lexG (m + 1) (c :: r) = lexG m ((c :: r).dropWhile (· != 10)) := by
  conv => lhs; unfold lexG
  rw [if_neg h, if_pos h1]
theorem g_some {c : UInt8} {r : List UInt8} {m : Nat} {o : Kt} (h : ¬ (c = 32 ∨ c = 9)) (h1 : ¬ c = 35) (h2 : operF (c :: r) = some o) (h3 : o.1 ≠ 0) : lexG (m + 1) (c :: r) = (lexG m ((c :: r).drop o.2.length)).map (o :: ·) := by
  conv => lhs; unfold lexG
  rw [if_neg h, if_neg h1, h2]
  simp only
  rw [if_neg h3]
theorem g_zero {c : UInt8} {r : List UInt8} {m : Nat} {o : Kt} (h : ¬ (c = 32 ∨ c = 9)) (h1 : ¬ c = 35) (h2 : operF (c :: r) = some o) (h3 : o.1 = 0) : lexG (m + 1) (c :: r) = .error 5 := by
  conv => lhs; unfold lexG
  rw [if_neg h, if_neg h1, h2]
  simp only
  rw [if_pos h3]
theorem g_word {c : UInt8} {r r' : List UInt8} {m : Nat} (h : ¬ (c = 32 ∨ c = 9)) (h1 : ¬ c = 35) (h2 : operF (c :: r) = none) (h3 : wordF (r.length + 2) (c :: r) = .ok r') : lexG (m + 1) (c :: r) = (lexG m r').map ((1, (c :: r).take (r.length + 1 - r'.length)) :: ·) := by
  conv => lhs; unfold lexG
  rw [if_neg h, if_neg h1, h2, h3]
theorem g_bad {c : UInt8} {r : List UInt8} {m e : Nat} (h : ¬ (c = 32 ∨ c = 9)) (h1 : ¬ c = 35) (h2 : operF (c :: r) = none) (h3 : wordF (r.length + 2) (c :: r) = .error e) : lexG (m + 1) (c :: r) = .error e := by
  conv => lhs; unfold lexG
  rw [if_neg h, if_neg h1, h2, h3]
/-- A word, as a token, and what is left behind it. -/
theorem word_tok {c : UInt8} {r r' : List UInt8} (h1 : ¬ (c = 32 ∨ c = 9)) (hop : operF (c :: r) = none) (hw : wordF (r.length + 2) (c :: r) = .ok r') :
    ∃ j, j ≤ r.length ∧ r.drop j = r' ∧ (c :: r).take (r.length + 1 - r'.length) = c :: r.take j ∧ operF (c :: r.take j) = none ∧ WordT (c :: r.take j) := by
  have he : endB c = false := by
    cases e : endB c with
    | false => rfl
    | true => exact absurd hop (oper_end e h1)
  obtain ⟨j, hj, hd⟩ := wordF_less hw he
  have hlen : r'.length = r.length - j := by rw [← hd, List.length_drop]
  have hall : c :: r = (c :: r.take j) ++ r' := by rw [List.cons_append, ← hd, List.take_append_drop]
  have hlj : (r.take j).length = j := by rw [List.length_take]; omega
  have hw' : wordF (r.length + 2) (c :: r.take j) = .ok [] := by
    rw [hall] at hw
    exact wordF_cut _ (y := []) hw
  refine ⟨j, hj, hd, by rw [show r.length + 1 - r'.length = j + 1 by omega, List.take_succ_cons], operF_cut (t := r') (by rw [← hall]; exact hop), ?_⟩
  rw [show r.length + 2 = (j + 2) + (r.length - j) by omega, wordF_fuel _ _ _ (by simp [hlj])] at hw'
  unfold WordT
  rw [List.length_cons, hlj]
  exact hw'
def TokOK (k : Kt) : Prop := (k.1 = 1 ∧ (∃ c x, k.2 = c :: x ∧ c ≠ 35) ∧ WordT k.2 ∧ operF k.2 = none) ∨ (k ∈ opsL ∧ k.1 ≠ 0)
theorem lexG_toks : ∀ (n : Nat) (r : List UInt8) (l : List Kt), lexG n r = .ok l → ∀ k ∈ l, TokOK k
  | 0, _, _, h => by cases h
  | n + 1, [], l, h => by cases h; intro t ht; simp at ht
  | n + 1, c :: r, l, h => by
    by_cases h1 : c = 32 ∨ c = 9
    · rw [g_blank h1] at h; exact lexG_toks n r l h
    · by_cases h2 : c = 35
      · rw [g_hash h1 h2] at h; exact lexG_toks n _ l h
      · cases hop : operF (c :: r) with
        | some o =>
          by_cases h3 : o.1 = 0
          · rw [g_zero h1 h2 hop h3] at h; cases h
          · rw [g_some h1 h2 hop h3] at h
            cases hx : lexG n ((c :: r).drop o.2.length) with
            | error e => rw [hx] at h; cases h
            | ok y =>
              rw [hx] at h
              cases h
              intro u hu
              rcases List.mem_cons.1 hu with rfl | hu
              · exact .inr ⟨(operF_in hop).1, h3⟩
              · exact lexG_toks n _ y hx u hu
        | none =>
          cases hw : wordF (r.length + 2) (c :: r) with
          | error e => rw [g_bad h1 h2 hop hw] at h; cases h
          | ok r' =>
            rw [g_word h1 h2 hop hw] at h
            obtain ⟨j, hj, hd, ht, ho, hwt⟩ := word_tok h1 hop hw
            cases hx : lexG n r' with
            | error e => rw [hx] at h; cases h
            | ok y =>
              rw [hx] at h
              cases h
              intro u hu
              rcases List.mem_cons.1 hu with rfl | hu
              · rw [ht]; exact .inl ⟨rfl, ⟨c, r.take j, rfl, h2⟩, hwt, ho⟩
              · exact lexG_toks n _ y hx u hu
theorem oper_self : ∀ o ∈ opsL, o.1 ≠ 0 → operF o.2 = some o := by decide
theorem oper_head : ∀ o ∈ opsL, ∃ c x, o.2 = c :: x ∧ ¬ (c = 32 ∨ c = 9) ∧ ¬ c = 35 := by
  intro o ho
  simp only [opsL, List.mem_cons, List.not_mem_nil, or_false] at ho
  rcases ho with rfl | rfl | rfl | rfl | rfl | rfl | rfl | rfl | rfl | rfl | rfl | rfl | rfl | rfl | rfl | rfl | rfl | rfl <;> exact ⟨_, _, rfl, by decide, by decide⟩
theorem tok_ext {k : Kt} {T : List UInt8} (h : TokOK k) (hT : Sep T) : lexS (k.2 ++ T) = (lexS T).map (k :: ·) := by
  obtain ⟨kd, tx⟩ := k
  rcases h with ⟨h1, ⟨c, x, h2, h3⟩, h4, h5⟩ | ⟨h1, h2⟩
  · simp only at h1 h2 h4 h5
    subst h1; subst h2
    have he := word_first h4
    have hb : ¬ (c = 32 ∨ c = 9) := fun h => by rcases h with rfl | rfl <;> cases he
    have ho : operF (c :: (x ++ T)) = none := by rw [← List.cons_append, operF_ext hT]; exact h5
    have hw : wordF ((x ++ T).length + 2) (c :: (x ++ T)) = .ok T := by
      have h6 : wordF ((x.length + 2) + T.length) (c :: x) = .ok [] := by
        rw [wordF_fuel _ _ _ (by simp)]
        exact h4
      have := wordF_ext _ hT h6
      rw [List.length_append, show x.length + T.length + 2 = x.length + 2 + T.length by omega]
      exact this
    unfold lexS
    rw [List.cons_append, List.length_cons, g_word hb h3 ho hw]
    rw [show (c :: (x ++ T)).take ((x ++ T).length + 1 - T.length) = c :: x by
      rw [List.length_append, show x.length + T.length + 1 - T.length = x.length + 1 by omega, List.take_succ_cons, List.take_left]]
    rw [lexS_at (by rw [List.length_append]; omega)]
    rfl
  · simp only at h1 h2
    obtain ⟨c, x, h3, h4, h5⟩ := oper_head _ h1
    simp only at h3
    have ho := oper_self _ h1 h2
    simp only at ho
    rw [h3] at ho ⊢
    have ho2 : operF (c :: (x ++ T)) = some (kd, c :: x) := by rw [← List.cons_append, operF_ext hT]; rw [← h3] at ho ⊢; exact ho
    show lexS (c :: x ++ T) = _
    unfold lexS
    rw [List.cons_append, List.length_cons, g_some h4 h5 ho2 h2]
    show Except.map _ (lexG _ ((c :: (x ++ T)).drop (x.length + 1))) = _
    rw [List.drop_succ_cons, List.drop_left, lexS_at (by rw [List.length_append]; omega)]
    rfl
def joinK : List Kt → List UInt8
  | [] => []
  | [k] => k.2
  | k :: k2 :: l => k.2 ++ 32 :: joinK (k2 :: l)
theorem blank_lexS {c : UInt8} {r : List UInt8} (h : c = 32 ∨ c = 9) : lexS (c :: r) = lexS r := by
  unfold lexS
  rw [g_blank h]
  rfl
theorem map_app {l : List Kt} {x : Except Nat (List Kt)} {k : Kt} : (x.map (l ++ ·)).map (k :: ·) = x.map ((k :: l) ++ ·) := by
  cases x <;> rfl
theorem join_ext : ∀ (l : List Kt) (T : List UInt8), (∀ k ∈ l, TokOK k) → Sep T → lexS (joinK l ++ T) = (lexS T).map (l ++ ·)
  | [], T, _, _ => by
    show lexS T = _
    cases lexS T <;> rfl
  | [k], T, h, hT => tok_ext (h k List.mem_cons_self) hT
  | k :: k2 :: l, T, h, hT => by
    show lexS ((k.2 ++ 32 :: joinK (k2 :: l)) ++ T) = _
    rw [List.append_assoc, List.cons_append, tok_ext (h k List.mem_cons_self) (.inr ⟨32, _, rfl, .inl rfl⟩), blank_lexS (.inl rfl),
      join_ext (k2 :: l) T (fun p hp => h p (List.mem_cons_of_mem _ hp)) hT, map_app]
theorem lexS_toks {s : List UInt8} {l : List Kt} (h : lexS s = .ok l) : ∀ k ∈ l, TokOK k := lexG_toks _ _ _ h
/-- Join's text has these tokens. -/
theorem again_law {s : List UInt8} {l : List Kt} (h : lexS s = .ok l) : lexS (joinK l) = .ok l := by
  have := join_ext l [] (lexS_toks h) (.inl rfl)
  rw [List.append_nil] at this
  rw [this]
  show Except.ok (l ++ []) = _
  rw [List.append_nil]
def remark : List UInt8 := [35, 32, 39, 114, 101, 109, 97, 114, 107]
def lexSB (s : List UInt8) (l : List Kt) : Bool := match lexS s with
  | .ok l' => decide (l' = l)
  | .error _ => false
theorem lexSB_ok {s : List UInt8} {l : List Kt} (h : lexSB s l = true) : lexS s = .ok l := by
  unfold lexSB at h
  cases e : lexS s with
  | error x => rw [e] at h; cases h
  | ok l' => rw [e] at h; rw [of_decide_eq_true h]
theorem wide_law {s : List UInt8} {l : List Kt} (h : lexS s = .ok l) : lexS ([32, 9] ++ (joinK l ++ [9, 32]) ++ remark) = .ok l := by
  rw [List.append_assoc, List.append_assoc]
  show lexS (32 :: 9 :: (joinK l ++ ([9, 32] ++ remark))) = _
  rw [blank_lexS (.inl rfl), blank_lexS (.inr rfl), join_ext l ([9, 32] ++ remark) (lexS_toks h) (.inr ⟨9, _, rfl, .inr (.inl rfl)⟩),
    show lexS ([9, 32] ++ remark) = .ok [] from lexSB_ok (by decide +kernel)]
  show Except.ok (l ++ []) = _
  rw [List.append_nil]
theorem drop_nl (x t : List UInt8) : (x ++ 10 :: t).dropWhile (· != 10) = x.dropWhile (· != 10) ++ 10 :: t := by
  induction x with
  | nil => rfl
  | cons c x ih =>
    rw [List.cons_append, List.dropWhile_cons, List.dropWhile_cons]
    split
    · exact ih
    · rfl
theorem sep_nl (t : List UInt8) : Sep (10 :: t) := .inr ⟨10, t, rfl, .inr (.inr rfl)⟩
theorem nl_ext (t : List UInt8) : ∀ (n : Nat) (r : List UInt8) (l : List Kt), lexG n r = .ok l → lexS (r ++ 10 :: t) = (lexS (10 :: t)).map (l ++ ·)
  | 0, _, _, h => by cases h
  | n + 1, [], l, h => by
    cases h
    show lexS (10 :: t) = _
    cases lexS (10 :: t) <;> rfl
  | n + 1, c :: r, l, h => by
    rw [List.cons_append]
    by_cases h1 : c = 32 ∨ c = 9
    · rw [g_blank h1] at h
      rw [blank_lexS h1]
      exact nl_ext t n r l h
    · by_cases h2 : c = 35
      · rw [g_hash h1 h2] at h
        have := nl_ext t n _ l h
        rw [← this]
        unfold lexS
        rw [List.length_cons, g_hash h1 h2, ← List.cons_append, drop_nl]
        refine lexS_at ?_
        have h3 := takeWhile_len (· != 10) (c :: r)
        have h4 : 1 ≤ ((c :: r).takeWhile (· != 10)).length := by rw [List.takeWhile_cons, h2]; simp
        simp at h3 h4 ⊢
        omega
      · cases hop : operF (c :: r) with
        | some o =>
          by_cases h3 : o.1 = 0
          · rw [g_zero h1 h2 hop h3] at h; cases h
          · rw [g_some h1 h2 hop h3] at h
            have ho2 : operF (c :: (r ++ 10 :: t)) = some o := by rw [← List.cons_append, operF_ext (sep_nl t)]; exact hop
            have hol := operF_len hop
            cases hx : lexG n ((c :: r).drop o.2.length) with
            | error e => rw [hx] at h; cases h
            | ok y =>
              rw [hx] at h
              cases h
              have := nl_ext t n _ y hx
              unfold lexS
              rw [List.length_cons, g_some h1 h2 ho2 h3, ← List.cons_append, List.drop_append_of_le_length hol.2.1, lexS_at (by simp; omega), this]
              exact map_app
        | none =>
          cases hw : wordF (r.length + 2) (c :: r) with
          | error e => rw [g_bad h1 h2 hop hw] at h; cases h
          | ok r' =>
            rw [g_word h1 h2 hop hw] at h
            obtain ⟨j, hj, hd, ht, ho, hwt⟩ := word_tok h1 hop hw
            have hlr : r'.length = r.length - j := by rw [← hd, List.length_drop]
            have ho2 : operF (c :: (r ++ 10 :: t)) = none := by rw [← List.cons_append, operF_ext (sep_nl t)]; exact hop
            have hw2 : wordF ((r ++ 10 :: t).length + 2) (c :: (r ++ 10 :: t)) = .ok (r' ++ 10 :: t) := by
              have h6 : wordF ((r.length + 2) + (10 :: t).length) (c :: r) = .ok r' := by
                rw [wordF_fuel _ _ _ (by simp)]; exact hw
              have := wordF_ext _ (sep_nl t) h6
              rw [List.length_append, show r.length + (10 :: t).length + 2 = r.length + 2 + (10 :: t).length by omega]
              exact this
            cases hx : lexG n r' with
            | error e => rw [hx] at h; cases h
            | ok y =>
              rw [hx] at h
              cases h
              have := nl_ext t n _ y hx
              unfold lexS
              rw [List.length_cons, g_word h1 h2 ho2 hw2, lexS_at (by simp; omega), this]
              rw [show (c :: (r ++ 10 :: t)).take ((r ++ 10 :: t).length + 1 - (r' ++ 10 :: t).length) = (c :: r).take (r.length + 1 - r'.length) by
                rw [List.length_append, List.length_append, show r.length + (10 :: t).length + 1 - (r'.length + (10 :: t).length) = r.length + 1 - r'.length by omega, ← List.cons_append]
                exact take_app _ _ _ (by simp)]
              exact map_app
/-- Two texts, a newline between. -/
theorem both_law {s t : List UInt8} {l m : List Kt} (h : lexS s = .ok l) (k : lexS t = .ok m) : lexS (s ++ 10 :: t) = .ok (l ++ (2, [10]) :: m) := by
  rw [nl_ext t _ s l h]
  have : lexS (10 :: t) = (lexS t).map ((2, [10]) :: ·) := by
    unfold lexS
    rw [List.length_cons, g_some (o := (2, [10])) (by decide) (by decide) rfl (by decide)]
    rfl
  rw [this, k]
  rfl
theorem text_ne {t : Tk} (h : Alone t) : t.text ≠ [] := fun e => by
  have := h.2.1
  rw [e] at this
  cases this
theorem join_len {s : List UInt8} : ∀ (l : List Tk) (a : Nat), Tiled s a l → a ≤ s.length → (joinK (l.map Tk.kt)).length + 2 * a ≤ 2 * s.length
  | [], a, _, ha => by show 0 + 2 * a ≤ _; omega
  | [t], a, h, ha => by
    obtain ⟨h1, h2, _, _, h5, _⟩ := h
    show t.text.length + 2 * a ≤ _
    omega
  | t :: u :: l, a, h, ha => by
    obtain ⟨h1, h2, _, _, h5, h6⟩ := h
    have ih := join_len (u :: l) _ h6 h2
    have : 1 ≤ t.text.length := by
      have := text_ne h5
      cases e : t.text with
      | nil => exact absurd e this
      | cons c x => simp
    show (t.text ++ 32 :: joinK ((u :: l).map Tk.kt)).length + 2 * a ≤ _
    rw [List.length_append, List.length_cons]
    omega
theorem join_all {s : List UInt8} (hk : s.all okB = true) : ∀ (l : List Tk) (a : Nat), Tiled s a l → (joinK (l.map Tk.kt)).all okB = true
  | [], a, _ => rfl
  | [t], a, h => by
    obtain ⟨_, _, h3, _, _, _⟩ := h
    show t.text.all okB = true
    rw [← h3]
    exact List.all_eq_true.2 (fun x hx => List.all_eq_true.1 hk x (List.mem_of_mem_drop (List.mem_of_mem_take hx)))
  | t :: u :: l, a, h => by
    obtain ⟨_, _, h3, _, _, h6⟩ := h
    have ih := join_all hk (u :: l) _ h6
    show (t.text ++ 32 :: joinK ((u :: l).map Tk.kt)).all okB = true
    rw [List.all_append, List.all_cons, ih, ← h3]
    rw [List.all_eq_true.2 (fun x hx => List.all_eq_true.1 hk x (List.mem_of_mem_drop (List.mem_of_mem_take hx)))]
    rfl
theorem lexT_ok {s : List UInt8} {l : List Tk} (h : lexT s = .ok l) : s.length ≤ 2048 ∧ s.all okB = true := by
  unfold lexT at h
  split at h
  · cases h
  · rename_i h1
    split at h
    · cases h
    · rename_i h2
      exact ⟨by omega, by simpa using h2⟩
/-- THE LAW. -/
theorem again_any {s t : List UInt8} {a b : List Tk} (ha : lexT s = .ok a) (hb : lexT t = .ok b) (hs : s.length ≤ 300) (ht : t.length ≤ 300) :
    (∃ x, lexT (joinK (a.map Tk.kt)) = .ok x ∧ x.map Tk.kt = a.map Tk.kt) ∧
    (∃ x, lexT ([32, 9] ++ (joinK (a.map Tk.kt) ++ [9, 32]) ++ remark) = .ok x ∧ x.map Tk.kt = a.map Tk.kt) ∧
    (∃ x, lexT (s ++ 10 :: t) = .ok x ∧ x.map Tk.kt = a.map Tk.kt ++ (2, [10]) :: b.map Tk.kt) ∧ (joinK (a.map Tk.kt)).length ≤ 600 := by
  have h1 := lexS_of ha
  have h2 := lexS_of hb
  have hjl := join_len a 0 (lexT_tiles ha) (Nat.zero_le _)
  have hja := join_all (lexT_ok ha).2 a 0 (lexT_tiles ha)
  refine ⟨lexT_of (again_law h1) (by omega) hja, lexT_of (wide_law h1) ?_ ?_, lexT_of (both_law h1 h2) ?_ ?_, by omega⟩
  · simp only [List.length_append, remark, List.length_cons, List.length_nil]; omega
  · rw [List.all_append, List.all_append, List.all_append, hja]; rfl
  · rw [List.length_append, List.length_cons]; omega
  · rw [List.all_append, List.all_cons, (lexT_ok ha).2, (lexT_ok hb).2]; rfl
end Go.Proofs.YtifcgeanippepaaDoor
