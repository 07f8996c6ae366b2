/- Tokens tile their text, plain. -/
import Derived.Test.YtifcgeanippepaaDoorLexK
namespace Go.Proofs.YtifcgeanippepaaDoor
open Go Go.RowKit Go.Lw
set_option linter.unusedVariables false
/-! What lies behind where a piece ends turns nothing: with that cut off, it ends at the end. -/
theorem take_app {α : Type} (k : Nat) (x t : List α) (h : k ≤ x.length) : (x ++ t).take k = x.take k := List.take_append_of_le_length h
theorem untilF_cut {c : UInt8} : ∀ {x t y : List UInt8}, untilF c (x ++ t) = .ok (y ++ t) → untilF c x = .ok y
  | [], t, y, h => by
    rw [List.nil_append] at h
    cases t with
    | nil => cases h
    | cons d t =>
      unfold untilF at h
      split at h
      · have := congrArg List.length (Except.ok.inj h); simp at this; omega
      · have := (untilF_tl h).len; simp at this; omega
  | d :: x, t, y, h => by
    rw [List.cons_append] at h
    unfold untilF at h ⊢
    split at h
    · rename_i e
      rw [if_pos e, List.append_cancel_right (Except.ok.inj h)]
    · rename_i e
      rw [if_neg e]
      exact untilF_cut h
theorem pairF_cut : ∀ {x t y : List UInt8}, pairF (x ++ t) = .ok (y ++ t) → pairF x = .ok y
  | [], t, y, h => by
    have := (pairF_tl h)
    rw [List.nil_append] at h
    cases t with
    | nil => cases h
    | cons d t =>
      unfold pairF at h
      simp only at h
      split at h
      · cases h
      · have := congrArg List.length (Except.ok.inj h); simp at this; omega
  | d :: x, t, y, h => by
    rw [List.cons_append] at h
    unfold pairF at h ⊢
    simp only at h ⊢
    split at h
    · cases h
    · rename_i e
      rw [if_neg e, List.append_cancel_right (Except.ok.inj h)]
theorem arithF_cut : ∀ {x t y : List UInt8} {o : Nat}, arithF o (x ++ t) = .ok (y ++ t) → arithF o x = .ok y
  | [], t, y, o, h => by
    rw [List.nil_append] at h
    cases t with
    | nil => cases h
    | cons c t =>
      unfold arithF at h
      split at h
      · have := congrArg List.length (Except.ok.inj h); simp at this; omega
      · split at h
        · have := (arithF_tl h).len; simp at this; omega
        · split at h
          · have := (arithF_tl h).len; simp at this; omega
          · split at h
            · cases h
            · have := (arithF_tl h).len; simp at this; omega
  | c :: x, t, y, o, h => by
    rw [List.cons_append] at h
    unfold arithF at h ⊢
    split at h
    · rename_i e
      have hl := congrArg List.length (Except.ok.inj h)
      simp at hl
      have hx : 1 ≤ x.length := by
        have := congrArg List.length e.2
        simp at this
        omega
      rw [← List.cons_append, take_app 2 (c :: x) t (by simp; omega)] at e
      rw [if_pos e]
      rw [List.drop_append_of_le_length hx] at h
      rw [List.append_cancel_right (Except.ok.inj h)]
    · rename_i e
      have e' : ¬ (o = 0 ∧ (c :: x).take 2 = [41, 41]) := fun h2 => e ⟨h2.1, by
        have hx : 2 ≤ (c :: x).length := take_len h2.2 rfl
        rw [← List.cons_append, take_app 2 (c :: x) t hx]; exact h2.2⟩
      rw [if_neg e']
      split at h
      · rename_i e1
        rw [if_pos e1]; exact arithF_cut h
      · rename_i e1
        rw [if_neg e1]
        split at h
        · rename_i e2
          rw [if_pos e2]; exact arithF_cut h
        · rename_i e2
          rw [if_neg e2]
          split at h
          · cases h
          · rename_i e3
            rw [if_neg e3]; exact arithF_cut h
theorem namesF_cut : ∀ {first : Bool} {x t y : List UInt8}, namesF first (x ++ t) = y ++ t → namesF first x = y
  | first, [], t, y, h => by
    have := (namesF_tl (first := first) (r := t)).len
    rw [List.nil_append] at h
    rw [h] at this
    simp at this
    have hy : y = [] := List.length_eq_zero_iff.1 (by omega)
    rw [hy]
    rfl
  | first, c :: x, t, y, h => by
    rw [List.cons_append] at h
    unfold namesF at h ⊢
    split at h
    · rename_i e
      rw [if_pos e]; exact namesF_cut h
    · rename_i e
      rw [if_neg e]
      rw [← List.cons_append] at h
      exact List.append_cancel_right h
theorem app_of_tl {x t r : List UInt8} (h : Tl (x ++ t) r) (hl : t.length ≤ r.length) : ∃ z, r = z ++ t := by
  obtain ⟨k, hk, rfl⟩ := h
  rw [List.length_drop, List.length_append] at hl
  exact ⟨x.drop k, List.drop_append_of_le_length (by rw [List.length_append] at hk; omega)⟩
theorem pre_pos {k : Nat} {x t w : List UInt8} (hx : k ≤ x.length) (e : (x ++ t).take k = w) : x.take k = w := by
  rw [take_app k x t hx] at e; exact e
theorem pre_neg {k : Nat} {x t w : List UInt8} (e : ¬ (x ++ t).take k = w) (hw : w.length = k) : ¬ x.take k = w := fun h => e (by
  rw [take_app k x t (take_len h hw)]; exact h)
theorem scan_cut : ∀ (n : Nat) (m : Md) (d : Nat) {x t y : List UInt8}, scan n m d (x ++ t) = .ok (y ++ t) → scan n m d x = .ok y
  | 0, m, d, x, t, y, h => by unfold scan at h; cases h
  | n + 1, .piece q, d, [], t, y, h => by
    rw [List.nil_append] at h
    cases t with
    | nil => unfold scan at h; cases h
    | cons c t => have := (piece_less h).len; simp at this; omega
  | n + 1, .piece q, d, c :: x, t, y, h => by
    rw [List.cons_append] at h
    unfold scan at h ⊢
    simp only at h ⊢
    split at h
    · rename_i e; rw [if_pos e]; exact pairF_cut h
    · rename_i e; rw [if_neg e]
      split at h
      · rename_i e; rw [if_pos e]; exact untilF_cut h
      · rename_i e; rw [if_neg e]
        split at h
        · rename_i e; rw [if_pos e]
          split at h
          · cases h
          · rename_i e; rw [if_neg e]; exact scan_cut n _ _ h
        · rename_i e; rw [if_neg e]
          split at h
          · rename_i e; rw [if_pos e]
            split at h
            · rename_i e
              have hl := (arithF_tl h).len
              have h2 : 2 ≤ (x ++ t).length := take_len e rfl
              simp at hl h2
              have hx : 2 ≤ x.length := by omega
              rw [if_pos (pre_pos hx e)]
              rw [List.drop_append_of_le_length hx] at h
              exact arithF_cut h
            · rename_i e
              rw [if_neg (pre_neg e rfl)]
              split at h
              · cases h
              · rename_i e
                rw [if_neg (pre_neg e rfl)]
                split at h
                · rename_i e
                  split at h
                  · cases h
                  · rename_i e2
                    have hl := (scan_tl n _ _ h).len
                    have h2 : 1 ≤ (x ++ t).length := take_len e rfl
                    simp at hl h2
                    have hx : 1 ≤ x.length := by omega
                    rw [if_pos (pre_pos hx e), if_neg e2]
                    rw [List.drop_append_of_le_length hx] at h
                    exact scan_cut n _ _ h
                · rename_i e
                  rw [if_neg (pre_neg e rfl)]
                  split at h
                  · rename_i e
                    have hl := congrArg List.length (Except.ok.inj h)
                    have h2 : 1 ≤ (x ++ t).length := take_len e rfl
                    simp at hl h2
                    have hx : 1 ≤ x.length := by omega
                    rw [if_pos (pre_pos hx e)]
                    rw [List.drop_append_of_le_length hx] at h
                    rw [List.append_cancel_right (Except.ok.inj h)]
                  · rename_i e
                    rw [if_neg (pre_neg e rfl)]
                    rw [namesF_cut (Except.ok.inj h)]
          · rename_i e; rw [if_neg e]
            split at h
            · cases h
            · rename_i e; rw [if_neg e]
              rw [List.append_cancel_right (Except.ok.inj h)]
  | n + 1, .double, d, [], t, y, h => by
    rw [List.nil_append] at h
    cases t with
    | nil => unfold scan at h; cases h
    | cons c t =>
      unfold scan at h
      simp only at h
      split at h
      · have := congrArg List.length (Except.ok.inj h); simp at this; omega
      · split at h
        · cases h
        · rename_i r1 h1
          have a := (piece_less h1).len
          have b := (scan_tl n _ _ h).len
          simp at b; omega
  | n + 1, .double, d, c :: x, t, y, h => by
    rw [List.cons_append] at h
    unfold scan at h ⊢
    simp only at h ⊢
    split at h
    · rename_i e; rw [if_pos e, List.append_cancel_right (Except.ok.inj h)]
    · rename_i e; rw [if_neg e]
      split at h
      · cases h
      · rename_i r1 h1
        have b := (scan_tl n _ _ h).len
        obtain ⟨z, rfl⟩ := app_of_tl (x := c :: x) (scan_tl n _ _ h1) (by simp at b; omega)
        rw [scan_cut n (.piece true) d (x := c :: x) h1]
        exact scan_cut n .double d h
  | n + 1, .brace, d, [], t, y, h => by
    rw [List.nil_append] at h
    cases t with
    | nil => unfold scan at h; cases h
    | cons c t =>
      unfold scan at h
      simp only at h
      split at h
      · have := congrArg List.length (Except.ok.inj h); simp at this; omega
      · split at h
        · cases h
        · split at h
          · have := (scan_tl n _ _ h).len; simp at this; omega
          · split at h
            · cases h
            · rename_i r1 h1
              have a := (piece_less h1).len
              have b := (scan_tl n _ _ h).len
              simp at b; omega
  | n + 1, .brace, d, c :: x, t, y, h => by
    rw [List.cons_append] at h
    unfold scan at h ⊢
    simp only at h ⊢
    split at h
    · rename_i e; rw [if_pos e, List.append_cancel_right (Except.ok.inj h)]
    · rename_i e; rw [if_neg e]
      split at h
      · cases h
      · rename_i e; rw [if_neg e]
        split at h
        · rename_i e; rw [if_pos e]; exact scan_cut n .brace d h
        · rename_i e; rw [if_neg e]
          split at h
          · cases h
          · rename_i r1 h1
            have b := (scan_tl n _ _ h).len
            obtain ⟨z, rfl⟩ := app_of_tl (x := c :: x) (scan_tl n _ _ h1) (by simp at b; omega)
            rw [scan_cut n (.piece false) d (x := c :: x) h1]
            exact scan_cut n .brace d h
theorem piece_cut {x t y : List UInt8} (h : pieceR false 0 (x ++ t) = .ok (y ++ t)) : pieceR false 0 x = .ok y := by
  unfold pieceR at h ⊢
  have h1 := scan_cut _ _ _ h
  rw [show need (.piece false) (x ++ t).length = need (.piece false) x.length + 2 * t.length by unfold need; simp; omega, scan_fuel _ _ _ _ _ (Nat.le_refl _)] at h1
  exact h1
theorem wordF_cut : ∀ (n : Nat) {x t y : List UInt8}, wordF n (x ++ t) = .ok (y ++ t) → wordF n x = .ok y
  | 0, x, t, y, h => by cases h
  | n + 1, [], t, y, h => by
    rw [List.nil_append] at h
    have hy : y.length = 0 := by
      have := (wordF_tl (n + 1) h).len; simp at this; omega
    rw [List.length_eq_zero_iff.1 hy]
    rfl
  | n + 1, c :: x, t, y, h => by
    rw [List.cons_append] at h
    unfold wordF at h ⊢
    split at h
    · rename_i e
      rw [if_pos e]
      rw [← List.cons_append] at h
      rw [List.append_cancel_right (Except.ok.inj h)]
    · rename_i e
      rw [if_neg e]
      split at h
      · cases h
      · rename_i r1 h1
        have b := (wordF_tl n h).len
        obtain ⟨z, rfl⟩ := app_of_tl (x := c :: x) (scan_tl _ _ _ h1) (by simp at b; omega)
        rw [piece_cut (x := c :: x) h1]
        exact wordF_cut n h
/-- The whole is a word. -/
def WordT (x : List UInt8) : Prop := wordF (x.length + 1) x = .ok []
theorem word_first {c : UInt8} {x : List UInt8} (h : WordT (c :: x)) : endB c = false := by
  cases e : endB c with
  | false => rfl
  | true =>
    unfold WordT at h
    rw [List.length_cons, word_end e] at h
    cases h
/-- A word's first piece, and what is left is a word. -/
theorem word_piece {c : UInt8} {x : List UInt8} (h : WordT (c :: x)) : ∃ k, 1 ≤ k ∧ k ≤ x.length + 1 ∧ pieceT (c :: x) = (k, 0) ∧ WordT ((c :: x).drop k) := by
  have he := word_first h
  unfold WordT at h
  rw [List.length_cons] at h
  cases hp : pieceR false 0 (c :: x) with
  | error e => rw [word_err he hp] at h; cases h
  | ok r' =>
    rw [word_step he hp] at h
    obtain ⟨j, hj, hd⟩ := piece_less hp
    have hl : r'.length = x.length - j := by rw [← hd, List.length_drop]
    refine ⟨j + 1, by omega, by omega, ?_, ?_⟩
    · simp only [pieceT]
      rw [he, hp]
      simp only [Bool.false_eq_true, if_false]
      rw [hl]
      congr 1
      omega
    · rw [List.drop_succ_cons, hd]
      unfold WordT
      rw [show x.length + 1 = (r'.length + 1) + j by omega, wordF_fuel _ _ _ (by omega)] at h
      exact h
def blankB (c : UInt8) : Bool := [32, 9].contains c
theorem blankB_iff {c : UInt8} : blankB c = true ↔ c = 32 ∨ c = 9 := by simp [blankB]
/-- What may stand between tokens: no newline; blanks, then nothing or a remark. -/
def gapOK (g : List UInt8) : Prop := (∀ c ∈ g, c ≠ 10) ∧ (g.dropWhile blankB = [] ∨ ∃ r, g.dropWhile blankB = 35 :: r)
def Alone (t : Tk) : Prop := t.kind ≠ 0 ∧ lexT t.text = .ok [⟨t.kind, t.text, 0⟩] ∧ (t.kind = 1 → WordT t.text)
def Tiled (s : List UInt8) : Nat → List Tk → Prop
  | a, [] => gapOK (s.drop a)
  | a, t :: l => a ≤ t.pos ∧ t.pos + t.text.length ≤ s.length ∧ (s.drop t.pos).take t.text.length = t.text ∧ gapOK ((s.drop a).take (t.pos - a)) ∧ Alone t ∧ Tiled s (t.pos + t.text.length) l
def Gap (g r : List UInt8) : Prop := (∀ c ∈ g, blankB c = true) ∨ (gapOK g ∧ (r = [] ∨ ∃ r', r = 10 :: r'))
theorem blank_drop {g r : List UInt8} (h : ∀ c ∈ g, blankB c = true) : (g ++ r).dropWhile blankB = r.dropWhile blankB := by
  induction g with
  | nil => rfl
  | cons c g ih =>
    rw [List.cons_append, List.dropWhile_cons, if_pos (h c List.mem_cons_self)]
    exact ih (fun x hx => h x (List.mem_cons_of_mem _ hx))
theorem blank_ok {g : List UInt8} (h : ∀ c ∈ g, blankB c = true) : gapOK g := by
  refine ⟨fun c hc e => ?_, .inl ?_⟩
  · have := h c hc; subst e; revert this; decide
  · have := blank_drop (r := []) h; rw [List.append_nil] at this; exact this
theorem Gap.ok {g r : List UInt8} (h : Gap g r) : gapOK g := h.elim blank_ok (·.1)
theorem oper_alone : ∀ o ∈ opsL, o.1 ≠ 0 → lexB o.2 [⟨o.1, o.2, 0⟩] = true ∧ o.1 ≠ 1 := by decide +kernel
theorem operF_cut {x t : List UInt8} (h : operF (x ++ t) = none) : operF x = none := by
  unfold operF at h ⊢
  rw [List.find?_eq_none] at h ⊢
  intro o ho hx
  refine h o ho ?_
  simp only [beq_iff_eq] at hx ⊢
  rw [take_app _ x t (take_len hx rfl)]
  exact hx
theorem word_alone {c : UInt8} {r r' : List UInt8} (h1 : ¬ (c = 32 ∨ c = 9)) (h2 : ¬ c = 35) (hop : operF (c :: r) = none) (hw : wordF (r.length + 2) (c :: r) = .ok r') (hl : r.length + 1 ≤ 2048) (hk : (c :: r).all okB = true) :
    Alone ⟨1, (c :: r).take (r.length + 1 - r'.length), 0⟩ ∧ r'.length ≤ r.length ∧ (c :: r).drop (r.length + 1 - r'.length) = r' := by
  have he : endB c = false := by
    cases e : endB c with
    | false => rfl
    | true => exact absurd hop (oper_end e h1)
  obtain ⟨j, hj, hd⟩ := wordF_less hw he
  have hlen : r'.length = r.length - j := by rw [← hd, List.length_drop]
  have hx : (c :: r).take (r.length + 1 - r'.length) = c :: r.take j := by
    rw [show r.length + 1 - r'.length = j + 1 by omega, List.take_succ_cons]
  have hall : c :: r = (c :: r.take j) ++ r' := by rw [List.cons_append, ← hd, List.take_append_drop]
  have hlj : (r.take j).length = j := by rw [List.length_take]; omega
  have hop' : operF (c :: r.take j) = none := operF_cut (t := r') (by rw [← hall]; exact hop)
  have hw' : wordF (r.length + 2) (c :: r.take j) = .ok [] := by
    rw [hall] at hw
    exact wordF_cut _ (y := []) hw
  have hwt : wordF (j + 2) (c :: r.take j) = .ok [] := by
    rw [show r.length + 2 = (j + 2) + (r.length - j) by omega, wordF_fuel _ _ _ (by simp [hlj])] at hw'
    exact hw'
  refine ⟨?_, by omega, by rw [show r.length + 1 - r'.length = j + 1 by omega, List.drop_succ_cons, hd]⟩
  rw [hx]
  refine ⟨Nat.one_ne_zero, ?_, fun _ => ?_⟩
  · unfold lexT
    have ha : (c :: r.take j).all okB = true := by
      rw [hall, List.all_append, Bool.and_eq_true] at hk
      exact hk.1
    rw [if_neg (by rw [List.length_cons, hlj]; omega), if_neg (by rw [ha]; decide)]
    rw [List.length_cons, hlj]
    have hw2 : wordF ((r.take j).length + 2) (c :: r.take j) = .ok [] := by rw [hlj]; exact hwt
    rw [lex_word (m := j + 1) h1 h2 hop' hw2]
    simp [lexF, Except.map, hlj, List.take_take]
  · unfold WordT
    rw [List.length_cons, hlj]
    exact hwt
theorem gap_take {s : List UInt8} {a b k : Nat} (h : a ≤ b) : (s.drop a).take (b + k - a) = (s.drop a).take (b - a) ++ (s.drop b).take k := by
  rw [show b + k - a = (b - a) + k by omega, List.take_add, List.drop_drop, show a + (b - a) = b by omega]
theorem drop_head {f : UInt8 → Bool} : ∀ {l : List UInt8} {x : UInt8} {y : List UInt8}, l.dropWhile f = x :: y → f x = false
  | [], x, y, h => by cases h
  | c :: l, x, y, h => by
    rw [List.dropWhile_cons] at h
    split at h
    · exact drop_head h
    · rename_i e
      cases h
      simpa using e
theorem tile : ∀ (n : Nat) (s : List UInt8) (a b : Nat) (l : List Tk), s.length ≤ 2048 → s.all okB = true → a ≤ b → b ≤ s.length → lexF n s.length (s.drop b) = .ok l → Gap ((s.drop a).take (b - a)) (s.drop b) → Tiled s a l
  | 0, s, a, b, l, _, _, _, _, h, _ => by cases h
  | n + 1, s, a, b, l, hs, hk, hab, hb, h, hg => by
    cases hd : s.drop b with
    | nil =>
      rw [hd] at h
      have hbs : s.length ≤ b := List.drop_eq_nil_iff.1 hd
      cases h
      have := hg.ok
      rw [List.take_of_length_le (by rw [List.length_drop]; omega)] at this
      exact this
    | cons c r =>
      have hbl : b < s.length := by
        have := congrArg List.length hd; simp at this; omega
      have hrl : s.length - b = r.length + 1 := by
        have := congrArg List.length hd; simpa using this
      have hr : s.drop (b + 1) = r := by rw [← List.drop_drop, hd, List.drop_succ_cons, List.drop_zero]
      have hkr : (c :: r).all okB = true := by
        rw [← hd]
        exact List.all_eq_true.2 (fun x hx => List.all_eq_true.1 hk x (List.mem_of_mem_drop hx))
      rw [hd] at h hg
      by_cases h1 : c = 32 ∨ c = 9
      · rw [lex_blank h1] at h
        refine tile n s a (b + 1) l hs hk (by omega) (by omega) (by rw [hr]; exact h) ?_
        rw [gap_take hab, hd, List.take_succ_cons, List.take_zero]
        rcases hg with hg | ⟨_, hg | ⟨r', hg⟩⟩
        · left
          intro x hx
          rcases List.mem_append.1 hx with hx | hx
          · exact hg x hx
          · rw [List.mem_singleton.1 hx]; exact blankB_iff.2 h1
        · cases hg
        · cases hg; rcases h1 with h1 | h1 <;> cases h1
      · by_cases h2 : c = 35
        · rw [lex_hash h1 h2] at h
          obtain ⟨q, hq⟩ : ∃ q, ((c :: r).takeWhile (· != 10)).length = q := ⟨_, rfl⟩
          have hq2 : (c :: r).drop q = (c :: r).dropWhile (· != 10) := by rw [← hq]; exact drop_takeWhile _ _
          have hq3 : (c :: r).take q = (c :: r).takeWhile (· != 10) := by
            rw [← hq]
            conv => lhs; rw [← List.takeWhile_append_dropWhile (p := (· != 10)) (l := c :: r)]
            rw [List.takeWhile_append_dropWhile]
            have := List.take_left (l₁ := (c :: r).takeWhile (· != 10)) (l₂ := (c :: r).dropWhile (· != 10))
            rw [List.takeWhile_append_dropWhile] at this
            exact this
          have hq4 : q ≤ r.length + 1 := by
            have := takeWhile_len (· != 10) (c :: r); simp at this hq; omega
          refine tile n s a (b + q) l hs hk (by omega) (by omega) (by rw [← List.drop_drop, hd, hq2]; exact h) ?_
          rw [gap_take hab, hd, hq3, ← List.drop_drop, hd, hq2]
          right
          rcases hg with hg | ⟨_, hg | ⟨r', hg⟩⟩
          · refine ⟨⟨fun x hx => ?_, .inr ?_⟩, ?_⟩
            · rcases List.mem_append.1 hx with hx | hx
              · exact (blank_ok hg).1 x hx
              · have := List.all_eq_true.1 (List.all_takeWhile (p := fun x : UInt8 => x != 10) (l := c :: r)) x hx
                simpa [bne] using this
            · rw [blank_drop hg, List.takeWhile_cons, if_pos (by subst h2; decide), List.dropWhile_cons, if_neg (by subst h2; decide)]
              exact ⟨_, by rw [h2]⟩
            · cases e : (c :: r).dropWhile (· != 10) with
              | nil => exact .inl rfl
              | cons x y =>
                right
                have := drop_head e
                exact ⟨y, by rw [show x = 10 by simpa [bne] using this]⟩
          · cases hg
          · cases hg; cases h2
        · have hpos : s.length - (r.length + 1) = b := by omega
          cases hop : operF (c :: r) with
          | some o =>
            obtain ⟨k, t⟩ := o
            rw [lex_some h1 h2 hop] at h
            split at h
            · cases h
            · rename_i hk0
              have ho := operF_in hop
              have ho2 := operF_len hop
              simp only at ho ho2
              cases hx : lexF n s.length ((c :: r).drop t.length) with
              | error e => rw [hx] at h; cases h
              | ok y =>
                rw [hx] at h
                cases h
                have hal := oper_alone _ ho.1 hk0
                refine ⟨by show a ≤ s.length - (r.length + 1); rw [hpos]; exact hab, by show s.length - (r.length + 1) + t.length ≤ s.length; rw [hpos]; have := ho2.2.1; simp at this; omega, ?_, ?_, ⟨hk0, lexB_ok hal.1, fun e => absurd e hal.2⟩, ?_⟩
                · show (s.drop (s.length - (r.length + 1))).take t.length = t
                  rw [hpos, hd]; exact ho.2
                · show gapOK ((s.drop a).take (s.length - (r.length + 1) - a))
                  rw [hpos]; exact hg.ok
                · show Tiled s (s.length - (r.length + 1) + t.length) y
                  rw [hpos]
                  have := ho2.2.1
                  simp at this
                  refine tile n s (b + t.length) (b + t.length) y hs hk (Nat.le_refl _) (by omega) (by rw [← List.drop_drop, hd]; exact hx) ?_
                  rw [Nat.sub_self, List.take_zero]
                  exact .inl (fun x hx => by cases hx)
          | none =>
            cases hw : wordF (r.length + 2) (c :: r) with
            | error e => rw [lex_bad h1 h2 hop hw] at h; cases h
            | ok r' =>
              rw [lex_word h1 h2 hop hw] at h
              obtain ⟨hal, hrl2, hdr⟩ := word_alone h1 h2 hop hw (by omega) hkr
              cases hx : lexF n s.length r' with
              | error e => rw [hx] at h; cases h
              | ok y =>
                rw [hx] at h
                cases h
                have htl : ((c :: r).take (r.length + 1 - r'.length)).length = r.length + 1 - r'.length := by
                  rw [List.length_take, List.length_cons]; omega
                refine ⟨by show a ≤ s.length - (r.length + 1); rw [hpos]; exact hab, by show s.length - (r.length + 1) + List.length _ ≤ s.length; rw [hpos, htl]; omega, ?_, ?_, hal, ?_⟩
                · show (s.drop (s.length - (r.length + 1))).take (List.length _) = _
                  rw [hpos, hd, htl]
                · show gapOK ((s.drop a).take (s.length - (r.length + 1) - a))
                  rw [hpos]; exact hg.ok
                · show Tiled s (s.length - (r.length + 1) + List.length _) y
                  rw [hpos, htl]
                  refine tile n s _ _ y hs hk (Nat.le_refl _) (by omega) (by rw [← List.drop_drop, hd, hdr]; exact hx) ?_
                  rw [Nat.sub_self, List.take_zero]
                  exact .inl (fun x hx => by cases hx)
/-- One token, or the end. -/
theorem tiles_at {s : List UInt8} {l : List Tk} {a k : Nat} {t : Tk} (h : Tiled s a (l.drop k)) (ha : a ≤ s.length) (hk : k ≤ l.length) (ht : (l ++ [⟨0, [], s.length⟩])[k]? = some t) :
    (a ≤ t.pos ∧ t.pos + t.text.length ≤ s.length ∧ (s.drop t.pos).take t.text.length = t.text ∧ gapOK ((s.drop a).take (t.pos - a))) ∧
    ((k < l.length ∧ Alone t ∧ Tiled s (t.pos + t.text.length) (l.drop (k + 1))) ∨ (k = l.length ∧ t.kind = 0)) := by
  by_cases hlt : k < l.length
  · rw [List.getElem?_append_left hlt] at ht
    have e : l.drop k = t :: l.drop (k + 1) := by
      rw [List.drop_eq_getElem_cons hlt]
      rw [List.getElem?_eq_getElem hlt] at ht
      rw [Option.some.inj ht]
    rw [e] at h
    obtain ⟨h1, h2, h3, h4, h5, h6⟩ := h
    exact ⟨⟨h1, h2, h3, h4⟩, .inl ⟨hlt, h5, h6⟩⟩
  · obtain rfl : k = l.length := by omega
    rw [List.getElem?_append_right (Nat.le_refl _), Nat.sub_self] at ht
    cases Option.some.inj ht
    rw [List.drop_length] at h
    refine ⟨⟨ha, by simp, by simp, ?_⟩, .inr ⟨rfl, rfl⟩⟩
    show gapOK ((s.drop a).take (s.length - a))
    rw [List.take_of_length_le (by rw [List.length_drop]; omega)]
    exact h
/-- THE LAW: tokens tile their text. -/
theorem lexT_tiles {s : List UInt8} {l : List Tk} (h : lexT s = .ok l) : Tiled s 0 l := by
  unfold lexT at h
  split at h
  · cases h
  · rename_i h1
    split at h
    · cases h
    · rename_i h2
      refine tile _ s 0 0 l (by omega) (by simpa using h2) (Nat.le_refl _) (Nat.zero_le _) (by rw [List.drop_zero]; exact h) ?_
      rw [Nat.sub_self, List.take_zero]
      exact .inl (fun x hx => by cases hx)
end Go.Proofs.YtifcgeanippepaaDoor
