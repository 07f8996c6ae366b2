/- Lexing without places; what stands behind a separator. Plain. -/
import Derived.Test.YtifcgeanippepaaDoorTilesP
namespace Go.Proofs.YtifcgeanippepaaDoor
open Go Go.RowKit Go.Lw
set_option linter.unusedVariables false
/-- A token without its place. -/
abbrev Kt := Nat × List UInt8
def Tk.kt (t : Tk) : Kt := (t.kind, t.text)
def lexG : Nat → List UInt8 → Except Nat (List Kt)
  | 0, _ => .error 5
  | _ + 1, [] => .ok []
  | n + 1, c :: r =>
    if c = 32 ∨ c = 9 then lexG n r
    else if c = 35 then lexG n ((c :: r).dropWhile (· != 10))
    else match operF (c :: r) with
      | some o => if o.1 = 0 then .error 5 else (lexG n ((c :: r).drop o.2.length)).map (o :: ·)
      | none => match wordF (r.length + 2) (c :: r) with
        | .error e => .error e
        | .ok r' => (lexG n r').map ((1, (c :: r).take (r.length + 1 - r'.length)) :: ·)
theorem lexG_of : ∀ (n N : Nat) (r : List UInt8), (lexF n N r).map (·.map Tk.kt) = lexG n r
  | 0, N, r => rfl
  | n + 1, N, [] => rfl
  | n + 1, N, c :: r => by
    unfold lexF lexG
    split
    · exact lexG_of n N r
    · split
      · exact lexG_of n N _
      · cases hop : operF (c :: r) with
        | some o =>
          simp only
          split
          · rfl
          · rw [← lexG_of n N]
            cases lexF n N (List.drop o.2.length (c :: r)) <;> rfl
        | none =>
          simp only
          cases hw : wordF (r.length + 2) (c :: r) with
          | error e => rfl
          | ok r' =>
            simp only
            rw [← lexG_of n N]
            cases lexF n N r' <;> rfl
theorem lexG_more : ∀ (n : Nat) (r : List UInt8), r.length < n → lexG (n + 1) r = lexG n r
  | 0, r, h => by omega
  | n + 1, [], h => rfl
  | n + 1, c :: r, h => by
    have hl : r.length < n := by simp at h; exact h
    rw [lexG]
    conv => rhs; rw [lexG]
    split
    · exact lexG_more n r hl
    · rename_i h1
      split
      · rename_i h2
        refine lexG_more n _ ?_
        have := takeWhile_len (· != 10) (c :: r)
        have h3 : 1 ≤ ((c :: r).takeWhile (· != 10)).length := by rw [List.takeWhile_cons, h2]; simp
        simp at this h3 ⊢
        omega
      · split
        · rename_i o ho
          have := operF_len ho
          split
          · rfl
          · rw [lexG_more n]
            rw [List.length_drop]
            simp
            omega
        · rename_i hop
          split
          · rfl
          · rename_i r' hw
            have he : endB c = false := by
              cases e : endB c with
              | false => rfl
              | true => exact absurd hop (oper_end e h1)
            have := (wordF_less hw he).len
            rw [lexG_more n _ (by omega)]
theorem lexG_fuel (n k : Nat) (r : List UInt8) (h : r.length < n) : lexG (n + k) r = lexG n r := by
  induction k with
  | zero => rfl
  | succ k ih => rw [← Nat.add_assoc, lexG_more (n + k) r (by omega), ih]
def lexS (r : List UInt8) : Except Nat (List Kt) := lexG (r.length + 1) r
theorem lexS_at {n : Nat} {r : List UInt8} (h : r.length < n) : lexG n r = lexS r := by
  unfold lexS
  obtain ⟨k, rfl⟩ : ∃ k, n = (r.length + 1) + k := ⟨n - (r.length + 1), by omega⟩
  exact lexG_fuel _ _ _ (Nat.lt_succ_self _)
theorem lexS_of {s : List UInt8} {l : List Tk} (h : lexT s = .ok l) : lexS s = .ok (l.map Tk.kt) := by
  unfold lexT at h
  split at h
  · cases h
  · split at h
    · cases h
    · unfold lexS
      rw [← lexG_of (s.length + 1) s.length, h]
      rfl
theorem lexT_of {s : List UInt8} {l : List Kt} (h : lexS s = .ok l) (hl : s.length ≤ 2048) (hk : s.all okB = true) : ∃ l', lexT s = .ok l' ∧ l'.map Tk.kt = l := by
  unfold lexT
  rw [if_neg (by omega), if_neg (by rw [hk]; decide)]
  unfold lexS at h
  rw [← lexG_of (s.length + 1) s.length] at h
  cases e : lexF (s.length + 1) s.length s with
  | error x => rw [e] at h; cases h
  | ok l' => rw [e] at h; exact ⟨l', rfl, Except.ok.inj h⟩
/-- Its head is a blank or a newline, or it is empty. -/
def Sep (T : List UInt8) : Prop := T = [] ∨ ∃ e t, T = e :: t ∧ (e = 32 ∨ e = 9 ∨ e = 10)
theorem Sep.head {e : UInt8} {t : List UInt8} (h : Sep (e :: t)) : e = 32 ∨ e = 9 ∨ e = 10 := by
  rcases h with h | ⟨_, _, h, k⟩
  · cases h
  · cases h; exact k
theorem sep_end {e : UInt8} {t : List UInt8} (h : Sep (e :: t)) : endB e = true := by
  rcases h.head with rfl | rfl | rfl <;> rfl
theorem sep_letter {e : UInt8} {t : List UInt8} (h : Sep (e :: t)) (b : Bool) : letterB e b = false := by
  rcases h.head with rfl | rfl | rfl <;> cases b <;> rfl
theorem ext_neg {k : Nat} {x T w : List UInt8} (hT : Sep T) (e : ¬ x.take k = w) (hw : w.length = k) (hb : ∀ c ∈ w, endB c = false) : ¬ (x ++ T).take k = w := fun h => by
  by_cases hx : k ≤ x.length
  · rw [take_app k x T hx] at h; exact e h
  · have h2 := take_len h hw
    rw [List.length_append] at h2
    cases T with
    | nil => simp at h2; omega
    | cons c t =>
      have : c ∈ (x ++ c :: t).take k := by
        rw [List.take_append, List.mem_append]
        right
        obtain ⟨j, hj⟩ : ∃ j, k - x.length = j + 1 := ⟨k - x.length - 1, by omega⟩
        rw [hj, List.take_succ_cons]
        exact List.mem_cons_self
      rw [h] at this
      have := hb c this
      rw [sep_end hT] at this
      cases this
theorem ext_pos {k : Nat} {x T w : List UInt8} (e : x.take k = w) (hw : w.length = k) : (x ++ T).take k = w := by
  rw [take_app k x T (take_len e hw)]; exact e
theorem untilF_ext {c : UInt8} : ∀ {x y : List UInt8} (T : List UInt8), untilF c x = .ok y → untilF c (x ++ T) = .ok (y ++ T)
  | [], y, T, h => by cases h
  | d :: x, y, T, h => by
    rw [List.cons_append]
    unfold untilF at h ⊢
    split at h
    · rename_i e; rw [if_pos e, Except.ok.inj h]
    · rename_i e; rw [if_neg e]; exact untilF_ext T h
theorem pairF_ext {x y : List UInt8} (T : List UInt8) (h : pairF x = .ok y) : pairF (x ++ T) = .ok (y ++ T) := by
  cases x with
  | nil => cases h
  | cons d x =>
    rw [List.cons_append]
    unfold pairF at h ⊢
    simp only at h ⊢
    split at h
    · cases h
    · rename_i e; rw [if_neg e, Except.ok.inj h]
theorem arithF_ext : ∀ {x y : List UInt8} {o : Nat} {T : List UInt8}, Sep T → arithF o x = .ok y → arithF o (x ++ T) = .ok (y ++ T)
  | [], y, o, T, hT, h => by cases h
  | c :: x, y, o, T, hT, h => by
    rw [List.cons_append]
    unfold arithF at h ⊢
    split at h
    · rename_i e
      have hx : 1 ≤ x.length := by
        have := take_len e.2 rfl
        simp at this
        omega
      rw [if_pos ⟨e.1, by rw [← List.cons_append]; exact ext_pos e.2 rfl⟩, List.drop_append_of_le_length hx, Except.ok.inj h]
    · rename_i e
      have e' : ¬ (o = 0 ∧ (c :: (x ++ T)).take 2 = [41, 41]) := fun h2 => e ⟨h2.1, by
        have h3 := h2.2
        rw [← List.cons_append] at h3
        refine Classical.byContradiction fun h4 => ext_neg hT h4 rfl (by decide) h3⟩
      rw [if_neg e']
      split at h
      · rename_i e1; rw [if_pos e1]; exact arithF_ext hT h
      · rename_i e1; rw [if_neg e1]
        split at h
        · rename_i e2; rw [if_pos e2]; exact arithF_ext hT h
        · rename_i e2; rw [if_neg e2]
          split at h
          · cases h
          · rename_i e3; rw [if_neg e3]; exact arithF_ext hT h
theorem namesF_ext : ∀ {first : Bool} {x T : List UInt8}, Sep T → namesF first (x ++ T) = namesF first x ++ T
  | first, [], T, hT => by
    cases T with
    | nil => rfl
    | cons e t =>
      rw [List.nil_append]
      unfold namesF
      rw [sep_letter hT]
      rfl
  | first, c :: x, T, hT => by
    rw [List.cons_append]
    unfold namesF
    split
    · exact namesF_ext hT
    · rfl
theorem scan_ext : ∀ (n : Nat) (m : Md) (d : Nat) {x y T : List UInt8}, Sep T → scan n m d x = .ok y → scan n m d (x ++ T) = .ok (y ++ T)
  | 0, m, d, x, y, T, hT, h => by unfold scan at h; cases h
  | n + 1, .piece q, d, [], y, T, hT, h => by unfold scan at h; cases h
  | n + 1, .piece q, d, c :: x, y, T, hT, h => by
    rw [List.cons_append]
    unfold scan at h ⊢
    simp only at h ⊢
    split at h
    · rename_i e; rw [if_pos e]; exact pairF_ext T h
    · rename_i e; rw [if_neg e]
      split at h
      · rename_i e; rw [if_pos e]; exact untilF_ext T h
      · rename_i e; rw [if_neg e]
        split at h
        · rename_i e; rw [if_pos e]
          split at h
          · cases h
          · rename_i e; rw [if_neg e]; exact scan_ext n _ _ hT h
        · rename_i e; rw [if_neg e]
          split at h
          · rename_i e; rw [if_pos e]
            split at h
            · rename_i e
              rw [if_pos (ext_pos e rfl), List.drop_append_of_le_length (take_len e rfl)]
              exact arithF_ext hT h
            · rename_i e
              rw [if_neg (ext_neg hT e rfl (by decide))]
              split at h
              · cases h
              · rename_i e
                rw [if_neg (ext_neg hT e rfl (by decide))]
                split at h
                · rename_i e
                  split at h
                  · cases h
                  · rename_i e2
                    rw [if_pos (ext_pos e rfl), if_neg e2, List.drop_append_of_le_length (take_len e rfl)]
                    exact scan_ext n _ _ hT h
                · rename_i e
                  rw [if_neg (ext_neg hT e rfl (by decide))]
                  split at h
                  · rename_i e
                    rw [if_pos (ext_pos e rfl), List.drop_append_of_le_length (take_len e rfl), Except.ok.inj h]
                  · rename_i e
                    rw [if_neg (ext_neg hT e rfl (by decide)), namesF_ext hT, Except.ok.inj h]
          · rename_i e; rw [if_neg e]
            split at h
            · cases h
            · rename_i e; rw [if_neg e, Except.ok.inj h]
  | n + 1, .double, d, [], y, T, hT, h => by unfold scan at h; cases h
  | n + 1, .double, d, c :: x, y, T, hT, h => by
    rw [List.cons_append]
    unfold scan at h ⊢
    simp only at h ⊢
    split at h
    · rename_i e; rw [if_pos e, Except.ok.inj h]
    · rename_i e; rw [if_neg e]
      split at h
      · cases h
      · rename_i r1 h1
        have := scan_ext n (.piece true) d hT h1
        rw [List.cons_append] at this
        rw [this]
        exact scan_ext n .double d hT h
  | n + 1, .brace, d, [], y, T, hT, h => by unfold scan at h; cases h
  | n + 1, .brace, d, c :: x, y, T, hT, h => by
    rw [List.cons_append]
    unfold scan at h ⊢
    simp only at h ⊢
    split at h
    · rename_i e; rw [if_pos e, Except.ok.inj h]
    · rename_i e; rw [if_neg e]
      split at h
      · cases h
      · rename_i e; rw [if_neg e]
        split at h
        · rename_i e; rw [if_pos e]; exact scan_ext n .brace d hT h
        · rename_i e; rw [if_neg e]
          split at h
          · cases h
          · rename_i r1 h1
            have := scan_ext n (.piece false) d hT h1
            rw [List.cons_append] at this
            rw [this]
            exact scan_ext n .brace d hT h
theorem piece_ext {x y T : List UInt8} (hT : Sep T) (h : pieceR false 0 x = .ok y) : pieceR false 0 (x ++ T) = .ok (y ++ T) := by
  unfold pieceR at h ⊢
  have h1 : scan (need (.piece false) x.length + 2 * T.length) (.piece false) 0 x = .ok y := by
    rw [scan_fuel _ _ _ _ _ (Nat.le_refl _)]; exact h
  have h2 := scan_ext _ _ _ hT h1
  rw [show need (.piece false) (x ++ T).length = need (.piece false) x.length + 2 * T.length by unfold need; simp; omega]
  exact h2
theorem wordF_ext : ∀ (n : Nat) {x y T : List UInt8}, Sep T → wordF n x = .ok y → wordF n (x ++ T) = .ok (y ++ T)
  | 0, x, y, T, hT, h => by cases h
  | n + 1, [], y, T, hT, h => by
    cases h
    cases T with
    | nil => rfl
    | cons e t => exact word_end (sep_end hT)
  | n + 1, c :: x, y, T, hT, h => by
    rw [List.cons_append]
    unfold wordF at h ⊢
    split at h
    · rename_i e; rw [if_pos e, ← Except.ok.inj h]; rfl
    · rename_i e; rw [if_neg e]
      split at h
      · cases h
      · rename_i r1 h1
        have := piece_ext hT h1
        rw [List.cons_append] at this
        rw [this]
        exact wordF_ext n hT h
theorem ops_tail : ∀ o ∈ opsL, ∀ c ∈ o.2.drop 1, ¬ (c = 32 ∨ c = 9 ∨ c = 10) := by decide
theorem operF_ext {c : UInt8} {x T : List UInt8} (hT : Sep T) : operF (c :: x ++ T) = operF (c :: x) := by
  unfold operF
  have key : ∀ o ∈ opsL, ((c :: x ++ T).take o.2.length == o.2) = ((c :: x).take o.2.length == o.2) := fun o ho => by
    by_cases hx : o.2.length ≤ (c :: x).length
    · rw [take_app _ _ T hx]
    · have h1 : ((c :: x).take o.2.length == o.2) = false := beq_eq_false_iff_ne.2 fun h => hx (take_len h rfl)
      rw [h1]
      refine beq_eq_false_iff_ne.2 fun h => ?_
      have h2 := take_len h rfl
      rw [List.length_append] at h2
      cases T with
      | nil => simp at h2 hx; omega
      | cons e t =>
        refine ops_tail o ho e ?_ hT.head
        rw [← h, List.cons_append]
        obtain ⟨j, hj⟩ : ∃ j, o.2.length = (x.length + 1) + (j + 1) := ⟨o.2.length - (x.length + 1) - 1, by simp at hx; omega⟩
        rw [hj, show x.length + 1 + (j + 1) = (x.length + (j + 1)) + 1 by omega, List.take_succ_cons, List.drop_succ_cons, List.drop_zero, List.take_append, List.mem_append]
        right
        rw [show x.length + (j + 1) - x.length = j + 1 by omega, List.take_succ_cons]
        exact List.mem_cons_self
  have : ∀ l : List (Nat × List UInt8), (∀ o ∈ l, o ∈ opsL) → l.find? (fun o => (c :: x ++ T).take o.2.length == o.2) = l.find? (fun o => (c :: x).take o.2.length == o.2) := fun l => by
    induction l with
    | nil => intro _; rfl
    | cons o l ih =>
      intro hl
      rw [List.find?_cons, List.find?_cons, key o (hl o List.mem_cons_self), ih (fun p hp => hl p (List.mem_cons_of_mem _ hp))]
  exact this opsL (fun _ h => h)
end Go.Proofs.YtifcgeanippepaaDoor
