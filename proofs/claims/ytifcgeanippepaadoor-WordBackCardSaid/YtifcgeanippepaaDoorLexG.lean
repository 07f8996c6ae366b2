/- Words, plain: the text of a good word is lexed as one word, or is too deep. -/
import Derived.Test.YtifcgeanippepaaDoorReadG
namespace Go.Proofs.YtifcgeanippepaaDoor
open Go Go.RowKit Go.Lw
set_option linter.unusedVariables false
set_option linter.unusedSimpArgs false
/-- Scanning, with as many steps as it needs. -/
def sc (m : Md) (d : Nat) (r : List UInt8) : Rs := scan (need m r.length) m d r
theorem sc_of {n : Nat} {m : Md} {d : Nat} {r : List UInt8} (h : need m r.length ≤ n) : scan n m d r = sc m d r := by
  obtain ⟨k, rfl⟩ : ∃ k, n = need m r.length + k := ⟨n - need m r.length, by omega⟩
  exact scan_fuel _ _ _ _ _ (Nat.le_refl _)
theorem sc_piece (q : Bool) (d : Nat) (c : UInt8) (r : List UInt8) : sc (.piece q) d (c :: r) =
      if c = 92 then pairF r
      else if c = 39 ∧ q = false then untilF 39 r
      else if c = 34 ∧ q = false then (if 16 < d + 1 then .error 12 else sc .double (d + 1) r)
      else if c = 36 then
        (if r.take 2 = [40, 40] then arithF 0 (r.drop 2)
         else if r.take 1 = [40] then .error 5
         else if r.take 1 = [123] then (if 16 < d + 1 then .error 12 else sc .brace (d + 1) (r.drop 1))
         else if r.take 1 = [63] then .ok (r.drop 1)
         else .ok (namesF true r))
      else if c = 96 ∨ q = false ∧ (c = 40 ∨ c = 41) then .error 5
      else .ok r := by
  have e : need (.piece q) (c :: r).length = (2 * r.length + 2) + 1 := by simp only [need, List.length_cons]; omega
  unfold sc
  rw [e]
  conv => lhs; unfold scan
  simp only
  rw [sc_of (m := .double) (by simp only [need]; omega), sc_of (m := .brace) (r := r.drop 1) (by simp only [need, List.length_drop]; omega)]
  rfl
theorem sc_double (d : Nat) (c : UInt8) (r : List UInt8) : sc .double d (c :: r) =
      if c = 34 then .ok r
      else match sc (.piece true) d (c :: r) with
        | .error e => .error e
        | .ok r' => sc .double d r' := by
  have e : need .double (c :: r).length = (2 * r.length + 3) + 1 := by simp only [need, List.length_cons]; omega
  conv => lhs; unfold sc
  rw [e]
  conv => lhs; unfold scan
  simp only
  rw [sc_of (m := .piece true) (by simp only [need, List.length_cons]; omega)]
  split
  · rfl
  · cases h : sc (.piece true) d (c :: r) with
    | error e => rfl
    | ok r' =>
      have := (piece_less h).len
      simp only
      exact sc_of (by simp only [need]; omega)
theorem sc_brace (d : Nat) (c : UInt8) (r : List UInt8) : sc .brace d (c :: r) =
      if c = 125 then .ok r
      else if c = 10 then .error 5
      else if braceB c then sc .brace d r
      else match sc (.piece false) d (c :: r) with
        | .error e => .error e
        | .ok r' => sc .brace d r' := by
  have e : need .brace (c :: r).length = (2 * r.length + 3) + 1 := by simp only [need, List.length_cons]; omega
  conv => lhs; unfold sc
  rw [e]
  conv => lhs; unfold scan
  simp only
  rw [sc_of (m := .piece false) (by simp only [need, List.length_cons]; omega), sc_of (m := .brace) (r := r) (by simp only [need]; omega)]
  split
  · rfl
  · split
    · rfl
    · split
      · rfl
      · cases h : sc (.piece false) d (c :: r) with
        | error e => rfl
        | ok r' =>
          have := (piece_less h).len
          simp only
          exact sc_of (by simp only [need]; omega)
/-- The same, or too deep. -/
def Out (x y : Rs) : Prop := x = y ∨ x = .error 12
theorem Out.refl (x : Rs) : Out x x := .inl rfl
theorem Out.trans {x y z : Rs} (h : Out x y) (k : Out y z) : Out x z := by
  rcases h with rfl | h
  · exact k
  · exact .inr h
theorem double_out {d : Nat} {c : UInt8} {y T : List UInt8} (hc : c ≠ 34) (h : Out (sc (.piece true) d (c :: y)) (.ok T)) : Out (sc .double d (c :: y)) (sc .double d T) := by
  rw [sc_double, if_neg hc]
  rcases h with h | h
  · rw [h]; exact .inl rfl
  · rw [h]; exact .inr rfl
theorem brace_out {d : Nat} {c : UInt8} {y T : List UInt8} (hc : c = 39 ∨ c = 34 ∨ c = 36) (h : Out (sc (.piece false) d (c :: y)) (.ok T)) : Out (sc .brace d (c :: y)) (sc .brace d T) := by
  have h1 : c ≠ 125 ∧ c ≠ 10 ∧ braceB c = false := by rcases hc with rfl | rfl | rfl <;> decide
  rw [sc_brace, if_neg h1.1, if_neg h1.2.1, h1.2.2, if_neg (by decide)]
  rcases h with h | h
  · rw [h]; exact .inl rfl
  · rw [h]; exact .inr rfl
theorem sc_end (d : Nat) (T : List UInt8) : sc .brace d (125 :: T) = .ok T := by rw [sc_brace, if_pos rfl]
theorem sc_endq (d : Nat) (T : List UInt8) : sc .double d (34 :: T) = .ok T := by rw [sc_double, if_pos rfl]
theorem sc_plain {d : Nat} {c : UInt8} (h : plainC c) (x : List UInt8) : sc .brace d (c :: x) = sc .brace d x := by
  have e : sc (.piece false) d (c :: x) = .ok x := piece_plain h
  rw [sc_brace, if_neg (plain_ne h (by decide) (by decide) (by decide)), if_neg (plain_ne h (by decide) (by decide) (by decide)), plain_brace h, if_neg (by decide), e]
theorem sc_plains {d : Nat} : ∀ (t x : List UInt8), (∀ c ∈ t, plainC c) → sc .brace d (t ++ x) = sc .brace d x
  | [], x, _ => rfl
  | c :: t, x, h => by
    rw [List.cons_append, sc_plain (h c (by simp)), sc_plains t x (fun y hy => h y (List.mem_cons_of_mem _ hy))]
/-- A byte that stands for itself. -/
theorem piece_litC {lv : Lv} {d : Nat} {c : UInt8} {s : List UInt8} (hc : litC lv c) (hd : c = 36 → Clear s) (hp : c ≠ 40 ∧ c ≠ 41) : sc (.piece false) d (c :: s) = .ok s := by
  rw [sc_piece, if_neg hc.1, if_neg (fun e => hc.2.1 e.1), if_neg (fun e => hc.2.2.1 e.1)]
  by_cases h36 : c = 36
  · have hcl := hd h36
    obtain ⟨h1, h2, h3, h4⟩ := clear_take hcl
    rw [if_pos h36, if_neg (take2_ne h1), if_neg h1, if_neg h2, if_neg h3]
    cases s with
    | nil => rfl
    | cons x s =>
      have := (stop_not (hcl x s rfl)).1
      unfold namesF
      rw [if_neg (by rw [this]; decide)]
  · rw [if_neg h36, if_neg (fun e => e.elim hc.2.2.2.1 (fun e => e.2.elim hp.1 hp.2))]
theorem lit_brace {d : Nat} {T : List UInt8} (hT : Clear T) : ∀ (t : List UInt8), litS .brc t [] → sc .brace d (t ++ T) = sc .brace d T
  | [], _ => rfl
  | c :: t, ⟨h1, h2, h3⟩ => by
    rw [List.cons_append, sc_brace, if_neg (h1.2.2.2.2.2.1 rfl), if_neg h1.2.2.2.2.1]
    by_cases hb : braceB c = true
    · rw [if_pos hb, lit_brace hT t h3]
    · rw [if_neg hb, piece_litC h1 (fun e => clear_app (by have := h2 e; rw [List.append_nil] at this; exact this) hT) ⟨fun e => hb (by rw [e]; rfl), fun e => hb (by rw [e]; rfl)⟩]
      exact lit_brace hT t h3
/-- A word's pieces, with as many steps as it needs. -/
def wd (r : List UInt8) : Rs := wordF (r.length + 1) r
theorem wd_of {n : Nat} {r : List UInt8} (h : r.length < n) : wordF n r = wd r := by
  obtain ⟨k, rfl⟩ : ∃ k, n = r.length + 1 + k := ⟨n - (r.length + 1), by omega⟩
  exact wordF_fuel _ _ _ (Nat.lt_succ_self _)
theorem wd_cons (c : UInt8) (r : List UInt8) : wd (c :: r) = if endB c then .ok (c :: r) else match sc (.piece false) 0 (c :: r) with
    | .error e => .error e
    | .ok r' => wd r' := by
  conv => lhs; unfold wd; unfold wordF
  show (if endB c = true then _ else match sc (.piece false) 0 (c :: r) with | .error e => _ | .ok r' => _) = _
  split
  · rfl
  · cases h : sc (.piece false) 0 (c :: r) with
    | error e => rfl
    | ok r' =>
      have := (piece_less h).len
      simp only
      exact wd_of (by rw [List.length_cons]; omega)
theorem bare_out {c : UInt8} {y T : List UInt8} (hc : c = 39 ∨ c = 34 ∨ c = 36) (h : Out (sc (.piece false) 0 (c :: y)) (.ok T)) : Out (wd (c :: y)) (wd T) := by
  have h1 : endB c = false := by rcases hc with rfl | rfl | rfl <;> decide
  rw [wd_cons, h1, if_neg (by decide)]
  rcases h with h | h
  · rw [h]; exact .inl rfl
  · rw [h]; exact .inr rfl
theorem lit_bare {T : List UInt8} (hT : Clear T) : ∀ (t : List UInt8), litS .bare t [] → wd (t ++ T) = wd T
  | [], _ => rfl
  | c :: t, ⟨h1, h2, h3⟩ => by
    have hb := h1.2.2.2.2.2.2 rfl
    rw [List.cons_append, wd_cons, hb.1, if_neg (by decide), piece_litC h1 (fun e => clear_app (by have := h2 e; rw [List.append_nil] at this; exact this) hT) hb.2]
    exact lit_bare hT t h3
theorem dq_scan {d : Nat} (T : List UInt8) : ∀ l : List UInt8, (∀ x ∈ l, oddQ x = true → x ≠ 10) → sc .double d (dqB l ++ 34 :: T) = .ok T
  | [], _ => sc_endq d T
  | c :: l, h => by
    have ih := dq_scan T l (fun x hx => h x (List.mem_cons_of_mem _ hx)) (d := d)
    show sc .double d (((if oddQ c then [92, c] else [c]) ++ dqB l) ++ 34 :: T) = _
    rw [List.append_assoc]
    cases ho : oddQ c with
    | true =>
      show sc .double d (92 :: c :: (dqB l ++ 34 :: T)) = _
      rw [sc_double, if_neg (by decide), sc_piece, if_pos rfl]
      have e : pairF (c :: (dqB l ++ 34 :: T)) = .ok (dqB l ++ 34 :: T) := by
        unfold pairF
        simp only [if_neg (h c (by simp) ho)]
      rw [e]
      exact ih
    | false =>
      have hn : c ≠ 92 ∧ c ≠ 34 ∧ c ≠ 36 ∧ c ≠ 96 := by
        unfold oddQ at ho
        simp only [Bool.or_eq_false_iff, beq_eq_false_iff_ne] at ho
        exact ⟨ho.1.1.1, ho.1.1.2, ho.1.2, ho.2⟩
      show sc .double d (c :: (dqB l ++ 34 :: T)) = _
      rw [sc_double, if_neg hn.2.1, sc_piece, if_neg hn.1, if_neg (fun e => by cases e.2), if_neg (fun e => by cases e.2), if_neg hn.2.2.1, if_neg (fun e => e.elim hn.2.2.2 (fun e => by cases e.1))]
      exact ih
theorem oddQ_10 : ∀ x : UInt8, oddQ x = true → x ≠ 10 := fun x h e => by rw [e] at h; cases h
/-- How a word in a brace is scanned. -/
def LxL (o : List Prt) : Prop := ∀ d T, Clear T → Out (sc .brace d (textW o ++ T)) (sc .brace d T)
def PcP (p : Prt) : Prop := ∀ d T, Out (sc (.piece false) d (textP p ++ T)) (.ok T)
theorem lx_core {lv : Lv} {q : Bool} {k : Int} {t : List UInt8} {o : List Prt} {qq : Bool} (h : GoodP lv q (.mk k t o qq)) (hk : k ≠ 1) (IH : k = 3 → LxL o) (b : Bool) (d : Nat) (T : List UInt8) : Out (sc (.piece b) d (coreF k t o ++ T)) (.ok T) := by
  have dol : ∀ r, sc (.piece b) d (36 :: r) = (if r.take 2 = [40, 40] then arithF 0 (r.drop 2) else if r.take 1 = [40] then .error 5 else if r.take 1 = [123] then (if 16 < d + 1 then .error 12 else sc .brace (d + 1) (r.drop 1)) else if r.take 1 = [63] then .ok (r.drop 1) else .ok (namesF true r)) := by
    intro r
    rw [sc_piece, if_neg (by decide), if_neg (fun e => by cases e.1), if_neg (fun e => by cases e.1), if_pos rfl]
  cases h with
  | quo _ _ t => exact absurd rfl hk
  | lit _ t h1 h2 => exact absurd rfl hk
  | name _ _ qq t h1 h2 =>
    have e : coreF 2 t [] ++ T = 36 :: 123 :: (t ++ 125 :: T) := by simp [coreF]
    rw [e, dol, if_neg (by simp), if_neg (by simp), if_pos (by simp)]
    split
    · exact .inr rfl
    · left
      show sc .brace (d + 1) (t ++ 125 :: T) = _
      rw [sc_plains _ _ (fun c hc => .inl (h2.2.2.2 c hc)), sc_end]
  | dflt _ _ qq t o h1 h2 h3 h4 =>
    have e : coreF 3 t o ++ T = 36 :: 123 :: (t ++ 58 :: 45 :: (textW o ++ 125 :: T)) := by simp [coreF]
    rw [e, dol, if_neg (by simp), if_neg (by simp), if_pos (by simp)]
    split
    · exact .inr rfl
    · show Out (sc .brace (d + 1) (t ++ 58 :: 45 :: (textW o ++ 125 :: T))) _
      rw [sc_plains _ _ (fun c hc => .inl (h2.2.2.2 c hc)), sc_plain (.inr (.inl rfl)), sc_plain (.inr (.inr rfl))]
      have h5 := IH rfl (d + 1) (125 :: T) (clear_cons (by decide))
      rw [sc_end] at h5
      exact h5
  | stat _ _ qq h1 =>
    show Out (sc (.piece b) d (36 :: 63 :: T)) _
    rw [dol, if_neg (by simp), if_neg (by simp), if_neg (by simp), if_pos (by simp)]
    exact .inl rfl
  | arith _ _ qq t h1 h2 =>
    have e : coreF 5 t [] ++ T = 36 :: 40 :: 40 :: (t ++ 41 :: 41 :: T) := by simp [coreF]
    rw [e, dol, if_pos (by simp)]
    exact .inl (h2 T).1
theorem brace_list {q : Bool} : ∀ (l : List Prt), GoodL .brc q l → (∀ p ∈ l, ¬ litP p → PcP p) → LxL l
  | [], _, _ => fun d T _ => by rw [textW_nil]; exact Out.refl _
  | p :: l, h, hp => fun d T hT => by
    rw [textW_cons, List.append_assoc]
    refine Out.trans ?_ (brace_list l (good_tail h) (fun x hx => hp x (List.mem_cons_of_mem _ hx)) d T hT)
    by_cases hl : litP p
    · obtain ⟨hq, t, rfl, ht⟩ := (h.1 p (by simp)).plain_lit hl.1 hl.2
      have hs : litS .brc t [] := by
        have := h.1 (.mk 1 t [] false) (by simp)
        cases this with
        | lit _ t h1 h2 => exact h2
      rw [textP_mk, if_pos rfl, if_neg (by decide), lit_brace (next_clear h hT hl) t hs]
      exact Out.refl _
    · obtain ⟨c, y, e, hc⟩ := text_head (h.1 p (by simp)) hl
      have h1 := hp p (by simp) hl d (textW l ++ T)
      rw [e] at h1 ⊢
      exact brace_out hc h1
theorem bare_list : ∀ (l : List Prt), GoodL .bare false l → (∀ p ∈ l, ¬ litP p → PcP p) → ∀ T, Clear T → Out (wd (textW l ++ T)) (wd T)
  | [], _, _ => fun T _ => by rw [textW_nil]; exact Out.refl _
  | p :: l, h, hp => fun T hT => by
    rw [textW_cons, List.append_assoc]
    refine Out.trans ?_ (bare_list l (good_tail h) (fun x hx => hp x (List.mem_cons_of_mem _ hx)) T hT)
    by_cases hl : litP p
    · obtain ⟨hq, t, rfl, ht⟩ := (h.1 p (by simp)).plain_lit hl.1 hl.2
      have hs : litS .bare t [] := by
        have := h.1 (.mk 1 t [] false) (by simp)
        cases this with
        | lit _ t h1 h2 => exact h2
      rw [textP_mk, if_pos rfl, if_neg (by decide), lit_bare (next_clear h hT hl) t hs]
      exact Out.refl _
    · obtain ⟨c, y, e, hc⟩ := text_head (h.1 p (by simp)) hl
      have h1 := hp p (by simp) hl 0 (textW l ++ T)
      rw [e] at h1 ⊢
      exact bare_out hc h1
theorem lx_part {lv : Lv} {q : Bool} {p : Prt} (h : GoodP lv q p) : ¬ litP p → PcP p := by
  have both : ∀ {lv : Lv} {q : Bool} {k : Int} {t : List UInt8} {o : List Prt} {qq : Bool}, k ≠ 1 → GoodP lv q (.mk k t o qq) → (k = 3 → LxL o) → PcP (.mk k t o qq) := by
    intro lv q k t o qq hk h IH d T
    rw [textP_mk, if_neg hk]
    cases qq with
    | false => exact lx_core h hk IH false d T
    | true =>
      have e1 : (if true = true then [34] ++ coreF k t o ++ [34] else coreF k t o) ++ T = 34 :: (coreF k t o ++ 34 :: T) := by simp
      rw [e1, sc_piece, if_neg (by decide), if_neg (fun e => by cases e.1), if_pos ⟨rfl, rfl⟩]
      split
      · exact .inr rfl
      · obtain ⟨y, e⟩ := core_head h hk
        have h1 := lx_core h hk IH true (d + 1) (34 :: T)
        rw [e] at h1 ⊢
        have h2 := double_out (c := 36) (by decide) h1
        rw [sc_endq] at h2
        exact h2
  induction h with
  | quo lv q t =>
    intro _ d T
    rw [textP_mk, if_pos rfl, if_pos rfl]
    rcases quoteF_cases t with ⟨h, e⟩ | e
    · left
      rw [e]
      show sc (.piece false) d (39 :: ((t ++ [39]) ++ T)) = _
      rw [List.append_assoc, sc_piece, if_neg (by decide), if_pos ⟨rfl, rfl⟩]
      exact until_run' h
    · rw [e]
      show Out (sc (.piece false) d (34 :: ((dqB t ++ [34]) ++ T))) _
      rw [List.append_assoc, sc_piece, if_neg (by decide), if_neg (fun e => by cases e.1), if_pos ⟨rfl, rfl⟩]
      split
      · exact .inr rfl
      · left
        exact dq_scan T t (fun x _ => oddQ_10 x)
  | lit lv t h1 h2 => exact fun hn => absurd ⟨rfl, rfl⟩ hn
  | name lv q qq t h1 h2 => exact fun _ => both (by decide) (.name lv q _ _ h1 h2) (fun e => absurd e (by decide))
  | dflt lv q qq t o h1 h2 h3 h4 ih => exact fun _ => both (by decide) (.dflt lv q _ _ _ h1 h2 h3 h4) (fun _ => brace_list o ⟨h3, h4⟩ ih)
  | stat lv q qq h1 => exact fun _ => both (by decide) (.stat lv q _ h1) (fun e => absurd e (by decide))
  | arith lv q qq t h1 h2 => exact fun _ => both (by decide) (.arith lv q _ _ h1 h2) (fun e => absurd e (by decide))
theorem word_good {l : List Prt} (h : GoodL .bare false l) : wd (textW l) = .ok [] ∨ wd (textW l) = .error 12 := by
  have := bare_list l h (fun p hp => lx_part (h.1 p hp)) [] clear_nil
  rw [List.append_nil] at this
  exact this
end Go.Proofs.YtifcgeanippepaaDoor
