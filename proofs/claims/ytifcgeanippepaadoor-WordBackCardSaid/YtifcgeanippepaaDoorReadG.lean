/- Words, plain: the text of a good word is read as that word. -/
import Derived.Test.YtifcgeanippepaaDoorSyncG
import Derived.Test.YtifcgeanippepaaDoorWordWt
namespace Go.Proofs.YtifcgeanippepaaDoor
open Go Go.RowKit Go.Lw
set_option linter.unusedVariables false
set_option linter.unusedSimpArgs false
theorem put_mk (acc : List Prt) (t u : List UInt8) (q : Bool) : putF (putF acc (.mk 1 t [] q)) (.mk 1 u [] q) = putF acc (.mk 1 (t ++ u) [] q) := (put_assoc acc (.mk 1 t [] q) (.mk 1 u [] q) rfl rfl rfl).symm
theorem clear_app {a b : List UInt8} (h : Clear a) (k : Clear b) : Clear (a ++ b) := by
  cases a with
  | nil => exact k
  | cons x a => exact clear_cons (h x a rfl)
theorem stop_not {c : UInt8} (h : stopB c = false) : letterB c true = false ∧ c ≠ 40 ∧ c ≠ 123 ∧ c ≠ 63 := by
  unfold stopB at h
  simp only [Bool.or_eq_false_iff, beq_eq_false_iff_ne] at h
  exact ⟨h.1.1.1, h.1.1.2, h.1.2, h.2⟩
theorem clear_take {s : List UInt8} (h : Clear s) : s.take 1 ≠ [40] ∧ s.take 1 ≠ [123] ∧ s.take 1 ≠ [63] ∧ nameT s = [] := by
  cases s with
  | nil => exact ⟨by simp, by simp, by simp, rfl⟩
  | cons x s =>
    obtain ⟨h1, h2, h3, h4⟩ := stop_not (h x s rfl)
    refine ⟨by simpa using h2, by simpa using h3, by simpa using h4, ?_⟩
    unfold nameT
    simp only
    rw [if_neg (by rw [h1]; decide)]
/-- A byte that stands for itself. -/
theorem read_one {lv : Lv} (hlv : lv ≠ .dbl) (acc : List Prt) {c : UInt8} {s : List UInt8} (hc : litC lv c) (hd : c = 36 → Clear s) : wordW lv false acc ⟨c :: s, false⟩ = wordW lv false (putF acc (.mk 1 [c] [] false)) ⟨s, false⟩ := by
  by_cases h36 : c = 36
  · subst h36
    obtain ⟨h1, h2, h3, h4⟩ := clear_take (hd rfl)
    rw [wordW_dollar, dollar_else h1 h2 h3, h4, if_pos rfl]
  · refine wordW_one false acc s ?_ hc.1 h36 (fun e => hc.2.1 e.1) (fun e => hc.2.2.1 e.1)
    cases lv with
    | bare => exact fun e => by cases e
    | dbl => exact absurd rfl hlv
    | brc => exact fun e => hc.2.2.2.2.2.1 rfl (Option.some.inj e).symm
theorem read_lit {lv : Lv} (hlv : lv ≠ .dbl) {T : List UInt8} (hT : Clear T) : ∀ (t : List UInt8) (acc : List Prt), t ≠ [] → litS lv t [] → wordW lv false acc ⟨t ++ T, false⟩ = wordW lv false (putF acc (.mk 1 t [] false)) ⟨T, false⟩
  | [], _, h, _ => absurd rfl h
  | [c], acc, _, ⟨h1, h2, _⟩ => read_one hlv acc h1 (fun _ => hT)
  | c :: d :: r, acc, _, ⟨h1, h2, h3⟩ => by
    have e := read_one hlv acc (s := (d :: r) ++ T) h1 (fun e => clear_app (by have := h2 e; rw [List.append_nil] at this; exact this) hT)
    show wordW lv false acc ⟨c :: ((d :: r) ++ T), false⟩ = _
    rw [e, read_lit hlv hT (d :: r) _ (by simp) h3, put_mk]
    rfl
theorem quoteF_cases (t : List UInt8) : (∃ h : ∀ x ∈ t, x ≠ 39, quoteF t = 39 :: (t ++ [39])) ∨ quoteF t = 34 :: (dqB t ++ [34]) := by
  unfold quoteF
  by_cases h : t.contains 39 = true
  · right
    rw [if_pos h]
    have e : (fun c => if oddB c then [92, c] else [c] : UInt8 → List UInt8) = fun c => if oddQ c then [92, c] else [c] := by
      funext c; rw [oddQ_B]
    rw [e]; rfl
  · left
    rw [if_neg h]
    exact ⟨fun x hx e => h (by rw [List.contains_iff_mem, ← e]; exact hx), rfl⟩
theorem read_quo {lv : Lv} (hlv : lv ≠ .dbl) (q : Bool) (acc : List Prt) (t T : List UInt8) : wordW lv q acc ⟨quoteF t ++ T, false⟩ = wordW lv q (putF acc (.mk 1 t [] true)) ⟨T, false⟩ := by
  rcases quoteF_cases t with ⟨h, e⟩ | e
  · rw [e]
    show wordW lv q acc ⟨39 :: ((t ++ [39]) ++ T), false⟩ = _
    rw [List.append_assoc]
    exact read_single hlv q acc T h
  · rw [e]
    show wordW lv q acc ⟨34 :: ((dqB t ++ [34]) ++ T), false⟩ = _
    rw [List.append_assoc]
    exact read_double hlv q acc t T
theorem sep_pre : ∀ (a b : List (Bool × Bool)), sepK (a ++ b) = true → sepK a = true
  | [], _, _ => rfl
  | [x], _, _ => rfl
  | x :: y :: a, b, h => by
    have h' : (!(x.1 && y.1 && x.2 == y.2) && sepK ((y :: a) ++ b)) = true := h
    rw [Bool.and_eq_true] at h'
    show (!(x.1 && y.1 && x.2 == y.2) && sepK (y :: a)) = true
    rw [h'.1, sep_pre (y :: a) b h'.2]; rfl
theorem fold_sep : ∀ (l a : List Prt), sepK ((a ++ l).map keyP) = true → l.foldl putF a = a ++ l
  | [], a, _ => (List.append_nil a).symm
  | p :: l, a, h => by
    have e : putF a p = a ++ [p] := by
      rcases List.eq_nil_or_concat a with rfl | ⟨a, x, rfl⟩
      · rfl
      · rw [List.concat_eq_append] at h ⊢
        rw [putF_snoc, if_neg]
        rintro ⟨h1, h2, h3⟩
        have h4 : sepK ((a.map keyP ++ [keyP x] ++ [keyP p]) ++ l.map keyP) = true := by
          rw [← h]; simp
        have h5 := sep_pre _ _ h4
        rw [sepK_snoc] at h5
        simp [keyP, h1, h2, h3] at h5
    rw [List.foldl_cons, e, fold_sep l (a ++ [p]) (by rw [List.append_assoc]; exact h), List.append_assoc]
    rfl
/-- How a word at a level is read. -/
def RdL (lv : Lv) (q : Bool) (o : List Prt) : Prop := ∀ acc T, Clear T → wordW lv q acc ⟨textW o ++ T, false⟩ = wordW lv q (o.foldl putF acc) ⟨T, false⟩
def litP (p : Prt) : Prop := p.kind = 1 ∧ p.quoted = false
def RdP (lv : Lv) (q : Bool) (p : Prt) : Prop := ∀ acc T, (litP p → Clear T) → wordW lv q acc ⟨textP p ++ T, false⟩ = wordW lv q (putF acc p) ⟨T, false⟩
theorem core_head {lv : Lv} {q : Bool} {k : Int} {t : List UInt8} {o : List Prt} {qq : Bool} (h : GoodP lv q (.mk k t o qq)) (hk : k ≠ 1) : ∃ y, coreF k t o = 36 :: y := by
  cases h with
  | quo _ _ t => exact absurd rfl hk
  | lit _ t h1 h2 => exact absurd rfl hk
  | name _ _ qq t h1 h2 => exact ⟨123 :: (t ++ [125]), rfl⟩
  | dflt _ _ qq t o h1 h2 h3 h4 => exact ⟨123 :: (t ++ [58, 45] ++ textW o ++ [125]), rfl⟩
  | stat _ _ qq h1 => exact ⟨[63], rfl⟩
  | arith _ _ qq t h1 h2 => exact ⟨40 :: 40 :: (t ++ [41, 41]), rfl⟩
theorem text_head {lv : Lv} {q : Bool} {p : Prt} (h : GoodP lv q p) (hn : ¬ litP p) : ∃ c y, textP p = c :: y ∧ (c = 39 ∨ c = 34 ∨ c = 36) := by
  obtain ⟨k, t, o, qq⟩ := p
  rw [textP_mk]
  by_cases hk : k = 1
  · rw [if_pos hk]
    cases qq with
    | false => exact absurd ⟨hk, rfl⟩ hn
    | true =>
      rw [if_pos rfl]
      rcases quoteF_cases t with ⟨_, e⟩ | e
      · exact ⟨39, _, e, .inl rfl⟩
      · exact ⟨34, _, e, .inr (.inl rfl)⟩
  · rw [if_neg hk]
    obtain ⟨y, e⟩ := core_head h hk
    cases qq with
    | true => exact ⟨34, coreF k t o ++ [34], by simp, .inr (.inl rfl)⟩
    | false => exact ⟨36, y, by simp [e], .inr (.inr rfl)⟩
theorem head_clear {c : UInt8} {y : List UInt8} (h : c = 39 ∨ c = 34 ∨ c = 36) : Clear (c :: y) := clear_cons (by rcases h with rfl | rfl | rfl <;> decide)
theorem not_two {lv : Lv} {q : Bool} {p x : Prt} {l : List Prt} (h : GoodL lv q (p :: x :: l)) (hp : litP p) : ¬ litP x := fun hx => by
  have h2 := h.2
  simp only [List.map_cons, sepK, keyP, Bool.and_eq_true] at h2
  have h3 := h2.1
  simp [hp.1, hp.2, hx.1, hx.2] at h3
/-- Behind a part that stands for itself nothing stands that its dollar might take. -/
theorem next_clear {lv : Lv} {q : Bool} {p : Prt} {l : List Prt} {T : List UInt8} (h : GoodL lv q (p :: l)) (hT : Clear T) (hp : litP p) : Clear (textW l ++ T) := by
  cases l with
  | nil => rw [textW_nil]; exact hT
  | cons x l =>
    have hx : ¬ litP x := not_two h hp
    obtain ⟨c, y, e, hc⟩ := text_head (h.1 x (by simp)) hx
    rw [textW_cons, e]
    exact head_clear hc
theorem good_tail {lv : Lv} {q : Bool} {p : Prt} {l : List Prt} (h : GoodL lv q (p :: l)) : GoodL lv q l := by
  refine ⟨fun x hx => h.1 x (List.mem_cons_of_mem _ hx), ?_⟩
  have h2 := h.2
  cases l with
  | nil => rfl
  | cons x l =>
    have h3 : (_ && sepK ((x :: l).map keyP)) = true := h2
    rw [Bool.and_eq_true] at h3
    exact h3.2
theorem read_list {lv : Lv} {q : Bool} : ∀ (l : List Prt), GoodL lv q l → (∀ p ∈ l, RdP lv q p) → RdL lv q l
  | [], _, _ => fun acc T _ => by rw [textW_nil]; rfl
  | p :: l, h, hp => fun acc T hT => by
    rw [textW_cons, List.append_assoc, hp p (by simp) acc (textW l ++ T) (next_clear h hT), read_list l (good_tail h) (fun x hx => hp x (List.mem_cons_of_mem _ hx)) _ T hT]
    rfl
theorem nameT_ok {t : List UInt8} (h : nameOK t) (c : UInt8) (T : List UInt8) (h1 : letterB c false = false) : nameT (t ++ c :: T) = t := by
  obtain ⟨h0, h32, g3, g2⟩ := h
  rw [nameT_run g2 g3 (fun d y e => ?_), List.take_of_length_le h32]
  cases e
  cases t with
  | nil => exact absurd rfl h0
  | cons a t => exact h1
/-- What stands behind a dollar. -/
theorem read_core {lv0 : Lv} (lv : Lv) {q : Bool} {k : Int} {t : List UInt8} {o : List Prt} (h : GoodP lv0 q (.mk k t o q)) (hk : k ≠ 1) (IH : k = 3 → RdL .brc q o) (acc : List Prt) (T : List UInt8) :
    wordW lv q acc ⟨coreF k t o ++ T, false⟩ = wordW lv q (putF acc (.mk k t o q)) ⟨T, false⟩ := by
  cases h with
  | quo _ _ t => exact absurd rfl hk
  | lit _ t h1 h2 => exact absurd rfl hk
  | name _ _ qq t h1 h2 =>
    have e : coreF 2 t [] ++ T = 36 :: 123 :: (t ++ 125 :: T) := by simp [coreF]
    have hn := nameT_ok h2 125 T (by decide)
    rw [e, wordW_dollar]
    unfold dollarR
    rw [if_neg (by simp), if_pos (by simp)]
    simp only [List.drop_succ_cons, List.drop_zero]
    rw [hn, if_neg h2.1, List.drop_left, if_neg (by simp)]
    rfl
  | dflt _ _ qq t o h1 h2 h3 h4 =>
    have e : coreF 3 t o ++ T = 36 :: 123 :: (t ++ 58 :: 45 :: (textW o ++ 125 :: T)) := by simp [coreF]
    have hn := nameT_ok h2 58 (45 :: (textW o ++ 125 :: T)) (by decide)
    have hw : wordW .brc q [] ⟨textW o ++ 125 :: T, false⟩ = (o, ⟨125 :: T, false⟩) := by
      rw [IH rfl [] (125 :: T) (clear_cons (by decide)), wordW_end _ _ _ _ rfl, fold_sep o [] h4]; rfl
    rw [e, wordW_dollar]
    unfold dollarR
    rw [if_neg (by simp), if_pos (by simp)]
    simp only [List.drop_succ_cons, List.drop_zero]
    rw [hn, if_neg h2.1, List.drop_left, if_pos (by simp)]
    simp only [List.drop_succ_cons, List.drop_zero]
    rw [hw]
    rfl
  | stat _ _ qq h1 =>
    show wordW lv q acc ⟨36 :: 63 :: T, false⟩ = _
    rw [wordW_dollar]
    unfold dollarR
    rw [if_neg (by simp), if_neg (by simp), if_pos (by simp)]
    rfl
  | arith _ _ qq t h1 h2 =>
    have e : coreF 5 t [] ++ T = 36 :: 40 :: 40 :: (t ++ 41 :: 41 :: T) := by simp [coreF]
    rw [e, wordW_dollar]
    unfold dollarR
    rw [if_pos (by simp)]
    simp only [List.drop_succ_cons, List.drop_zero]
    rw [(h2 T).2]
theorem read_part {lv : Lv} {q : Bool} {p : Prt} (h : GoodP lv q p) : lv ≠ .dbl → RdP lv q p := by
  have quoted : ∀ {lv : Lv} {q : Bool} {k : Int} {t : List UInt8} {o : List Prt}, lv ≠ .dbl → k ≠ 1 → GoodP lv q (.mk k t o true) → (k = 3 → RdL .brc true o) → RdP lv q (.mk k t o true) := by
    intro lv q k t o hlv hk h IH acc T _
    rw [textP_mk, if_neg hk, if_pos rfl]
    have e1 : [34] ++ coreF k t o ++ [34] ++ T = 34 :: (coreF k t o ++ 34 :: T) := by simp
    have e2 : wordW .dbl true [] ⟨coreF k t o ++ 34 :: T, false⟩ = ([.mk k t o true], ⟨34 :: T, false⟩) := by
      rw [read_core .dbl (h.any (lv' := .dbl) (q' := true) rfl) hk IH, wordW_end _ _ _ _ rfl]; rfl
    rw [e1, wordW_double _ _ _ hlv, e2]
    rfl
  have bare : ∀ {lv : Lv} {q : Bool} {k : Int} {t : List UInt8} {o : List Prt}, k ≠ 1 → q = false → GoodP lv q (.mk k t o false) → (k = 3 → RdL .brc false o) → RdP lv q (.mk k t o false) := by
    intro lv q k t o hk hq h IH acc T _
    subst hq
    rw [textP_mk, if_neg hk, if_neg (by decide)]
    exact read_core lv h hk IH acc T
  have sub : ∀ {q : Bool}, (q = true → false = true) → q = false := by intro q h; cases q <;> simp_all
  induction h with
  | quo lv q t =>
    intro hlv acc T _
    rw [textP_mk, if_pos rfl, if_pos rfl]
    exact read_quo hlv q acc t T
  | lit lv t h1 h2 =>
    intro hlv acc T hT
    rw [textP_mk, if_pos rfl, if_neg (by decide)]
    exact read_lit hlv (hT ⟨rfl, rfl⟩) t acc h1 h2
  | name lv q qq t h1 h2 =>
    intro hlv
    cases qq with
    | true => exact quoted hlv (by decide) (.name _ _ _ _ h1 h2) (fun e => absurd e (by decide))
    | false => exact bare (by decide) (sub h1) (.name _ _ _ _ h1 h2) (fun e => absurd e (by decide))
  | dflt lv q qq t o h1 h2 h3 h4 ih =>
    intro hlv
    have hl : RdL .brc qq o := read_list o ⟨h3, h4⟩ (fun p hp => ih p hp (by decide))
    cases qq with
    | true => exact quoted hlv (by decide) (.dflt _ _ _ _ _ h1 h2 h3 h4) (fun _ => hl)
    | false => exact bare (by decide) (sub h1) (.dflt _ _ _ _ _ h1 h2 h3 h4) (fun _ => hl)
  | stat lv q qq h1 =>
    intro hlv
    cases qq with
    | true => exact quoted hlv (by decide) (.stat _ _ _ h1) (fun e => absurd e (by decide))
    | false => exact bare (by decide) (sub h1) (.stat _ _ _ h1) (fun e => absurd e (by decide))
  | arith lv q qq t h1 h2 =>
    intro hlv
    cases qq with
    | true => exact quoted hlv (by decide) (.arith _ _ _ _ h1 h2) (fun e => absurd e (by decide))
    | false => exact bare (by decide) (sub h1) (.arith _ _ _ _ h1 h2) (fun e => absurd e (by decide))
/-- A good word's text is read as that. -/
theorem read_good {l : List Prt} (h : GoodL .bare false l) : wordW .bare false [] ⟨textW l, false⟩ = (l, ⟨[], false⟩) := by
  have e := read_list l h (fun p hp => read_part (h.1 p hp) (by decide)) [] [] clear_nil
  rw [List.append_nil, wordW_nil, fold_sep l [] h.2] at e
  exact e
end Go.Proofs.YtifcgeanippepaaDoor
