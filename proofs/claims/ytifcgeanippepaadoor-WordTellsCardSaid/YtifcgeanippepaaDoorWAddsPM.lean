/- WordAdds, plain: quotes add up. -/
import Derived.Test.YtifcgeanippepaaDoorM14
import Derived.Test.YtifcgeanippepaaDoorM23
namespace Go.Proofs.YtifcgeanippepaaDoor
open Go Go.RowKit Go.Lw
set_option linter.unusedVariables false
set_option linter.unusedSimpArgs false
theorem lexF_texts : ∀ (n N : Nat) (r : List UInt8) (l : List Tk), lexF n N r = .ok l → ∀ t ∈ l, t.text.length ≤ r.length
  | 0, _, _, _, h => by cases h
  | n + 1, N, [], l, h => by cases h; intro t ht; simp at ht
  | n + 1, N, c :: r, l, h => by
    have up : ∀ {r1 : List UInt8} {l1 : List Tk}, lexF n N r1 = .ok l1 → r1.length ≤ (c :: r).length → ∀ t ∈ l1, t.text.length ≤ (c :: r).length := fun h1 h2 t ht => Nat.le_trans (lexF_texts n N _ _ h1 t ht) h2
    by_cases h1 : c = 32 ∨ c = 9
    · rw [lex_blank h1] at h; exact up h (by simp)
    · by_cases h2 : c = 35
      · rw [lex_hash h1 h2] at h; exact up h (dropWhile_tl _ _).len
      · cases hop : operF (c :: r) with
        | some o =>
          obtain ⟨k, t⟩ := o
          rw [lex_some h1 h2 hop] at h
          split at h
          · cases h
          · cases hx : lexF n N ((c :: r).drop t.length) with
            | error e => rw [hx] at h; cases h
            | ok y =>
              rw [hx] at h
              cases h
              intro u hu
              rcases List.mem_cons.1 hu with rfl | hu
              · exact (operF_len hop).2.1
              · exact up hx (by rw [List.length_drop]; omega) u hu
        | none =>
          cases hw : wordF (r.length + 2) (c :: r) with
          | error e => rw [lex_bad h1 h2 hop hw] at h; cases h
          | ok r' =>
            rw [lex_word h1 h2 hop hw] at h
            cases hx : lexF n N r' with
            | error e => rw [hx] at h; cases h
            | ok y =>
              rw [hx] at h
              cases h
              intro u hu
              rcases List.mem_cons.1 hu with rfl | hu
              · show ((c :: r).take _).length ≤ _
                rw [List.length_take]; omega
              · exact up hx (wordF_tl _ hw).len u hu
theorem ops_ne1 : ∀ o ∈ opsL, o.1 ≠ 1 := by decide
/-- A text that is one word. -/
theorem lex_one {s : List UInt8} {l : List Tk} (h : lexT s = .ok l) (h1 : l.map Tk.kind = [1]) (h2 : l.map Tk.text = [s]) :
    s.length ≤ 2048 ∧ s.all okB = true ∧ ∃ c r, s = c :: r ∧ ¬ (c = 32 ∨ c = 9) ∧ c ≠ 35 ∧ operF s = none ∧ wordF (r.length + 2) s = .ok [] := by
  obtain ⟨tk, rfl⟩ : ∃ t, l = [t] := List.length_eq_one_iff.1 (by have := congrArg List.length h1; simpa using this)
  have hk : tk.kind = 1 := by simpa using h1
  have ht : tk.text = s := by simpa using h2
  unfold lexT at h
  split at h
  · cases h
  · rename_i hl
    split at h
    · cases h
    · rename_i hok
      refine ⟨by omega, by simpa using hok, ?_⟩
      cases s with
      | nil => cases h
      | cons c r =>
        have small : ∀ {n : Nat} {r1 : List UInt8}, lexF n (c :: r).length r1 = .ok [tk] → r1.length < (c :: r).length → False := fun hx hlt => by
          have := lexF_texts _ _ _ _ hx tk (by simp)
          rw [ht] at this; omega
        refine ⟨c, r, rfl, ?_⟩
        by_cases g1 : c = 32 ∨ c = 9
        · rw [lex_blank g1] at h; exact (small h (by simp)).elim
        · by_cases g2 : c = 35
          · rw [lex_hash g1 g2] at h
            refine (small h ?_).elim
            subst g2
            have := (dropWhile_tl (· != 10) r).len
            rw [List.dropWhile_cons]
            simp; omega
          · cases hop : operF (c :: r) with
            | some o =>
              obtain ⟨k, t⟩ := o
              rw [lex_some g1 g2 hop] at h
              split at h
              · cases h
              · cases hx : lexF (c :: r).length (c :: r).length ((c :: r).drop t.length) with
                | error e => rw [hx] at h; cases h
                | ok y =>
                  rw [hx] at h
                  have e : (⟨k, t, _⟩ : Tk) :: y = [tk] := Except.ok.inj h
                  have e2 := (List.cons.inj e).1
                  rw [← e2] at hk
                  exact absurd hk (ops_ne1 _ (operF_in hop).1)
            | none =>
              cases hw : wordF (r.length + 2) (c :: r) with
              | error e => rw [lex_bad g1 g2 hop hw] at h; cases h
              | ok r' =>
                rw [lex_word g1 g2 hop hw] at h
                cases hx : lexF (c :: r).length (c :: r).length r' with
                | error e => rw [hx] at h; cases h
                | ok y =>
                  rw [hx] at h
                  have e : (⟨1, (c :: r).take (r.length + 1 - r'.length), _⟩ : Tk) :: y = [tk] := Except.ok.inj h
                  have e2 := congrArg (fun t => t.text.length) (List.cons.inj e).1
                  simp only [ht] at e2
                  rw [List.length_take, List.length_cons] at e2
                  have hr' : r' = [] := List.eq_nil_of_length_eq_zero (by
                    rcases Nat.eq_zero_or_pos r'.length with h0 | h0
                    · exact h0
                    · omega)
                  subst hr'
                  exact ⟨g1, g2, rfl, rfl⟩
/-- What a text must be that is read. -/
theorem parse_open {s : List UInt8} {a : List Prt} (h : parseW s = .ok a) :
    (s.length ≤ 2048 ∧ s.all okB = true ∧ ∃ c r, s = c :: r ∧ ¬ (c = 32 ∨ c = 9) ∧ c ≠ 35 ∧ operF s = none ∧ wordF (r.length + 2) s = .ok []) ∧ (wordW .bare false [] ⟨s, false⟩).1 = a ∧ (wordW .bare false [] ⟨s, false⟩).2.bad = false := by
  unfold parseW at h
  split at h
  · cases h
  · rename_i l hl
    split at h
    · rename_i hc
      split at h
      · cases h
      · rename_i hb
        cases h
        exact ⟨lex_one hl hc.2.1 hc.2.2, rfl, by simpa using hb⟩
    · cases h
theorem parse_make {c : UInt8} {r : List UInt8} {a : List Prt} {st : List UInt8} (h1 : (c :: r).length ≤ 2048) (h2 : (c :: r).all okB = true) (h3 : ¬ (c = 32 ∨ c = 9)) (h4 : c ≠ 35) (h5 : operF (c :: r) = none) (h6 : wordF (r.length + 2) (c :: r) = .ok []) (h7 : wordW .bare false [] ⟨c :: r, false⟩ = (a, ⟨st, false⟩)) :
    parseW (c :: r) = .ok a := by
  refine parse_one ?_ h7
  unfold lexT
  rw [if_neg (by omega), if_neg (by rw [h2]; decide)]
  show lexF (r.length + 1 + 1) (r.length + 1) (c :: r) = _
  rw [lex_word h3 h4 h5 h6]
  show Except.map _ (lexF (r.length + 1) _ []) = _
  unfold lexF
  simp [Except.map]
theorem piece_ext' {c : UInt8} {r r1 T : List UInt8} (h : pieceR false 0 (c :: r) = .ok r1) (hT : r1 = [] → T = []) : pieceR false 0 (c :: r ++ T) = .ok (r1 ++ T) := by
  unfold pieceR at h ⊢
  have hk : need (.piece false) (c :: r ++ T).length = need (.piece false) (c :: r).length + 2 * T.length := by
    simp only [need, List.length_append]; omega
  rw [hk]
  have h2 : scan (need (.piece false) (c :: r).length + 2 * T.length) (.piece (decide (Lv.bare = .dbl))) 0 (c :: r) = .ok r1 := by
    show scan (need (.piece false) (c :: r).length + 2 * T.length) (.piece false) 0 (c :: r) = .ok r1
    rw [scan_fuel _ _ _ _ _ (Nat.le_refl _)]; exact h
  exact ((sync _).piece 0 .bare false c r r1 h2 (fun e => by cases e)).1 T hT
theorem piece_sy {c : UInt8} {r r1 : List UInt8} {q : Bool} (h : pieceR false 0 (c :: r) = .ok r1) : Sy .bare q (c :: r) r1 :=
  ((sync _).piece 0 .bare q c r r1 h (fun e => by cases e)).2
/-- Where a piece ends. -/
theorem scan_last : ∀ (n : Nat) (m : Md) (d : Nat) {r r' : List UInt8}, scan n m d r = .ok r' → (m = .double → ∃ u, r = u ++ 34 :: r') ∧ (m = .brace → ∃ u, r = u ++ 125 :: r')
  | 0, m, d, r, r', h => by unfold scan at h; cases h
  | n + 1, .piece q, d, r, r', h => ⟨fun e => (by cases e), fun e => (by cases e)⟩
  | n + 1, .double, d, r, r', h => by
    refine ⟨fun _ => ?_, fun e => (by cases e)⟩
    unfold scan at h
    split at h
    · cases h
    · rename_i c r
      split at h
      · rename_i hc; cases h; exact ⟨[], by rw [hc]; rfl⟩
      · split at h
        · cases h
        · rename_i r1 h1
          obtain ⟨u, e⟩ := (scan_last n .double d h).1 rfl
          obtain ⟨k, hk, e1⟩ := scan_tl _ _ _ h1
          exact ⟨(c :: r).take k ++ u, by rw [List.append_assoc, ← e, ← e1, List.take_append_drop]⟩
  | n + 1, .brace, d, r, r', h => by
    refine ⟨fun e => (by cases e), fun _ => ?_⟩
    unfold scan at h
    split at h
    · cases h
    · rename_i c r
      split at h
      · rename_i hc; cases h; exact ⟨[], by rw [hc]; rfl⟩
      · split at h
        · cases h
        · split at h
          · obtain ⟨u, e⟩ := (scan_last n .brace d h).2 rfl
            exact ⟨c :: u, by rw [e]; rfl⟩
          · split at h
            · cases h
            · rename_i r1 h1
              obtain ⟨u, e⟩ := (scan_last n .brace d h).2 rfl
              obtain ⟨k, hk, e1⟩ := scan_tl _ _ _ h1
              exact ⟨(c :: r).take k ++ u, by rw [List.append_assoc, ← e, ← e1, List.take_append_drop]⟩
theorem arith_last : ∀ (s : List UInt8) (o : Nat) {r' : List UInt8}, arithF o s = .ok r' → ∃ u, s = u ++ 41 :: r'
  | [], o, r', h => by cases h
  | c :: s, o, r', h => by
    have up : ∀ {o' : Nat}, arithF o' s = .ok r' → ∃ u, c :: s = u ++ 41 :: r' := fun h' => by
      obtain ⟨u, e⟩ := arith_last s _ h'
      exact ⟨c :: u, by rw [e]; rfl⟩
    unfold arithF at h
    split at h
    · rename_i h1
      cases h
      cases s with
      | nil => have := h1.2; simp at this
      | cons d s =>
        have := h1.2
        simp at this
        exact ⟨[41], by rw [this.1, this.2]; rfl⟩
    · split at h
      · exact up h
      · split at h
        · exact up h
        · split at h
          · cases h
          · exact up h
theorem names_last : ∀ (first : Bool) (r : List UInt8), namesF first r = [] → ∀ x ∈ r, letterB x false = true
  | first, [], _, x, hx => by cases hx
  | first, c :: r, h, x, hx => by
    unfold namesF at h
    split at h
    · rename_i hc
      rcases List.mem_cons.1 hx with rfl | hx
      · exact letter_weak hc
      · exact names_last false r h x hx
    · cases h
/-- A piece that is all there is, and ends with a quote, is two quotes. -/
theorem piece_quotes {c : UInt8} {r y : List UInt8} (h : pieceR false 0 (c :: r) = .ok []) (he : c :: r = y ++ [39, 39]) : c :: r = [39, 39] := by
  have hend : ∀ {u : List UInt8} {k : UInt8}, c :: r = u ++ [k] → k = 39 := fun e => by
    rw [he, show y ++ [39, 39] = (y ++ [39]) ++ [39] by simp] at e
    have := (List.append_inj' e rfl).2
    exact (List.cons.inj this).1.symm
  have hlen : 2 ≤ (c :: r).length := by rw [he, List.length_append]; simp
  unfold pieceR at h
  generalize need (.piece false) (c :: r).length = n at h
  cases n with
  | zero => unfold scan at h; cases h
  | succ n =>
    unfold scan at h
    simp only at h
    by_cases h92 : c = 92
    · rw [if_pos h92] at h
      obtain ⟨d, rfl, _⟩ := pair_split h
      cases y with
      | nil => exact he
      | cons a y => have := congrArg List.length he; simp at this
    rw [if_neg h92] at h
    by_cases h39 : c = 39 ∧ true = true
    · have hc : c = 39 := h39.1
      rw [if_pos (by simp [hc])] at h
      obtain ⟨u, rfl, hu⟩ := until_split h
      subst hc
      cases y with
      | nil => exact he
      | cons a y =>
        exfalso
        have e1 : u ++ [39] = y ++ [39, 39] := (List.cons.inj he).2
        rw [show y ++ [39, 39] = (y ++ [39]) ++ [39] by simp] at e1
        have e2 := (List.append_inj' e1 rfl).1
        exact hu 39 (by rw [e2]; simp) rfl
    have hc39 : c ≠ 39 := fun e => h39 ⟨e, rfl⟩
    rw [if_neg (by simp [hc39])] at h
    by_cases h34 : c = 34
    · rw [if_pos (by simp [h34])] at h
      split at h
      · cases h
      · obtain ⟨u, e⟩ := (scan_last _ _ _ h).1 rfl
        exact absurd (hend (u := c :: u) (k := 34) (by rw [e]; rfl)) (by decide)
    rw [if_neg (by simp [h34])] at h
    by_cases h36 : c = 36
    · rw [if_pos h36] at h
      split at h
      · obtain ⟨u, e⟩ := arith_last _ _ h
        rename_i h2
        exact absurd (hend (u := c :: r.take 2 ++ u) (k := 41) (by
          have : r = r.take 2 ++ (u ++ [41]) := by rw [← e, List.take_append_drop]
          conv => lhs; rw [this]
          simp)) (by decide)
      · split at h
        · cases h
        · split at h
          · split at h
            · cases h
            · obtain ⟨u, e⟩ := (scan_last _ _ _ h).2 rfl
              exact absurd (hend (u := c :: r.take 1 ++ u) (k := 125) (by
                have : r = r.take 1 ++ (u ++ [125]) := by rw [← e, List.take_append_drop]
                conv => lhs; rw [this]
                simp)) (by decide)
          · split at h
            · rename_i h63
              have e0 : r.drop 1 = [] := Except.ok.inj h
              exact absurd (hend (u := [c]) (k := 63) (by
                have : r = r.take 1 ++ r.drop 1 := (List.take_append_drop 1 r).symm
                conv => lhs; rw [this]
                rw [h63, e0]; rfl)) (by decide)
            · have e0 : namesF true r = [] := Except.ok.inj h
              exfalso
              have hr : 39 ∈ r := by
                cases y with
                | nil => have := (List.cons.inj he).2; rw [this]; simp
                | cons a y => have := (List.cons.inj he).2; rw [this]; simp
              have := names_last true r e0 39 hr
              exact absurd this (by decide)
    rw [if_neg h36] at h
    split at h
    · cases h
    · have e0 : r = [] := Except.ok.inj h
      subst e0
      simp at hlen
/-- Pieces that end with two quotes: all but these are read, whatever stands behind. -/
theorem word_quote : ∀ (n : Nat) (x y : List UInt8), x = y ++ [39, 39] → wordF n x = .ok [] → Sy .bare false x [39, 39] ∧ ∀ T : List UInt8, ∃ j, ∀ m, wordF (m + j) (x ++ T) = wordF m T
  | 0, x, y, e, h => by cases h
  | n + 1, [], y, e, h => by
    have := congrArg List.length e
    simp at this
  | n + 1, c :: r, y, e, h => by
    have hec : endB c = false := by
      cases hc : endB c with
      | false => rfl
      | true => rw [word_end hc] at h; cases h
    cases hp : pieceR false 0 (c :: r) with
    | error e1 => rw [word_err hec hp] at h; cases h
    | ok r1 =>
      rw [word_step hec hp] at h
      by_cases h1 : r1 = []
      · subst h1
        have e2 := piece_quotes hp e
        rw [e2]
        refine ⟨Sy.refl _ _ _, fun T => ⟨1, fun m => ?_⟩⟩
        show wordF (m + 1) (39 :: (39 :: T)) = _
        rw [word_step (r' := T) (by decide)]
        unfold pieceR
        show scan (2 * (T.length + 1 + 1) + 1) _ _ _ = _
        unfold scan untilF
        simp
      · obtain ⟨k, hk, e1⟩ := scan_tl _ _ _ hp
        have hl2 : 2 ≤ r1.length := by
          rcases Nat.lt_or_ge r1.length 2 with h2 | h2
          · exfalso
            have hl1 : r1.length = 1 := by
              have : r1.length ≠ 0 := fun h0 => h1 (List.eq_nil_of_length_eq_zero h0)
              omega
            have hce : (c :: r).length = y.length + 2 := by rw [e]; simp
            have hlen : (c :: r).length - k = r1.length := by rw [← e1, List.length_drop]
            have e3 : r1 = [39] := by
              rw [← e1, e, show y ++ [39, 39] = (y ++ [39]) ++ [39] by simp, List.drop_append, List.drop_eq_nil_of_le (by rw [List.length_append]; simp only [List.length_cons, List.length_nil]; omega)]
              rw [show k - (y ++ [39] : List UInt8).length = 0 by rw [List.length_append]; simp only [List.length_cons, List.length_nil]; omega]
              rfl
            subst e3
            cases n with
            | zero => cases h
            | succ n =>
              rw [word_err (e := 5) (by decide) (by rfl)] at h
              cases h
          · exact h2
        obtain ⟨y1, e3⟩ : ∃ y1, r1 = y1 ++ [39, 39] := by
          have hce : (c :: r).length = y.length + 2 := by rw [e]; simp
          have hlen : (c :: r).length - k = r1.length := by rw [← e1, List.length_drop]
          refine ⟨y.drop k, ?_⟩
          rw [← e1, e, List.drop_append]
          rw [show k - y.length = 0 by omega]
          rfl
        obtain ⟨s1, s2⟩ := word_quote n r1 y1 e3 h
        refine ⟨(piece_sy hp).trans s1 (fun e => absurd e h1), fun T => ?_⟩
        obtain ⟨j, hj⟩ := s2 T
        refine ⟨j + 1, fun m => ?_⟩
        have hx : pieceR false 0 (c :: (r ++ T)) = .ok (r1 ++ T) := piece_ext' (T := T) hp (fun e => absurd e h1)
        show wordF (m + j + 1) (c :: (r ++ T)) = _
        rw [word_step hec hx]
        exact hj m
theorem find_congr {α : Type} {p q : α → Bool} : ∀ {l : List α}, (∀ x ∈ l, p x = q x) → l.find? p = l.find? q
  | [], _ => rfl
  | x :: l, h => by
    unfold List.find?
    rw [h x List.mem_cons_self, find_congr (fun y hy => h y (List.mem_cons_of_mem _ hy))]
theorem ops_short : ∀ o ∈ opsL, o.2.length ≤ 3 := by decide
theorem operF_app {s : List UInt8} (T : List UInt8) (h : 3 ≤ s.length) : operF (s ++ T) = operF s := by
  unfold operF
  refine find_congr fun o ho => ?_
  rw [List.take_append_of_le_length (by have := ops_short o ho; omega)]
/-- Quotes add up. -/
theorem adds_parse {s t y : List UInt8} {a b : List Prt} (hs : s = y ++ [39, 39]) (hl : s.length + t.length ≤ 2048) (ha : parseW s = .ok a) (hb : parseW t = .ok b) :
    parseW (s ++ t) = .ok (b.foldl putF a) ∧ a.foldl putF [] = a ∧ ∃ a0, a = putF a0 (.mk 1 [] [] true) := by
  obtain ⟨⟨_, oks, c, r, rfl, g1, g2, g3, g4⟩, a1, a2⟩ := parse_open ha
  obtain ⟨⟨_, okt, c2, r2, rfl, _, _, _, t4⟩, b1, b2⟩ := parse_open hb
  obtain ⟨sy, ext⟩ := word_quote _ _ y hs g4
  have q2 : ∀ acc T, wordW .bare false acc ⟨39 :: 39 :: T, false⟩ = wordW .bare false (putF acc (.mk 1 [] [] true)) ⟨T, false⟩ := fun acc T => read_single (lv := .bare) (u := []) (by decide) false acc T (by simp)
  rcases sy with ⟨X, hX⟩ | hX
  · have ra : wordW .bare false [] ⟨c :: r, false⟩ = (putF (X.foldl putF []) (.mk 1 [] [] true), ⟨[], false⟩) := by
      have := hX [] (fun e => by cases e) []
      rw [List.append_nil] at this
      rw [this]
      exact q2 _ []
    have ea : a = putF (X.foldl putF []) (.mk 1 [] [] true) := by rw [← a1, ra]
    have rb : wordW .bare false [] ⟨c2 :: r2, false⟩ = (b, ⟨(wordW .bare false [] ⟨c2 :: r2, false⟩).2.s, false⟩) := by
      rw [← b1]
      obtain ⟨st, hst⟩ : ∃ st, wordW .bare false [] ⟨c2 :: r2, false⟩ = st := ⟨_, rfl⟩
      rw [hst] at b2 ⊢
      obtain ⟨x1, ⟨x2, x3⟩⟩ := st
      obtain rfl : x3 = false := b2
      rfl
    have rab : wordW .bare false [] ⟨c :: (r ++ c2 :: r2), false⟩ = (b.foldl putF a, ⟨(wordW .bare false [] ⟨c2 :: r2, false⟩).2.s, false⟩) := by
      have h1 : wordW .bare false [] ⟨c :: (r ++ c2 :: r2), false⟩ = wordW .bare false (X.foldl putF []) ⟨39 :: 39 :: (c2 :: r2), false⟩ := hX (c2 :: r2) (fun e => by cases e) []
      rw [h1, q2, ← ea, wordW_acc, rb]
    refine ⟨?_, ?_, _, ea⟩
    · show parseW (c :: (r ++ c2 :: r2)) = _
      refine parse_make (by simp at hl ⊢; omega) ?_ g1 g2 ?_ ?_ rab
      · show (c :: r ++ c2 :: r2).all okB = true
        rw [List.all_append, oks, okt]; rfl
      · show operF (c :: r ++ c2 :: r2) = none
        by_cases h3 : 3 ≤ (c :: r).length
        · rw [operF_app _ h3]; exact g3
        · have : y = [] := by
            have := congrArg List.length hs
            rw [List.length_append] at this
            simp at this h3
            exact List.eq_nil_of_length_eq_zero (by omega)
          rw [hs, this]
          exact op39 _
      · obtain ⟨j, hj⟩ := ext (c2 :: r2)
        have hj' : ∀ m, wordF (m + j) (c :: (r ++ c2 :: r2)) = wordF m (c2 :: r2) := hj
        obtain ⟨n0, hn0⟩ : ∃ n0, (r ++ c2 :: r2).length + 2 = n0 := ⟨_, rfl⟩
        rw [hn0]
        rw [← wordF_fuel n0 (r2.length + 2 + j) _ (by rw [List.length_cons]; omega), show n0 + (r2.length + 2 + j) = (r2.length + 2 + n0) + j by omega, hj', wordF_fuel _ _ _ (by simp), t4]
    · rw [ea, fold_put, fold_fold]
      rfl
  · have := hX [] (fun e => by cases e) []
    rw [List.append_nil, a2] at this
    cases this
/-- A quoted part stays. -/
theorem putF_quoted {l : List Prt} {p : Prt} (h : ∃ x ∈ l, x.quoted = true) : ∃ x ∈ putF l p, x.quoted = true := by
  obtain ⟨x, hx, hq⟩ := h
  rcases List.eq_nil_or_concat l with rfl | ⟨a, z, rfl⟩
  · cases hx
  · rw [List.concat_eq_append] at hx ⊢
    rw [putF_snoc]
    split
    · rcases List.mem_append.1 hx with hx | hx
      · exact ⟨x, List.mem_append_left _ hx, hq⟩
      · rw [List.mem_singleton.1 hx] at hq
        exact ⟨_, List.mem_append_right _ (List.mem_singleton.2 rfl), hq⟩
    · exact ⟨x, List.mem_append_left _ hx, hq⟩
theorem putF_last (l : List Prt) (p : Prt) (h : p.quoted = true) : ∃ x ∈ putF l p, x.quoted = true := by
  rcases List.eq_nil_or_concat l with rfl | ⟨a, z, rfl⟩
  · exact ⟨p, List.mem_singleton.2 rfl, h⟩
  · rw [List.concat_eq_append, putF_snoc]
    split
    · rename_i hc
      exact ⟨_, List.mem_append_right _ (List.mem_singleton.2 rfl), by show z.quoted = true; rw [hc.2.2]; exact h⟩
    · exact ⟨p, List.mem_append_right _ (List.mem_singleton.2 rfl), h⟩
theorem fold_quoted : ∀ (m : List Prt) {l : List Prt}, (∃ x ∈ l, x.quoted = true) → ∃ x ∈ m.foldl putF l, x.quoted = true
  | [], l, h => h
  | p :: m, l, h => fold_quoted m (putF_quoted h)
theorem text_quoted {l : List Prt} (h : ∃ x ∈ l, x.quoted = true) : textW l ≠ [] := by
  obtain ⟨x, hx, hq⟩ := h
  obtain ⟨u, v, rfl⟩ := List.append_of_mem hx
  intro e
  rw [textW_app, textW_cons] at e
  have e2 := (List.append_eq_nil_iff.1 (List.append_eq_nil_iff.1 e).2).1
  obtain ⟨k, t, o, q⟩ := x
  obtain rfl : q = true := hq
  rw [textP_mk] at e2
  split at e2
  · simp only [if_true] at e2
    have := quoteF_len t
    rw [e2] at this
    simp at this
  · simp at e2
theorem assign_n1 {t : List UInt8} {b : List Prt} (h : parseW t = .ok b) : assignF ([110, 95, 49, 61] ++ t) = some ([110, 95, 49], b) := by
  have hne : t ≠ [] := by
    obtain ⟨⟨_, _, c, r, e, _⟩, _⟩ := parse_open h
    rw [e]; simp
  have hc : cutR 61 ([110, 95, 49, 61] ++ t) = ([110, 95, 49], t) := cut_run (u := [110, 95, 49]) (T := t) (by decide)
  unfold assignF
  rw [hc]
  rw [if_pos ⟨by simp, by show nameB [110, 95, 49] = true; decide⟩, if_neg hne, h]
end Go.Proofs.YtifcgeanippepaaDoor
