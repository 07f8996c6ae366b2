/- PatternAdds, plain: texts put together, with stars and quests between. -/
import Derived.Test.YtgedgnhloibclaaQuoteP
namespace Go.Proofs.Ytgedgnhloibclaa
open Go Go.RowKit Go.Lw
/-- A part: whether a star stands ahead, how many quests, letters. -/
structure Sg where
  star : Bool
  n : Nat
  b : List UInt8
def letters (b : List UInt8) : Prop := ∀ c ∈ b, 97 ≤ c.toNat ∧ c.toNat ≤ 99
def sgP (m : Nat) (x : Sg) : List UInt8 := (if x.star then List.replicate m 42 else []) ++ (List.replicate x.n 63 ++ (x.b ++ [45]))
def sgS (x : Sg) : List UInt8 := (if x.star then [122, 122] else []) ++ (List.replicate x.n 121 ++ (x.b ++ [45]))
def patT (m : Nat) (l : List Sg) : List UInt8 := 120 :: l.flatMap (sgP m)
def txtT (l : List Sg) : List UInt8 := 120 :: l.flatMap sgS
theorem patT_snoc (m : Nat) (l : List Sg) (x : Sg) : patT m (l ++ [x]) = patT m l ++ sgP m x := by simp [patT]
theorem txtT_snoc (l : List Sg) (x : Sg) : txtT (l ++ [x]) = txtT l ++ sgS x := by simp [txtT]
theorem letter_spec {c : UInt8} (h : 97 ≤ c.toNat ∧ c.toNat ≤ 99) : spec c = false := by
  cases e : spec c with
  | false => rfl
  | true => simp [spec] at e; omega
theorem quote_letters : ∀ {b : List UInt8}, letters b → quoteF b = b
  | [], _ => rfl
  | c :: b, h => by
    rw [quoteF, quote_letters (fun d hd => h d (List.mem_cons_of_mem _ hd)), letter_spec (h c List.mem_cons_self)]
    rfl
def questP : Pc := ⟨false, false, fun _ => true⟩
def pcs (m : Nat) (x : Sg) : List Pc := (if x.star then List.replicate m starP else []) ++ (List.replicate x.n questP ++ (x.b.map oneP ++ [oneP 45]))
theorem PL_rep {c : UInt8} {P : Pc} (h : ∀ l, pieceF c l = (P, l)) : ∀ (n : Nat) (r : List UInt8), PL (List.replicate n c ++ r) = List.replicate n P ++ PL r
  | 0, r => rfl
  | n + 1, r => by
    rw [List.replicate_succ, List.cons_append, PL_cons, h, PL_rep h n r]; rfl
theorem PL_plain : ∀ {b : List UInt8} (_ : ∀ c ∈ b, spec c = false) (r : List UInt8), PL (b ++ r) = b.map oneP ++ PL r
  | [], _, r => rfl
  | c :: b, h, r => by
    rw [List.cons_append, PL_cons, piece_plain (h c List.mem_cons_self), PL_plain (fun d hd => h d (List.mem_cons_of_mem _ hd)) r]
    rfl
theorem star_piece (l : List UInt8) : pieceF 42 l = (starP, l) := piece_star (by decide) l
theorem quest_piece (l : List UInt8) : pieceF 63 l = (questP, l) := piece_quest (by decide) l
theorem PL_sg (m : Nat) {x : Sg} (h : letters x.b) (r : List UInt8) : PL (sgP m x ++ r) = pcs m x ++ PL r := by
  unfold sgP pcs
  have hb : PL (x.b ++ [45] ++ r) = x.b.map oneP ++ [oneP 45] ++ PL r := by
    have := PL_plain (b := x.b ++ [45]) (fun c hc => by
      rcases List.mem_append.1 hc with hc | hc
      · exact letter_spec (h c hc)
      · obtain rfl : c = 45 := by simpa using hc
        rfl) r
    rw [this]; simp
  have hq : PL (List.replicate x.n 63 ++ (x.b ++ [45]) ++ r) = List.replicate x.n questP ++ (x.b.map oneP ++ [oneP 45]) ++ PL r := by
    rw [List.append_assoc, PL_rep quest_piece, hb]; simp
  cases x.star with
  | false => simpa using hq
  | true =>
    simp only [if_true]
    rw [List.append_assoc, PL_rep star_piece, hq]; simp
theorem PL_pat (m : Nat) : ∀ {l : List Sg} (_ : ∀ x ∈ l, letters x.b), PL (patT m l) = oneP 120 :: l.flatMap (pcs m) := by
  intro l h
  have key : ∀ l : List Sg, (∀ x ∈ l, letters x.b) → PL (l.flatMap (sgP m)) = l.flatMap (pcs m) := by
    intro l
    induction l with
    | nil => intro _; rfl
    | cons x l ih =>
      intro h
      rw [List.flatMap_cons, List.flatMap_cons, PL_sg m (h x List.mem_cons_self), ih (fun y hy => h y (List.mem_cons_of_mem _ hy))]
  unfold patT
  rw [PL_cons, piece_plain (c := 120) rfl, key l h]
/-- Ahead of what matches. -/
theorem match_ones {b t : List UInt8} {L : List Pc} (h : matchR L t = true) : matchR (b.map oneP ++ L) (b ++ t) = true := by
  rw [matchR_ones]; simp [h]
theorem match_quests : ∀ {n : Nat} {u t : List UInt8} {L : List Pc} (_ : u.length = n) (_ : matchR L t = true), matchR (List.replicate n questP ++ L) (u ++ t) = true
  | 0, u, t, L, hu, h => by
    obtain rfl : u = [] := List.eq_nil_of_length_eq_zero hu
    exact h
  | n + 1, [], t, L, hu, h => by simp at hu
  | n + 1, c :: u, t, L, hu, h => by
    rw [List.replicate_succ, List.cons_append, List.cons_append, matchR_one rfl, match_quests (by simpa using hu) h]
    rfl
theorem match_star_ahead {u t : List UInt8} {L : List Pc} (h : matchR L t = true) : matchR (starP :: L) (u ++ t) = true :=
  (matchR_any rfl L (u ++ t)).2 ⟨u.length, by simp, by simpa using h⟩
theorem match_stars {u t : List UInt8} {L : List Pc} (h : matchR L t = true) : ∀ m : Nat, matchR (List.replicate (m + 1) starP ++ L) (u ++ t) = true
  | 0 => match_star_ahead h
  | m + 1 => by
    rw [List.replicate_succ, List.cons_append]
    exact match_star_ahead (u := []) (match_stars h m)
theorem match_sg (m : Nat) (x : Sg) {t : List UInt8} {L : List Pc} (h : matchR L t = true) : matchR (pcs (m + 1) x ++ L) (sgS x ++ t) = true := by
  unfold pcs sgS
  have h1 : matchR (x.b.map oneP ++ [oneP 45] ++ L) (x.b ++ [45] ++ t) = true := by
    have := match_ones (b := x.b ++ [45]) h
    simpa using this
  have h2 : matchR (List.replicate x.n questP ++ (x.b.map oneP ++ [oneP 45]) ++ L) (List.replicate x.n 121 ++ (x.b ++ [45]) ++ t) = true := by
    rw [List.append_assoc, List.append_assoc (List.replicate x.n (121 : UInt8))]
    exact match_quests (by simp) h1
  cases x.star with
  | false => simpa using h2
  | true =>
    simp only [if_true]
    rw [List.append_assoc, List.append_assoc [122, 122]]
    exact match_stars h2 m
theorem match_pat (m : Nat) (l : List Sg) : matchR (oneP 120 :: l.flatMap (pcs (m + 1))) (txtT l) = true := by
  unfold txtT
  rw [matchR_one rfl]
  have key : matchR (l.flatMap (pcs (m + 1))) (l.flatMap sgS) = true := by
    induction l with
    | nil => rw [List.flatMap_nil, matchR_nil]; rfl
    | cons x l ih =>
      rw [List.flatMap_cons, List.flatMap_cons]
      exact match_sg m x ih
  rw [key]; rfl
theorem dot_x (L : List Pc) (c : UInt8) (t : List UInt8) (h : ¬ c.toNat = 46) : dotF L (c :: t) = true := by
  unfold dotF
  simp only [if_neg h]
theorem adds_match (m : Nat) {l : List Sg} (h : ∀ x ∈ l, letters x.b) : matchF (patT (m + 1) l) (txtT l) = true := by
  unfold matchF
  show (dotF (PL (patT (m + 1) l)) _ && matchR (PL (patT (m + 1) l)) _) = true
  rw [PL_pat (m + 1) h, match_pat m l]
  unfold txtT
  rw [dot_x _ _ _ (by decide)]; rfl
/-- What ends with a byte of its own matches only what ends with it. -/
theorem match_last (c : UInt8) : ∀ (L : List Pc) (t : List UInt8), matchR (L ++ [oneP c]) t = true → ∃ t', t = t' ++ [c] := by
  intro L t
  generalize hn : L.length + t.length = n
  induction n using Nat.strongRecOn generalizing L t with
  | ind n ih =>
    intro h
    cases L with
    | nil =>
      cases t with
      | nil => rw [List.nil_append, matchR_end] at h; cases h
      | cons d t =>
        rw [List.nil_append, matchR_one rfl, oneP_f, matchR_nil, Bool.and_eq_true] at h
        obtain ⟨h1, h2⟩ := h
        rw [List.isEmpty_iff] at h2
        rw [beq_iff_eq] at h1
        exact ⟨[], by rw [h1, h2]; rfl⟩
    | cons p L =>
      cases t with
      | nil =>
        rw [List.cons_append, matchR_end, Bool.and_eq_true] at h
        obtain ⟨t', e⟩ := ih _ (by rw [← hn, List.length_cons]; omega) L [] rfl h.2
        exact ⟨t', e⟩
      | cons d t =>
        rw [List.cons_append, matchR_cons] at h
        split at h
        · rw [Bool.or_eq_true] at h
          rcases h with h | h
          · exact ih _ (by rw [← hn]; simp) L (d :: t) rfl h
          · obtain ⟨t', e⟩ := ih _ (by rw [← hn]; simp) (p :: L) t rfl (by rw [List.cons_append]; exact h)
            exact ⟨d :: t', by rw [e]; rfl⟩
        · rw [Bool.and_eq_true] at h
          obtain ⟨t', e⟩ := ih _ (by rw [← hn]; simp; omega) L t rfl h.2
          exact ⟨d :: t', by rw [e]; rfl⟩
theorem pcs_last (m : Nat) (l : List Sg) (x : Sg) : ∃ L, oneP 120 :: (l ++ [x]).flatMap (pcs m) = L ++ [oneP 45] := by
  refine ⟨oneP 120 :: (l.flatMap (pcs m) ++ ((if x.star then List.replicate m starP else []) ++ (List.replicate x.n questP ++ x.b.map oneP))), ?_⟩
  rw [List.flatMap_append, List.flatMap_cons, List.flatMap_nil]
  unfold pcs
  simp
theorem adds_last {m : Nat} {l : List Sg} (h : ∀ x ∈ l, letters x.b) {t : List UInt8} {d : UInt8} (hd : ¬ d = 120) (hd2 : ¬ d = 45) : matchF (patT m l) (t ++ [d]) = false := by
  cases e : matchF (patT m l) (t ++ [d]) with
  | false => rfl
  | true =>
    exfalso
    unfold matchF at e
    have e2 : (dotF (PL (patT m l)) (t ++ [d]) && matchR (PL (patT m l)) (t ++ [d])) = true := e
    rw [PL_pat m h, Bool.and_eq_true] at e2
    rcases List.eq_nil_or_concat l with rfl | ⟨l', x, rfl⟩
    · obtain ⟨t', e3⟩ := match_last 120 [] _ e2.2
      have := List.append_inj_right' e3 rfl
      exact absurd (by simpa using this) hd
    · rw [List.concat_eq_append] at e2
      obtain ⟨L, hL⟩ := pcs_last m l' x
      rw [hL] at e2
      obtain ⟨t', e3⟩ := match_last 45 L _ e2.2
      have := List.append_inj_right' e3 rfl
      exact absurd (by simpa using this) hd2
theorem adds_first {m : Nat} {l : List Sg} (h : ∀ x ∈ l, letters x.b) (t : List UInt8) : matchF (patT m l) (121 :: t) = false := by
  unfold matchF
  show (dotF (PL (patT m l)) _ && matchR (PL (patT m l)) _) = false
  rw [PL_pat m h, matchR_one rfl, oneP_f]
  simp
theorem take_init {α : Type} (a : List α) (d : α) : (a ++ [d]).take ((a ++ [d]).length - 1) = a := by simp
theorem adds_short {m : Nat} {l : List Sg} {x : Sg} (h : ∀ y ∈ l ++ [x], letters y.b) (hb : x.b ≠ []) : matchF (patT m (l ++ [x])) ((txtT (l ++ [x])).take ((txtT (l ++ [x])).length - 1)) = false := by
  obtain ⟨b', c, hc⟩ : ∃ b' c, x.b = b' ++ [c] := by
    rcases List.eq_nil_or_concat x.b with e | ⟨b', c, e⟩
    · exact absurd e hb
    · exact ⟨b', c, by rw [e, List.concat_eq_append]⟩
  have hl := h x (by simp) c (by rw [hc]; simp)
  have e : (txtT (l ++ [x])).take ((txtT (l ++ [x])).length - 1) = (txtT l ++ ((if x.star then [122, 122] else []) ++ (List.replicate x.n 121 ++ b'))) ++ [c] := by
    have : txtT (l ++ [x]) = ((txtT l ++ ((if x.star then [122, 122] else []) ++ (List.replicate x.n 121 ++ b'))) ++ [c]) ++ [45] := by
      rw [txtT_snoc]
      unfold sgS
      rw [hc]; simp
    rw [this]
    exact take_init _ _
  rw [e]
  exact adds_last h (fun e => by subst e; revert hl; decide) (fun e => by subst e; revert hl; decide)
/-- Whether it is alive. -/
def wakeF (l : List Sg) : Bool := l.any fun x => x.star || decide (0 < x.n)
theorem any_rep {α : Type} (f : α → Bool) (n : Nat) (a : α) : (List.replicate n a).any f = (decide (0 < n) && f a) := by
  cases n with
  | zero => rfl
  | succ n =>
    simp
theorem adds_alive (m : Nat) {l : List Sg} (h : ∀ x ∈ l, letters x.b) : aliveF (patT (m + 1) l) = wakeF l := by
  show (PL (patT (m + 1) l)).any _ = _
  rw [PL_pat (m + 1) h, List.any_cons, List.any_flatMap]
  unfold wakeF
  rw [show (!(oneP 120).own) = false from rfl, Bool.false_or]
  congr 1
  funext x
  unfold pcs
  rw [List.any_append, List.any_append, List.any_append, any_rep]
  have h1 : (x.b.map oneP).any (fun p => !p.own) = false := by rw [List.any_map]; simp [oneP, Function.comp_def]
  have h2 : [oneP 45].any (fun p => !p.own) = false := rfl
  rw [h1, h2]
  cases x.star with
  | false => simp [questP]
  | true => simp [starP]
theorem adds_has (m : Nat) {l : List Sg} (h : ∀ x ∈ l, letters x.b) : (patT (m + 1) l).any (fun c => c == 42 || c == 63) = wakeF l := by
  unfold patT wakeF
  rw [List.any_cons, show ((120 : UInt8) == 42 || (120 : UInt8) == 63) = false from rfl, Bool.false_or, List.any_flatMap]
  rw [Bool.eq_iff_iff, List.any_eq_true, List.any_eq_true]
  have key : ∀ x ∈ l, (sgP (m + 1) x).any (fun c => c == 42 || c == 63) = (x.star || decide (0 < x.n)) := by
    intro x hx
    unfold sgP
    rw [List.any_append, List.any_append, List.any_append, any_rep]
    have h1 : x.b.any (fun c => c == 42 || c == 63) = false := by
      rw [List.any_eq_false]
      intro c hc
      have := h x hx c hc
      simp only [Bool.or_eq_true, beq_iff_eq]
      rintro (rfl | rfl)
      · revert this; decide
      · revert this; decide
    rw [h1]
    cases x.star with
    | false => simp
    | true => simp
  constructor
  · rintro ⟨x, hx, e⟩
    exact ⟨x, hx, by rw [← key x hx]; exact e⟩
  · rintro ⟨x, hx, e⟩
    exact ⟨x, hx, by rw [key x hx]; exact e⟩
end Go.Proofs.Ytgedgnhloibclaa
