/- Words, plain: what lexing takes as a piece, reading takes, too. -/
import Derived.Test.YtifcgeanippepaaDoorM12
namespace Go.Proofs.YtifcgeanippepaaDoor
open Go Go.RowKit Go.Lw
set_option linter.unusedVariables false
set_option linter.unusedSimpArgs false
/-! Parts put behind others, one by one or together. -/
theorem put_assoc (acc : List Prt) (x p : Prt) (h1 : p.kind = 1) (h2 : x.kind = 1) (h3 : x.quoted = p.quoted) : putF acc (.mk x.kind (x.text ++ p.text) x.orw x.quoted) = putF (putF acc x) p := by
  rcases List.eq_nil_or_concat acc with rfl | ⟨a, l, rfl⟩
  · show [_] = putF ([] ++ [x]) p
    rw [putF_snoc, if_pos ⟨h1, h2, h3⟩]; rfl
  · rw [List.concat_eq_append, putF_snoc, putF_snoc]
    show (if x.kind = 1 ∧ l.kind = 1 ∧ l.quoted = x.quoted then _ else _) = _
    by_cases h : x.kind = 1 ∧ l.kind = 1 ∧ l.quoted = x.quoted
    · rw [if_pos h, if_pos h, putF_snoc]
      show _ = if p.kind = 1 ∧ l.kind = 1 ∧ l.quoted = p.quoted then _ else _
      rw [if_pos ⟨h1, h.2.1, h.2.2.trans h3⟩]
      show _ = a ++ [Prt.mk l.kind ((l.text ++ x.text) ++ p.text) l.orw l.quoted]
      rw [List.append_assoc]; rfl
    · rw [if_neg h, if_neg h, putF_snoc, if_pos ⟨h1, h2, h3⟩]
theorem fold_put (acc l : List Prt) (p : Prt) : (putF l p).foldl putF acc = putF (l.foldl putF acc) p := by
  rcases List.eq_nil_or_concat l with rfl | ⟨a, x, rfl⟩
  · rfl
  · rw [List.concat_eq_append, putF_snoc]
    by_cases h : p.kind = 1 ∧ x.kind = 1 ∧ x.quoted = p.quoted
    · rw [if_pos h, List.foldl_append, List.foldl_append]
      exact put_assoc _ x p h.1 h.2.1 h.2.2
    · rw [if_neg h, List.foldl_append]; rfl
theorem fold_fold : ∀ (m acc l : List Prt), (m.foldl putF l).foldl putF acc = m.foldl putF (l.foldl putF acc)
  | [], acc, l => rfl
  | p :: m, acc, l => by
    rw [List.foldl_cons, List.foldl_cons, fold_fold m acc (putF l p), fold_put]
/-- What is read is put behind what is out. -/
theorem wordR_acc : ∀ (n : Nat) (lv : Lv) (q : Bool) (acc : List Prt) (st : Rst), wordR n lv q acc st = ((wordR n lv q [] st).1.foldl putF acc, (wordR n lv q [] st).2)
  | 0, lv, q, acc, st => rfl
  | n + 1, lv, q, acc, ⟨[], bad⟩ => rfl
  | n + 1, lv, q, acc, ⟨c :: r, bad⟩ => by
    have one : ∀ (p : Prt) (st : Rst), wordR n lv q (putF acc p) st = ((wordR n lv q (putF [] p) st).1.foldl putF acc, (wordR n lv q (putF [] p) st).2) := by
      intro p st
      rw [wordR_acc n lv q (putF acc p) st, wordR_acc n lv q (putF [] p) st]
      simp only [fold_fold]
      rfl
    unfold wordR
    simp only
    split
    · rfl
    · split
      · exact one _ _
      · split
        · exact one _ _
        · split
          · exact one _ _
          · split
            · rw [wordR_acc n lv q (List.foldl putF acc _), wordR_acc n lv q (List.foldl putF [] _)]
              simp only [fold_fold]
              rfl
            · exact one _ _
theorem wordW_acc (lv : Lv) (q : Bool) (acc : List Prt) (st : Rst) : wordW lv q acc st = ((wordW lv q [] st).1.foldl putF acc, (wordW lv q [] st).2) := wordR_acc _ _ _ _ _
/-- Reading goes from s to r, whatever stands behind; or a brace is none. -/
def Sy (lv : Lv) (q : Bool) (s r : List UInt8) : Prop :=
  (∃ X : List Prt, ∀ T, (r = [] → T = []) → ∀ acc, wordW lv q acc ⟨s ++ T, false⟩ = wordW lv q (X.foldl putF acc) ⟨r ++ T, false⟩) ∨
  (∀ T, (r = [] → T = []) → ∀ acc, (wordW lv q acc ⟨s ++ T, false⟩).2.bad = true)
theorem Sy.refl (lv : Lv) (q : Bool) (s : List UInt8) : Sy lv q s s := .inl ⟨[], fun _ _ _ => rfl⟩
theorem Sy.trans {lv : Lv} {q : Bool} {a b c : List UInt8} (h : Sy lv q a b) (k : Sy lv q b c) (hbc : b = [] → c = []) : Sy lv q a c := by
  rcases h with ⟨X, h⟩ | h
  · rcases k with ⟨Y, k⟩ | k
    · exact .inl ⟨X ++ Y, fun T hT acc => by rw [h T (fun e => hT (hbc e)), k T hT, List.foldl_append]⟩
    · exact .inr fun T hT acc => by rw [h T (fun e => hT (hbc e))]; exact k T hT _
  · exact .inr fun T hT acc => h T (fun e => hT (hbc e)) acc
theorem Sy.one {lv : Lv} {q : Bool} {s r : List UInt8} (p : Prt) (h : ∀ T, (r = [] → T = []) → ∀ acc, wordW lv q acc ⟨s ++ T, false⟩ = wordW lv q (putF acc p) ⟨r ++ T, false⟩) : Sy lv q s r := .inl ⟨[p], h⟩
theorem Sy.single {lv : Lv} {q : Bool} {c : UInt8} {r : List UInt8} (h0 : lv.ends ≠ some c) (h1 : c ≠ 92) (h2 : c ≠ 36) (h3 : ¬ (c = 39 ∧ lv ≠ .dbl)) (h4 : ¬ (c = 34 ∧ lv ≠ .dbl)) : Sy lv q (c :: r) r :=
  Sy.one (.mk 1 [c] [] q) fun T _ acc => wordW_one q acc (r ++ T) h0 h1 h2 h3 h4
theorem letter_ne {c k : UInt8} (h : letterB c false = true) (hk : letterB k false = false) : c ≠ k := fun e => by rw [e, hk] at h; cases h
theorem letter_weak {c : UInt8} {b : Bool} (h : letterB c b = true) : letterB c false = true := by
  cases b
  · exact h
  · unfold letterB at h ⊢
    simp at h
    simp [h]
theorem letter_ends {lv : Lv} {c : UInt8} (h : letterB c false = true) : lv.ends ≠ some c := by
  cases lv
  · exact fun e => by cases e
  · exact fun e => letter_ne (k := 34) h (by decide) (Option.some.inj e).symm
  · exact fun e => letter_ne (k := 125) h (by decide) (Option.some.inj e).symm
theorem Sy.letter {lv : Lv} {q : Bool} {c : UInt8} {r : List UInt8} (h : letterB c false = true) : Sy lv q (c :: r) r :=
  Sy.single (letter_ends h) (letter_ne h (by decide)) (letter_ne h (by decide)) (fun e => letter_ne (k := 39) h (by decide) e.1) (fun e => letter_ne (k := 34) h (by decide) e.1)
theorem letters_read {lv : Lv} {q : Bool} : ∀ (l y : List UInt8), (∀ c ∈ l, letterB c false = true) → ∀ acc, wordW lv q acc ⟨l ++ y, false⟩ = wordW lv q ((l.map fun c => Prt.mk 1 [c] [] q).foldl putF acc) ⟨y, false⟩
  | [], y, _, acc => rfl
  | c :: l, y, h, acc => by
    have hc := h c List.mem_cons_self
    show wordW lv q acc ⟨c :: (l ++ y), false⟩ = _
    rw [wordW_one q acc (l ++ y) (letter_ends hc) (letter_ne hc (by decide)) (letter_ne hc (by decide)) (fun e => letter_ne (k := 39) hc (by decide) e.1) (fun e => letter_ne (k := 34) hc (by decide) e.1), letters_read l y (fun x hx => h x (List.mem_cons_of_mem _ hx))]
    rfl
/-! Names. -/
theorem names_split : ∀ (first : Bool) (r : List UInt8), ∃ l, r = l ++ namesF first r ∧ (∀ c ∈ l, letterB c false = true) ∧ (∀ c l', l = c :: l' → letterB c first = true) ∧ (∀ d y, namesF first r = d :: y → letterB d (first && l.isEmpty) = false)
  | first, [] => ⟨[], rfl, fun c h => (by cases h), fun c l' h => (by cases h), fun d y h => (by cases h)⟩
  | first, c :: r => by
    unfold namesF
    by_cases h : letterB c first = true
    · rw [if_pos h]
      obtain ⟨l, h1, h2, h3, h4⟩ := names_split false r
      refine ⟨c :: l, by rw [List.cons_append, ← h1], fun x hx => ?_, fun x l' e => by cases e; exact h, fun d y e => ?_⟩
      · rcases List.mem_cons.1 hx with rfl | hx
        · exact letter_weak h
        · exact h2 x hx
      · have := h4 d y e
        simpa using this
    · rw [if_neg h]
      refine ⟨[], rfl, fun x hx => (by cases hx), fun x l' e => (by cases e), fun d y e => ?_⟩
      cases e
      simpa using h
theorem nameT_run {l z : List UInt8} (h2 : ∀ c ∈ l, letterB c false = true) (h3 : ∀ c l', l = c :: l' → letterB c true = true) (h4 : ∀ d y, z = d :: y → letterB d (l.isEmpty) = false) : nameT (l ++ z) = l.take 32 := by
  cases l with
  | nil =>
    cases z with
    | nil => rfl
    | cons d y =>
      have := h4 d y rfl
      show nameT (d :: y) = _
      unfold nameT
      simp only
      rw [if_neg (by simpa using this)]; rfl
  | cons c l =>
    show nameT (c :: (l ++ z)) = _
    unfold nameT
    simp only
    rw [if_pos (h3 c l rfl)]
    have e : (l ++ z).takeWhile (fun c => letterB c false) = l := by
      rw [List.takeWhile_append_of_pos (fun x hx => h2 x (List.mem_cons_of_mem _ hx))]
      cases z with
      | nil => simp
      | cons d y =>
        have h5 : letterB d false = false := h4 d y rfl
        rw [List.takeWhile_cons, h5]; simp
    rw [e]
theorem take1_ne {s : List UInt8} {k : UInt8} (h : s.take 1 ≠ [k]) (T : List UInt8) (hs : s = [] → T = []) : (s ++ T).take 1 ≠ [k] := by
  cases s with
  | nil => rw [hs rfl]; exact h
  | cons c s => simpa using h
theorem take2_ne {s : List UInt8} {k j : UInt8} (h : s.take 1 ≠ [k]) : s.take 2 ≠ [k, j] := fun e => h (by
  have := congrArg (List.take 1) e
  rw [List.take_take] at this
  simpa using this)
theorem dollar_else {W : Rst → List Prt × Rst} {q : Bool} {s : List UInt8} (h1 : s.take 1 ≠ [40]) (h2 : s.take 1 ≠ [123]) (h3 : s.take 1 ≠ [63]) :
    dollarR W q s = if nameT s = [] then (.mk 1 [36] [] q, ⟨s, false⟩) else (.mk 2 (nameT s) [] q, ⟨s.drop (nameT s).length, false⟩) := by
  unfold dollarR
  rw [if_neg (take2_ne h1), if_neg h2, if_neg h3]
theorem sy_names {lv : Lv} {q : Bool} {r : List UInt8} (h1 : r.take 1 ≠ [40]) (h2 : r.take 1 ≠ [123]) (h3 : r.take 1 ≠ [63]) : Sy lv q (36 :: r) (namesF true r) := by
  obtain ⟨l, e, g2, g3, g4⟩ := names_split true r
  obtain ⟨r', hr'⟩ : ∃ r', namesF true r = r' := ⟨_, rfl⟩
  rw [hr'] at e g4 ⊢
  have hrun : ∀ T, (r' = [] → T = []) → nameT (r ++ T) = l.take 32 := by
    intro T hT
    rw [e, List.append_assoc]
    refine nameT_run g2 g3 (fun d y hz => ?_)
    cases r' with
    | nil => rw [hT rfl] at hz; cases hz
    | cons d2 y2 =>
      have e1 : d2 = d := (List.cons.inj hz).1
      rw [← e1]
      exact g4 d2 y2 rfl
  have hne : ∀ T : List UInt8, (r' = [] → T = []) → (r = [] → T = []) := fun T hT hr => hT (by rw [hr] at e; exact (List.append_eq_nil_iff.1 e.symm).2)
  by_cases hl : l = []
  · subst hl
    have er : r = r' := e
    refine Sy.one (.mk 1 [36] [] q) fun T hT acc => ?_
    show wordW lv q acc ⟨36 :: (r ++ T), false⟩ = _
    rw [wordW_dollar, dollar_else (take1_ne h1 T (hne T hT)) (take1_ne h2 T (hne T hT)) (take1_ne h3 T (hne T hT)), hrun T hT]
    rw [List.take_nil, if_pos rfl, er]
  · have hl32 : l.take 32 ≠ [] := fun h => hl (by
      cases l with
      | nil => rfl
      | cons c l => simp at h)
    refine .inl ⟨.mk 2 (l.take 32) [] q :: (l.drop 32).map (fun c => Prt.mk 1 [c] [] q), fun T hT acc => ?_⟩
    show wordW lv q acc ⟨36 :: (r ++ T), false⟩ = _
    rw [wordW_dollar, dollar_else (take1_ne h1 T (hne T hT)) (take1_ne h2 T (hne T hT)) (take1_ne h3 T (hne T hT)), hrun T hT]
    rw [if_neg hl32]
    have ed : (r ++ T).drop (l.take 32).length = l.drop 32 ++ (r' ++ T) := by
      conv => lhs; arg 2; rw [e, List.append_assoc, ← List.take_append_drop 32 l, List.append_assoc]
      exact List.drop_left
    simp only
    rw [ed, letters_read _ _ (fun c hc => g2 c (List.mem_of_mem_drop hc))]
    rfl
/-! Arithmetic; what lies within a brace. -/
theorem arith_both : ∀ (s : List UInt8) (o : Nat) {r' : List UInt8}, arithF o s = .ok r' → ∃ t, ∀ T, arithF o (s ++ T) = .ok (r' ++ T) ∧ arithW o (s ++ T) = some (t, r' ++ T)
  | [], o, r', h => by cases h
  | c :: s, o, r', h => by
    unfold arithF at h
    by_cases h1 : o = 0 ∧ (c :: s).take 2 = [41, 41]
    · rw [if_pos h1] at h
      obtain ⟨ho, hc⟩ := h1
      subst ho
      cases s with
      | nil => simp at hc
      | cons d s =>
        simp at hc
        obtain ⟨rfl, rfl⟩ := hc
        cases h
        refine ⟨[], fun T => ⟨?_, ?_⟩⟩
        · show arithF 0 (41 :: 41 :: (s ++ T)) = _
          unfold arithF; simp
        · show arithW 0 (41 :: 41 :: (s ++ T)) = _
          unfold arithW; simp
    · rw [if_neg h1] at h
      have ext : ∀ (o' : Nat) {r' : List UInt8}, arithF o' s = .ok r' → ∀ T, ¬ (o = 0 ∧ (c :: (s ++ T)).take 2 = [41, 41]) := by
        intro o' r' hk T hx
        refine h1 ⟨hx.1, ?_⟩
        cases s with
        | nil => cases hk
        | cons d s => simpa using hx.2
      by_cases h40 : c = 40
      · rw [if_pos h40] at h
        obtain ⟨t, ht⟩ := arith_both s (o + 1) h
        refine ⟨c :: t, fun T => ⟨?_, ?_⟩⟩
        · show arithF o (c :: (s ++ T)) = _
          unfold arithF
          rw [if_neg (ext _ h T), if_pos h40]
          exact (ht T).1
        · show arithW o (c :: (s ++ T)) = _
          unfold arithW
          rw [if_pos h40, (ht T).2]; rfl
      · rw [if_neg h40] at h
        by_cases h41 : c = 41 ∧ 0 < o
        · rw [if_pos h41] at h
          obtain ⟨t, ht⟩ := arith_both s (o - 1) h
          refine ⟨c :: t, fun T => ⟨?_, ?_⟩⟩
          · show arithF o (c :: (s ++ T)) = _
            unfold arithF
            rw [if_neg (ext _ h T), if_neg h40, if_pos h41]
            exact (ht T).1
          · show arithW o (c :: (s ++ T)) = _
            unfold arithW
            rw [if_neg h40, if_pos h41, (ht T).2]; rfl
        · rw [if_neg h41] at h
          by_cases hb : c = 41 ∨ oddA c = true
          · rw [if_pos hb] at h; cases h
          · rw [if_neg hb] at h
            obtain ⟨t, ht⟩ := arith_both s o h
            refine ⟨c :: t, fun T => ⟨?_, ?_⟩⟩
            · show arithF o (c :: (s ++ T)) = _
              unfold arithF
              rw [if_neg (ext _ h T), if_neg h40, if_neg h41, if_neg hb]
              exact (ht T).1
            · show arithW o (c :: (s ++ T)) = _
              unfold arithW
              rw [if_neg h40, if_neg h41, if_neg (fun e => hb (.inl e.1)), (ht T).2]; rfl
/-- Bytes of a name, and of what stands behind it. -/
def plainC (c : UInt8) : Prop := letterB c false = true ∨ c = 58 ∨ c = 45
theorem plain_ne {c k : UInt8} (h : plainC c) (h1 : letterB k false = false) (h2 : k ≠ 58) (h3 : k ≠ 45) : c ≠ k := by
  rcases h with h | h | h
  · exact letter_ne h h1
  · subst h; exact fun e => h2 e.symm
  · subst h; exact fun e => h3 e.symm
theorem plain_brace {c : UInt8} (h : plainC c) : braceB c = false := by
  have n := fun k => @plain_ne c k h
  unfold braceB endB
  simp only [Bool.or_eq_false_iff, beq_eq_false_iff_ne]
  refine ⟨⟨⟨⟨⟨⟨⟨⟨⟨⟨?_, ?_⟩, ?_⟩, ?_⟩, ?_⟩, ?_⟩, ?_⟩, ?_⟩, ?_⟩, ?_⟩, ?_⟩ <;> exact n _ (by decide) (by decide) (by decide)
theorem piece_plain {n d : Nat} {c : UInt8} {x : List UInt8} (h : plainC c) : scan (n + 1) (.piece false) d (c :: x) = .ok x := by
  have n := fun k => @plain_ne c k h
  unfold scan
  simp only
  rw [if_neg (n 92 (by decide) (by decide) (by decide)), if_neg (fun e => n 39 (by decide) (by decide) (by decide) e.1), if_neg (fun e => n 34 (by decide) (by decide) (by decide) e.1), if_neg (n 36 (by decide) (by decide) (by decide)),
    if_neg (fun e => e.elim (n 96 (by decide) (by decide) (by decide)) (fun e => e.2.elim (n 40 (by decide) (by decide) (by decide)) (n 41 (by decide) (by decide) (by decide))))]
theorem brace_plain : ∀ (p : List UInt8) (n d : Nat) {y r' : List UInt8}, (∀ c ∈ p, plainC c) → scan n .brace d (p ++ y) = .ok r' → ∃ m, m ≤ n ∧ scan m .brace d y = .ok r'
  | [], n, d, y, r', _, h => ⟨n, Nat.le_refl _, h⟩
  | c :: p, 0, d, y, r', _, h => by unfold scan at h; cases h
  | c :: p, n + 1, d, y, r', hp, h => by
    have hc := hp c List.mem_cons_self
    rw [List.cons_append] at h
    unfold scan at h
    simp only at h
    rw [if_neg (plain_ne hc (by decide) (by decide) (by decide)), if_neg (plain_ne hc (by decide) (by decide) (by decide)), plain_brace hc] at h
    simp only [Bool.false_eq_true, if_false] at h
    cases n with
    | zero =>
      have e0 : scan 0 (.piece false) d (c :: (p ++ y)) = .error 5 := by unfold scan; rfl
      rw [e0] at h; cases h
    | succ n =>
      rw [piece_plain hc] at h
      obtain ⟨m, hm, hs⟩ := brace_plain p (n + 1) d (fun x hx => hp x (List.mem_cons_of_mem _ hx)) h
      exact ⟨m, by omega, hs⟩
theorem brace_ne {n d : Nat} {y r' : List UInt8} (h : scan n .brace d y = .ok r') : y ≠ [] := fun e => by
  subst e
  cases n with
  | zero => unfold scan at h; cases h
  | succ n => unfold scan at h; cases h
theorem brace_two {n d : Nat} {c : UInt8} {y r' : List UInt8} (h : scan n .brace d (c :: y) = .ok r') (hc : c ≠ 125) : y ≠ [] := fun e => by
  subst e
  cases n with
  | zero => unfold scan at h; cases h
  | succ n =>
    unfold scan at h
    simp only at h
    rw [if_neg hc] at h
    split at h
    · cases h
    · split at h
      · exact brace_ne h rfl
      · split at h
        · cases h
        · rename_i r1 h1
          have := (piece_less h1).len
          have : r1 = [] := List.eq_nil_of_length_eq_zero (by simpa using this)
          subst this
          exact brace_ne h rfl
theorem until_split {c : UInt8} : ∀ {r r' : List UInt8}, untilF c r = .ok r' → ∃ u, r = u ++ c :: r' ∧ ∀ x ∈ u, x ≠ c
  | [], r', h => by cases h
  | d :: r, r', h => by
    unfold untilF at h
    by_cases hd : d = c
    · rw [if_pos hd] at h; cases h
      exact ⟨[], by rw [hd]; rfl, fun x hx => by cases hx⟩
    · rw [if_neg hd] at h
      obtain ⟨u, e, hu⟩ := until_split h
      refine ⟨d :: u, by rw [e]; rfl, fun x hx => ?_⟩
      rcases List.mem_cons.1 hx with rfl | hx
      · exact hd
      · exact hu x hx
theorem until_run' {c : UInt8} : ∀ {u : List UInt8} {T : List UInt8}, (∀ x ∈ u, x ≠ c) → untilF c (u ++ c :: T) = .ok T
  | [], T, _ => by show untilF c (c :: T) = _; unfold untilF; simp
  | d :: u, T, h => by
    show untilF c (d :: (u ++ c :: T)) = _
    unfold untilF
    rw [if_neg (h d List.mem_cons_self), until_run' (fun x hx => h x (List.mem_cons_of_mem _ hx))]
theorem pair_split {r r' : List UInt8} (h : pairF r = .ok r') : ∃ d, r = d :: r' ∧ d ≠ 10 := by
  unfold pairF at h
  split at h
  · cases h
  · rename_i d r2
    split at h
    · cases h
    · rename_i hd
      cases h
      exact ⟨d, rfl, hd⟩
/-- What is said of n steps. -/
structure SyN (n : Nat) : Prop where
  piece : ∀ (d : Nat) (lv : Lv) (q : Bool) (c : UInt8) (r r' : List UInt8), scan n (.piece (decide (lv = .dbl))) d (c :: r) = .ok r' → lv.ends ≠ some c → (∀ T, (r' = [] → T = []) → scan n (.piece (decide (lv = .dbl))) d (c :: r ++ T) = .ok (r' ++ T)) ∧ Sy lv q (c :: r) r'
  dbl : ∀ (d : Nat) (q : Bool) (r r' : List UInt8), scan n .double d r = .ok r' → (∀ T, scan n .double d (r ++ T) = .ok (r' ++ T)) ∧ Sy .dbl q r (34 :: r')
  brc : ∀ (d : Nat) (q : Bool) (r r' : List UInt8), scan n .brace d r = .ok r' → (∀ T, scan n .brace d (r ++ T) = .ok (r' ++ T)) ∧ Sy .brc q r (125 :: r')
theorem sy_brace {lv : Lv} {q : Bool} {n d : Nat} {x r' : List UInt8} (IH : ∀ m, m ≤ n → SyN m) (h : scan n .brace d x = .ok r') : Sy lv q (36 :: 123 :: x) r' := by
  obtain ⟨l, e, g2, g3, g4⟩ := names_split true x
  obtain ⟨y0, hy0⟩ : ∃ y0, namesF true x = y0 := ⟨_, rfl⟩
  rw [hy0] at e g4
  clear hy0
  -- the name, and what is behind it
  obtain ⟨t, ht⟩ : ∃ t, l.take 32 = t := ⟨_, rfl⟩
  obtain ⟨y, hy⟩ : ∃ y, l.drop 32 ++ y0 = y := ⟨_, rfl⟩
  have ex : x = t ++ y := by rw [e, ← ht, ← hy, ← List.append_assoc, List.take_append_drop]
  obtain ⟨m, hm, hs⟩ := brace_plain t n d (y := y) (r' := r') (fun c hc => .inl (g2 c (List.mem_of_mem_take (by rw [ht]; exact hc)))) (by rw [← ex]; exact h)
  have hyne := brace_ne hs
  have hl0 : l = [] → y0 ≠ [] := fun hl hy0 => hyne (by rw [← hy, hl, hy0]; rfl)
  have hnm : ∀ T, nameT (x ++ T) = t := by
    intro T
    cases y0 with
    | nil =>
      -- all letters: more than 32 of them
      have hl33 : 32 < l.length := by
        rcases Nat.lt_or_ge 32 l.length with h1 | h1
        · exact h1
        · exfalso
          exact hyne (by rw [← hy, List.drop_eq_nil_of_le h1]; rfl)
      rw [e, List.append_nil]
      cases l with
      | nil => simp at hl33
      | cons c l =>
        show nameT (c :: (l ++ T)) = _
        unfold nameT
        simp only
        rw [if_pos (g3 c l rfl), List.takeWhile_append_of_pos (fun z hz => g2 z (List.mem_cons_of_mem _ hz)), ← List.cons_append, List.take_append_of_le_length (by omega)]
        exact ht
    | cons dd y1 =>
      rw [e, List.append_assoc, ← ht]
      exact nameT_run g2 g3 (fun d' y' hz => by
        have e1 : dd = d' := (List.cons.inj hz).1
        rw [← e1]; exact g4 dd y1 rfl)
  have hdr : ∀ T, (x ++ T).drop t.length = y ++ T := fun T => by rw [ex, List.append_assoc, List.drop_left]
  have hdol : ∀ (W : Rst → List Prt × Rst) (T : List UInt8), dollarR W q (123 :: (x ++ T)) =
      if t = [] then (.mk 2 [] [] q, ⟨x ++ T, true⟩)
      else if (y ++ T).take 2 = [58, 45] then (.mk 3 t (W ⟨(y ++ T).drop 2, false⟩).1 q, closeR (W ⟨(y ++ T).drop 2, false⟩).2)
      else (.mk 2 t [] q, closeR ⟨y ++ T, false⟩) := by
    intro W T
    unfold dollarR
    rw [if_neg (by simp), if_pos (by simp)]
    simp only [List.drop_succ_cons, List.drop_zero]
    rw [hnm T, hdr T]
  by_cases ht0 : t = []
  · refine .inr fun T hT acc => ?_
    show (wordW lv q acc ⟨36 :: 123 :: (x ++ T), false⟩).2.bad = true
    rw [wordW_dollar, hdol, if_pos ht0, wordW_bad]
  cases y with
  | nil => exact absurd rfl hyne
  | cons c1 y1 =>
    by_cases h125 : c1 = 125
    · subst h125
      have hr' : r' = y1 := by
        cases m with
        | zero => unfold scan at hs; cases hs
        | succ m => unfold scan at hs; simp at hs; exact hs.symm
      subst hr'
      refine Sy.one (.mk 2 t [] q) fun T hT acc => ?_
      show wordW lv q acc ⟨36 :: 123 :: (x ++ T), false⟩ = _
      rw [wordW_dollar, hdol, if_neg ht0, if_neg (by simp)]
      rfl
    · have hy1 := brace_two hs h125
      obtain ⟨c2, z, rfl⟩ : ∃ c2 z, y1 = c2 :: z := by
        cases y1 with
        | nil => exact absurd rfl hy1
        | cons c2 z => exact ⟨c2, z, rfl⟩
      by_cases h58 : c1 = 58 ∧ c2 = 45
      · obtain ⟨rfl, rfl⟩ := h58
        obtain ⟨m2, hm2, hs2⟩ := brace_plain [58, 45] m d (y := z) (r' := r') (fun c hc => by
          simp only [List.mem_cons, List.not_mem_nil, or_false] at hc
          exact hc.elim (fun h => .inr (.inl h)) (fun h => .inr (.inr h))) hs
        rcases ((IH m2 (by omega)).brc d q z r' hs2).2 with ⟨X, hX⟩ | hX
        · refine Sy.one (.mk 3 t (X.foldl putF []) q) fun T hT acc => ?_
          show wordW lv q acc ⟨36 :: 123 :: (x ++ T), false⟩ = _
          have hw : wordW .brc q [] ⟨z ++ T, false⟩ = (X.foldl putF [], ⟨125 :: (r' ++ T), false⟩) := by
            rw [hX T (fun h => by cases h) []]
            exact wordW_end _ _ _ _ rfl
          rw [wordW_dollar, hdol, if_neg ht0, if_pos (by simp)]
          show wordW lv q (putF acc (.mk 3 t (wordW .brc q [] ⟨z ++ T, false⟩).1 q)) (closeR (wordW .brc q [] ⟨z ++ T, false⟩).2) = _
          rw [hw]
          rfl
        · refine .inr fun T hT acc => ?_
          show (wordW lv q acc ⟨36 :: 123 :: (x ++ T), false⟩).2.bad = true
          have hw := hX T (fun h => by cases h) []
          rw [wordW_dollar, hdol, if_neg ht0, if_pos (by simp)]
          show (wordW lv q _ (closeR (wordW .brc q [] ⟨z ++ T, false⟩).2)).2.bad = true
          obtain ⟨st, hst⟩ : ∃ st, (wordW .brc q [] ⟨z ++ T, false⟩).2 = st := ⟨_, rfl⟩
          rw [hst] at hw ⊢
          obtain ⟨s9, b9⟩ := st
          obtain rfl : b9 = true := hw
          show (wordW lv q _ ⟨s9, true⟩).2.bad = true
          rw [wordW_bad]
      · refine .inr fun T hT acc => ?_
        show (wordW lv q acc ⟨36 :: 123 :: (x ++ T), false⟩).2.bad = true
        rw [wordW_dollar, hdol, if_neg ht0, if_neg (by simpa using h58)]
        have : closeR ⟨c1 :: c2 :: z ++ T, false⟩ = ⟨c1 :: c2 :: z ++ T, true⟩ := by
          unfold closeR; simp [h125]
        rw [this, wordW_bad]
end Go.Proofs.YtifcgeanippepaaDoor
