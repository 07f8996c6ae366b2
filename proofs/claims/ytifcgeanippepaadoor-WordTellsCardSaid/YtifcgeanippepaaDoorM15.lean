/- WordTells, plain: what lexing takes as a piece, all readers read alike. -/
import Derived.Test.YtifcgeanippepaaDoorM14
import Derived.Test.YtifcgeanippepaaDoorChecked
import Derived.Test.YtifcgeanippepaaDoorM01
namespace Go.Proofs.YtifcgeanippepaaDoor
open Go Go.RowKit Go.Lw
set_option linter.unusedVariables false
set_option linter.unusedSimpArgs false
theorem dollarG_else {R : Rdr} {W : Rst → List Prt × Rst} {q : Bool} {s : List UInt8} (h1 : s.take 1 ≠ [40]) (h2 : s.take 1 ≠ [123]) (h3 : s.take 1 ≠ [63]) :
    dollarG R W q s = if nameT s = [] then (.mk 1 [36] [] q, ⟨s, false⟩) else (.mk 2 (nameT s) [] q, ⟨s.drop (nameT s).length, false⟩) := by
  unfold dollarG
  rw [if_neg (take2_ne h1), dollar_else h1 h2 h3]
theorem read_singleG {R : Rdr} {lv : Lv} (hlv : lv ≠ .dbl) (q : Bool) (acc : List Prt) {u : List UInt8} (T : List UInt8) (hu : ∀ x ∈ u, x ≠ 39) :
    readG R lv q acc ⟨39 :: (u ++ 39 :: T), false⟩ = readG R lv q (putF acc (.mk 1 u [] true)) ⟨T, false⟩ := by
  rw [readG_single _ _ _ hlv, cut_run hu]
def Sg (lv : Lv) (q : Bool) (s r : List UInt8) : Prop :=
  (∃ X : List Prt, ∀ (R : Rdr) T, (r = [] → T = []) → ∀ acc, readG R lv q acc ⟨s ++ T, false⟩ = readG R lv q (X.foldl putF acc) ⟨r ++ T, false⟩) ∨
  (∀ (R : Rdr) T, (r = [] → T = []) → ∀ acc, (readG R lv q acc ⟨s ++ T, false⟩).2.bad = true)
theorem Sg.refl (lv : Lv) (q : Bool) (s : List UInt8) : Sg lv q s s := .inl ⟨[], fun _ _ _ _ => rfl⟩
theorem Sg.trans {lv : Lv} {q : Bool} {a b c : List UInt8} (h : Sg lv q a b) (k : Sg lv q b c) (hbc : b = [] → c = []) : Sg lv q a c := by
  rcases h with ⟨X, h⟩ | h
  · rcases k with ⟨Y, k⟩ | k
    · exact .inl ⟨X ++ Y, fun R T hT acc => by rw [h R T (fun e => hT (hbc e)), k R T hT, List.foldl_append]⟩
    · exact .inr fun R T hT acc => by rw [h R T (fun e => hT (hbc e))]; exact k R T hT _
  · exact .inr fun R T hT acc => h R T (fun e => hT (hbc e)) acc
theorem Sg.one {lv : Lv} {q : Bool} {s r : List UInt8} (p : Prt) (h : ∀ (R : Rdr) T, (r = [] → T = []) → ∀ acc, readG R lv q acc ⟨s ++ T, false⟩ = readG R lv q (putF acc p) ⟨r ++ T, false⟩) : Sg lv q s r := .inl ⟨[p], h⟩
theorem Sg.single {lv : Lv} {q : Bool} {c : UInt8} {r : List UInt8} (h0 : lv.ends ≠ some c) (h1 : c ≠ 92) (h2 : c ≠ 36) (h3 : ¬ (c = 39 ∧ lv ≠ .dbl)) (h4 : ¬ (c = 34 ∧ lv ≠ .dbl)) : Sg lv q (c :: r) r :=
  Sg.one (.mk 1 [c] [] q) fun R T _ acc => readG_one q acc (r ++ T) h0 h1 h2 h3 h4
theorem Sg.letter {lv : Lv} {q : Bool} {c : UInt8} {r : List UInt8} (h : letterB c false = true) : Sg lv q (c :: r) r :=
  Sg.single (letter_ends h) (letter_ne h (by decide)) (letter_ne h (by decide)) (fun e => letter_ne (k := 39) h (by decide) e.1) (fun e => letter_ne (k := 34) h (by decide) e.1)
theorem letters_readG {R : Rdr} {lv : Lv} {q : Bool} : ∀ (l y : List UInt8), (∀ c ∈ l, letterB c false = true) → ∀ acc, readG R lv q acc ⟨l ++ y, false⟩ = readG R lv q ((l.map fun c => Prt.mk 1 [c] [] q).foldl putF acc) ⟨y, false⟩
  | [], y, _, acc => rfl
  | c :: l, y, h, acc => by
    have hc := h c List.mem_cons_self
    show readG R lv q acc ⟨c :: (l ++ y), false⟩ = _
    rw [readG_one q acc (l ++ y) (letter_ends hc) (letter_ne hc (by decide)) (letter_ne hc (by decide)) (fun e => letter_ne (k := 39) hc (by decide) e.1) (fun e => letter_ne (k := 34) hc (by decide) e.1), letters_readG l y (fun x hx => h x (List.mem_cons_of_mem _ hx))]
    rfl
theorem sg_names {lv : Lv} {q : Bool} {r : List UInt8} (h1 : r.take 1 ≠ [40]) (h2 : r.take 1 ≠ [123]) (h3 : r.take 1 ≠ [63]) : Sg lv q (36 :: r) (namesF true r) := by
  obtain ⟨l, e, g2, g3, g4⟩ := names_split true r
  obtain ⟨r', hr'⟩ : ∃ r', namesF true r = r' := ⟨_, rfl⟩
  rw [hr'] at e g4 ⊢
  have hrun : ∀ T, (r' = [] → T = []) → nameT (r ++ T) = l.take 32 := by
    intro T hT
    rw [e, List.append_assoc]
    refine nameT_run g2 g3 (fun d y hz => ?_)
    cases r' with
    | nil => rw [hT rfl] at hz; cases hz
    | cons d2 y2 =>
      have e1 : d2 = d := (List.cons.inj hz).1
      rw [← e1]
      exact g4 d2 y2 rfl
  have hne : ∀ T : List UInt8, (r' = [] → T = []) → (r = [] → T = []) := fun T hT hr => hT (by rw [hr] at e; exact (List.append_eq_nil_iff.1 e.symm).2)
  by_cases hl : l = []
  · subst hl
    have er : r = r' := e
    refine Sg.one (.mk 1 [36] [] q) fun R T hT acc => ?_
    show readG R lv q acc ⟨36 :: (r ++ T), false⟩ = _
    rw [readG_dollar, dollarG_else (take1_ne h1 T (hne T hT)) (take1_ne h2 T (hne T hT)) (take1_ne h3 T (hne T hT)), hrun T hT]
    rw [List.take_nil, if_pos rfl, er]
  · have hl32 : l.take 32 ≠ [] := fun h => hl (by
      cases l with
      | nil => rfl
      | cons c l => simp at h)
    refine .inl ⟨.mk 2 (l.take 32) [] q :: (l.drop 32).map (fun c => Prt.mk 1 [c] [] q), fun R T hT acc => ?_⟩
    show readG R lv q acc ⟨36 :: (r ++ T), false⟩ = _
    rw [readG_dollar, dollarG_else (take1_ne h1 T (hne T hT)) (take1_ne h2 T (hne T hT)) (take1_ne h3 T (hne T hT)), hrun T hT]
    rw [if_neg hl32]
    have ed : (r ++ T).drop (l.take 32).length = l.drop 32 ++ (r' ++ T) := by
      conv => lhs; arg 2; rw [e, List.append_assoc, ← List.take_append_drop 32 l, List.append_assoc]
      exact List.drop_left
    simp only
    rw [ed, letters_readG _ _ (fun c hc => g2 c (List.mem_of_mem_drop hc))]
    rfl
structure SgN (n : Nat) : Prop where
  piece : ∀ (d : Nat) (lv : Lv) (q : Bool) (c : UInt8) (r r' : List UInt8), scan n (.piece (decide (lv = .dbl))) d (c :: r) = .ok r' → lv.ends ≠ some c → (∀ T, (r' = [] → T = []) → scan n (.piece (decide (lv = .dbl))) d (c :: r ++ T) = .ok (r' ++ T)) ∧ Sg lv q (c :: r) r'
  dbl : ∀ (d : Nat) (q : Bool) (r r' : List UInt8), scan n .double d r = .ok r' → (∀ T, scan n .double d (r ++ T) = .ok (r' ++ T)) ∧ Sg .dbl q r (34 :: r')
  brc : ∀ (d : Nat) (q : Bool) (r r' : List UInt8), scan n .brace d r = .ok r' → (∀ T, scan n .brace d (r ++ T) = .ok (r' ++ T)) ∧ Sg .brc q r (125 :: r')
theorem sg_brace {lv : Lv} {q : Bool} {n d : Nat} {x r' : List UInt8} (IH : ∀ m, m ≤ n → SgN m) (h : scan n .brace d x = .ok r') : Sg lv q (36 :: 123 :: x) r' := by
  obtain ⟨l, e, g2, g3, g4⟩ := names_split true x
  obtain ⟨y0, hy0⟩ : ∃ y0, namesF true x = y0 := ⟨_, rfl⟩
  rw [hy0] at e g4
  clear hy0
  -- the name, and what is behind it
  obtain ⟨t, ht⟩ : ∃ t, l.take 32 = t := ⟨_, rfl⟩
  obtain ⟨y, hy⟩ : ∃ y, l.drop 32 ++ y0 = y := ⟨_, rfl⟩
  have ex : x = t ++ y := by rw [e, ← ht, ← hy, ← List.append_assoc, List.take_append_drop]
  obtain ⟨m, hm, hs⟩ := brace_plain t n d (y := y) (r' := r') (fun c hc => .inl (g2 c (List.mem_of_mem_take (by rw [ht]; exact hc)))) (by rw [← ex]; exact h)
  have hyne := brace_ne hs
  have hl0 : l = [] → y0 ≠ [] := fun hl hy0 => hyne (by rw [← hy, hl, hy0]; rfl)
  have hnm : ∀ T, nameT (x ++ T) = t := by
    intro T
    cases y0 with
    | nil =>
      -- all letters: more than 32 of them
      have hl33 : 32 < l.length := by
        rcases Nat.lt_or_ge 32 l.length with h1 | h1
        · exact h1
        · exfalso
          exact hyne (by rw [← hy, List.drop_eq_nil_of_le h1]; rfl)
      rw [e, List.append_nil]
      cases l with
      | nil => simp at hl33
      | cons c l =>
        show nameT (c :: (l ++ T)) = _
        unfold nameT
        simp only
        rw [if_pos (g3 c l rfl), List.takeWhile_append_of_pos (fun z hz => g2 z (List.mem_cons_of_mem _ hz)), ← List.cons_append, List.take_append_of_le_length (by omega)]
        exact ht
    | cons dd y1 =>
      rw [e, List.append_assoc, ← ht]
      exact nameT_run g2 g3 (fun d' y' hz => by
        have e1 : dd = d' := (List.cons.inj hz).1
        rw [← e1]; exact g4 dd y1 rfl)
  have hdr : ∀ T, (x ++ T).drop t.length = y ++ T := fun T => by rw [ex, List.append_assoc, List.drop_left]
  have hdol : ∀ (R : Rdr) (W : Rst → List Prt × Rst) (T : List UInt8), dollarG R W q (123 :: (x ++ T)) =
      if t = [] then (.mk 2 [] [] q, ⟨x ++ T, true⟩)
      else if (y ++ T).take 2 = [58, 45] then (.mk 3 t (W ⟨(y ++ T).drop 2, false⟩).1 q, closeR (W ⟨(y ++ T).drop 2, false⟩).2)
      else (.mk 2 t [] q, closeR ⟨y ++ T, false⟩) := by
    intro R W T
    unfold dollarG dollarR
    rw [if_neg (by simp), if_neg (by simp), if_pos (by simp)]
    simp only [List.drop_succ_cons, List.drop_zero]
    rw [hnm T, hdr T]
  by_cases ht0 : t = []
  · refine .inr fun R T hT acc => ?_
    show (readG R lv q acc ⟨36 :: 123 :: (x ++ T), false⟩).2.bad = true
    rw [readG_dollar, hdol, if_pos ht0, readG_bad]
  cases y with
  | nil => exact absurd rfl hyne
  | cons c1 y1 =>
    by_cases h125 : c1 = 125
    · subst h125
      have hr' : r' = y1 := by
        cases m with
        | zero => unfold scan at hs; cases hs
        | succ m => unfold scan at hs; simp at hs; exact hs.symm
      subst hr'
      refine Sg.one (.mk 2 t [] q) fun R T hT acc => ?_
      show readG R lv q acc ⟨36 :: 123 :: (x ++ T), false⟩ = _
      rw [readG_dollar, hdol, if_neg ht0, if_neg (by simp)]
      rfl
    · have hy1 := brace_two hs h125
      obtain ⟨c2, z, rfl⟩ : ∃ c2 z, y1 = c2 :: z := by
        cases y1 with
        | nil => exact absurd rfl hy1
        | cons c2 z => exact ⟨c2, z, rfl⟩
      by_cases h58 : c1 = 58 ∧ c2 = 45
      · obtain ⟨rfl, rfl⟩ := h58
        obtain ⟨m2, hm2, hs2⟩ := brace_plain [58, 45] m d (y := z) (r' := r') (fun c hc => by
          simp only [List.mem_cons, List.not_mem_nil, or_false] at hc
          exact hc.elim (fun h => .inr (.inl h)) (fun h => .inr (.inr h))) hs
        rcases ((IH m2 (by omega)).brc d q z r' hs2).2 with ⟨X, hX⟩ | hX
        · refine Sg.one (.mk 3 t (X.foldl putF []) q) fun R T hT acc => ?_
          show readG R lv q acc ⟨36 :: 123 :: (x ++ T), false⟩ = _
          have hw : readG R .brc q [] ⟨z ++ T, false⟩ = (X.foldl putF [], ⟨125 :: (r' ++ T), false⟩) := by
            rw [hX R T (fun h => by cases h) []]
            exact readG_end _ _ _ _ rfl
          rw [readG_dollar, hdol, if_neg ht0, if_pos (by simp)]
          show readG R lv q (putF acc (.mk 3 t (readG R .brc q [] ⟨z ++ T, false⟩).1 q)) (closeR (readG R .brc q [] ⟨z ++ T, false⟩).2) = _
          rw [hw]
          rfl
        · refine .inr fun R T hT acc => ?_
          show (readG R lv q acc ⟨36 :: 123 :: (x ++ T), false⟩).2.bad = true
          have hw := hX R T (fun h => by cases h) []
          rw [readG_dollar, hdol, if_neg ht0, if_pos (by simp)]
          show (readG R lv q _ (closeR (readG R .brc q [] ⟨z ++ T, false⟩).2)).2.bad = true
          obtain ⟨st, hst⟩ : ∃ st, (readG R .brc q [] ⟨z ++ T, false⟩).2 = st := ⟨_, rfl⟩
          rw [hst] at hw ⊢
          obtain ⟨s9, b9⟩ := st
          obtain rfl : b9 = true := hw
          show (readG R lv q _ ⟨s9, true⟩).2.bad = true
          rw [readG_bad]
      · refine .inr fun R T hT acc => ?_
        show (readG R lv q acc ⟨36 :: 123 :: (x ++ T), false⟩).2.bad = true
        rw [readG_dollar, hdol, if_neg ht0, if_neg (by simpa using h58)]
        have : closeR ⟨c1 :: c2 :: z ++ T, false⟩ = ⟨c1 :: c2 :: z ++ T, true⟩ := by
          unfold closeR; simp [h125]
        rw [this, readG_bad]
theorem sgnc_piece {n : Nat} (IH : ∀ m, m ≤ n → SgN m) (d : Nat) (lv : Lv) (q : Bool) (c : UInt8) (r r' : List UInt8) (h : scan (n + 1) (.piece (decide (lv = .dbl))) d (c :: r) = .ok r') (h0 : lv.ends ≠ some c) :
    (∀ T, (r' = [] → T = []) → scan (n + 1) (.piece (decide (lv = .dbl))) d (c :: r ++ T) = .ok (r' ++ T)) ∧ Sg lv q (c :: r) r' := by
  have hb : decide (lv = .dbl) = false ↔ lv ≠ .dbl := by simp
  obtain ⟨b, hbb⟩ : ∃ b, decide (lv = .dbl) = b := ⟨_, rfl⟩
  rw [hbb] at h hb ⊢
  have ext : ∀ T, scan (n + 1) (.piece b) d (c :: r ++ T) = scan (n + 1) (.piece b) d (c :: (r ++ T)) := fun T => rfl
  unfold scan at h
  simp only at h
  by_cases h92 : c = 92
  · rw [if_pos h92] at h
    obtain ⟨e, rfl, he⟩ := pair_split h
    subst h92
    refine ⟨fun T hT => ?_, ?_⟩
    · rw [ext]
      unfold scan
      simp only [if_true]
      show pairF (e :: (r' ++ T)) = _
      unfold pairF; simp [he]
    · refine Sg.one (pairR lv [e]).1 fun R T hT acc => ?_
      show readG R lv q acc ⟨92 :: e :: (r' ++ T), false⟩ = _
      rw [readG_pair]
      rfl
  rw [if_neg h92] at h
  by_cases h39 : c = 39 ∧ b = false
  · rw [if_pos h39] at h
    obtain ⟨u, rfl, hu⟩ := until_split h
    obtain ⟨rfl, hb0⟩ := h39
    have hlv := hb.1 hb0
    refine ⟨fun T hT => ?_, ?_⟩
    · rw [ext]
      unfold scan
      simp only
      rw [if_neg (by decide), if_pos (by simp [hb0]), List.append_assoc, List.cons_append, until_run' hu]
    · refine Sg.one (.mk 1 u [] true) fun R T hT acc => ?_
      have e1 : (39 :: (u ++ 39 :: r') ++ T : List UInt8) = 39 :: (u ++ 39 :: (r' ++ T)) := by simp
      rw [e1, read_singleG hlv _ _ _ hu]
  rw [if_neg h39] at h
  by_cases h34 : c = 34 ∧ b = false
  · rw [if_pos h34] at h
    obtain ⟨rfl, hb0⟩ := h34
    have hlv := hb.1 hb0
    split at h
    · cases h
    · rename_i hd
      obtain ⟨hx, hy⟩ := (IH n (Nat.le_refl _)).dbl (d + 1) true r r' h
      refine ⟨fun T hT => ?_, ?_⟩
      · rw [ext]
        unfold scan
        simp only
        rw [if_neg (by decide), if_neg (fun e => by cases e.1), if_pos (by simp [hb0]), if_neg hd]
        exact hx T
      · rcases hy with ⟨X, hX⟩ | hX
        · refine .inl ⟨quoted0 (X.foldl putF []), fun R T hT acc => ?_⟩
          have hw : readG R .dbl true [] ⟨r ++ T, false⟩ = (X.foldl putF [], ⟨34 :: (r' ++ T), false⟩) := by
            rw [hX R T (fun e => by cases e) []]
            exact readG_end _ _ _ _ rfl
          show readG R lv q acc ⟨34 :: (r ++ T), false⟩ = _
          rw [readG_double _ _ _ hlv, hw]
          rfl
        · refine .inr fun R T hT acc => ?_
          have hw := hX R T (fun e => by cases e) []
          show (readG R lv q acc ⟨34 :: (r ++ T), false⟩).2.bad = true
          rw [readG_double _ _ _ hlv]
          rw [hw, readG_bad]
  rw [if_neg h34] at h
  by_cases h36 : c = 36
  · rw [if_pos h36] at h
    subst h36
    have start : ∀ T, scan (n + 1) (.piece b) d (36 :: (r ++ T)) = (if (r ++ T).take 2 = [40, 40] then arithF 0 ((r ++ T).drop 2) else if (r ++ T).take 1 = [40] then .error 5 else if (r ++ T).take 1 = [123] then (if 16 < d + 1 then .error 12 else scan n .brace (d + 1) ((r ++ T).drop 1)) else if (r ++ T).take 1 = [63] then .ok ((r ++ T).drop 1) else .ok (namesF true (r ++ T))) := by
      intro T
      conv => lhs; unfold scan
      simp only
      rw [if_neg (by decide), if_neg (fun e => by cases e.1), if_neg (fun e => by cases e.1), if_pos trivial]
    by_cases h2 : r.take 2 = [40, 40]
    · rw [if_pos h2] at h
      obtain ⟨s, rfl⟩ : ∃ s, r = 40 :: 40 :: s := by
        cases r with
        | nil => cases h2
        | cons a r =>
          cases r with
          | nil => simp at h2
          | cons a2 r => simp at h2; exact ⟨r, by rw [h2.1, h2.2]⟩
      obtain ⟨t, ht⟩ := arith_both s 0 h
      refine ⟨fun T hT => ?_, ?_⟩
      · rw [ext, start, if_pos (by simp)]
        exact (ht T).1
      · refine Sg.one (.mk 5 t [] q) fun R T hT acc => ?_
        show readG R lv q acc ⟨36 :: 40 :: 40 :: (s ++ T), false⟩ = _
        rw [readG_dollar]
        have : dollarG R (readG R .brc q []) q (40 :: 40 :: (s ++ T)) = (.mk 5 t [] q, ⟨r' ++ T, false⟩) := by
          unfold dollarG
          rw [if_pos (by simp)]
          simp only [List.drop_succ_cons, List.drop_zero, R.arOk s r' h T, (ht T).2]
        rw [this]
    rw [if_neg h2] at h
    by_cases h40 : r.take 1 = [40]
    · rw [if_pos h40] at h; cases h
    rw [if_neg h40] at h
    by_cases h123 : r.take 1 = [123]
    · rw [if_pos h123] at h
      obtain ⟨x, rfl⟩ : ∃ x, r = 123 :: x := by
        cases r with
        | nil => cases h123
        | cons a r => simp at h123; exact ⟨r, by rw [h123]⟩
      split at h
      · cases h
      · rename_i hd
        have hs : scan n .brace (d + 1) x = .ok r' := h
        refine ⟨fun T hT => ?_, sg_brace IH hs⟩
        rw [ext, start, if_neg (by simp), if_neg (by simp), if_pos (by simp), if_neg hd]
        exact ((IH n (Nat.le_refl _)).brc (d + 1) q x r' hs).1 T
    rw [if_neg h123] at h
    by_cases h63 : r.take 1 = [63]
    · rw [if_pos h63] at h
      obtain ⟨x, rfl⟩ : ∃ x, r = 63 :: x := by
        cases r with
        | nil => cases h63
        | cons a r => simp at h63; exact ⟨r, by rw [h63]⟩
      cases h
      refine ⟨fun T hT => ?_, ?_⟩
      · rw [ext, start, if_neg (by simp), if_neg (by simp), if_neg (by simp), if_pos (by simp)]
        rfl
      · refine Sg.one (.mk 4 [] [] q) fun R T hT acc => ?_
        show readG R lv q acc ⟨36 :: 63 :: (x ++ T), false⟩ = _
        rw [readG_dollar]
        have : dollarG R (readG R .brc q []) q (63 :: (x ++ T)) = (.mk 4 [] [] q, ⟨x ++ T, false⟩) := by
          unfold dollarG dollarR
          rw [if_neg (by simp), if_neg (by simp), if_neg (by simp), if_pos (by simp)]
          rfl
        rw [this]
        rfl
    rw [if_neg h63] at h
    have hr' : namesF true r = r' := by cases h; rfl
    refine ⟨fun T hT => ?_, by rw [← hr']; exact sg_names h40 h123 h63⟩
    have hrT : r = [] → T = [] := fun e => hT (by rw [← hr', e]; rfl)
    rw [ext, start, if_neg (take2_ne (take1_ne h40 T hrT)), if_neg (take1_ne h40 T hrT), if_neg (take1_ne h123 T hrT), if_neg (take1_ne h63 T hrT)]
    congr 1
    rw [← hr']
    have key : ∀ (first : Bool) (x : List UInt8), (namesF first x = [] → T = []) → namesF first (x ++ T) = namesF first x ++ T := by
      intro first x
      induction x generalizing first with
      | nil => intro hx; rw [hx rfl]; rfl
      | cons a x ih =>
        intro hx
        show namesF first (a :: (x ++ T)) = _
        unfold namesF at hx ⊢
        by_cases ha : letterB a first = true
        · rw [if_pos ha] at hx ⊢
          rw [if_pos ha]
          exact ih false hx
        · rw [if_neg ha, if_neg ha]; rfl
    exact key true r (by rw [hr']; exact hT)
  rw [if_neg h36] at h
  by_cases h96 : c = 96 ∨ b = false ∧ (c = 40 ∨ c = 41)
  · rw [if_pos h96] at h; cases h
  rw [if_neg h96] at h
  cases h
  refine ⟨fun T hT => ?_, Sg.single h0 h92 h36 (fun e => h39 ⟨e.1, hb.2 e.2⟩) (fun e => h34 ⟨e.1, hb.2 e.2⟩)⟩
  rw [ext]
  unfold scan
  simp only
  rw [if_neg h92, if_neg h39, if_neg h34, if_neg h36, if_neg h96]
theorem sgnc (n : Nat) : SgN n := by
  induction n using Nat.strongRecOn with
  | ind n ih =>
    cases n with
    | zero =>
      refine ⟨fun d lv q c r r' h _ => ?_, fun d q r r' h => ?_, fun d q r r' h => ?_⟩ <;> (unfold scan at h; cases h)
    | succ n =>
      have IH : ∀ m, m ≤ n → SgN m := fun m hm => ih m (by omega)
      refine ⟨sgnc_piece IH, fun d q r r' h => ?_, fun d q r r' h => ?_⟩
      · cases r with
        | nil => unfold scan at h; cases h
        | cons c r =>
          unfold scan at h
          simp only at h
          by_cases h34 : c = 34
          · rw [if_pos h34] at h
            cases h
            subst h34
            refine ⟨fun T => ?_, Sg.refl _ _ _⟩
            show scan (n + 1) .double d (34 :: (r' ++ T)) = _
            unfold scan; simp
          · rw [if_neg h34] at h
            split at h
            · cases h
            · rename_i r1 h1
              have hne : r1 ≠ [] := fun e => by
                subst e
                cases n with
                | zero => unfold scan at h; cases h
                | succ n => unfold scan at h; cases h
              obtain ⟨p1, p2⟩ := (IH n (Nat.le_refl _)).piece d .dbl q c r r1 h1 (fun e => h34 (Option.some.inj e).symm)
              obtain ⟨d1, d2⟩ := (IH n (Nat.le_refl _)).dbl d q r1 r' h
              refine ⟨fun T => ?_, p2.trans d2 (fun e => absurd e hne)⟩
              have e1 := p1 T (fun e => absurd e hne)
              show scan (n + 1) .double d (c :: (r ++ T)) = _
              unfold scan
              simp only
              rw [if_neg h34]
              have e2 : scan n (.piece true) d (c :: (r ++ T)) = .ok (r1 ++ T) := e1
              rw [e2]
              exact d1 T
      · cases r with
        | nil => unfold scan at h; cases h
        | cons c r =>
          unfold scan at h
          simp only at h
          by_cases h125 : c = 125
          · rw [if_pos h125] at h
            cases h
            subst h125
            refine ⟨fun T => ?_, Sg.refl _ _ _⟩
            show scan (n + 1) .brace d (125 :: (r' ++ T)) = _
            unfold scan; simp
          · rw [if_neg h125] at h
            by_cases h10 : c = 10
            · rw [if_pos h10] at h; cases h
            rw [if_neg h10] at h
            by_cases hbr : braceB c = true
            · rw [if_pos hbr] at h
              obtain ⟨d1, d2⟩ := (IH n (Nat.le_refl _)).brc d q r r' h
              have hc : ∀ k, braceB k = false → c ≠ k := fun k hk e => by rw [e, hk] at hbr; cases hbr
              refine ⟨fun T => ?_, (Sg.single (lv := .brc) (fun e => h125 (Option.some.inj e).symm) (hc 92 (by decide)) (hc 36 (by decide)) (fun e => hc 39 (by decide) e.1) (fun e => hc 34 (by decide) e.1)).trans d2 (fun e => absurd e (brace_ne h))⟩
              show scan (n + 1) .brace d (c :: (r ++ T)) = _
              unfold scan
              simp only
              rw [if_neg h125, if_neg h10, if_pos hbr]
              exact d1 T
            · rw [if_neg hbr] at h
              split at h
              · cases h
              · rename_i r1 h1
                have hne := brace_ne h
                obtain ⟨p1, p2⟩ := (IH n (Nat.le_refl _)).piece d .brc q c r r1 h1 (fun e => h125 (Option.some.inj e).symm)
                obtain ⟨d1, d2⟩ := (IH n (Nat.le_refl _)).brc d q r1 r' h
                refine ⟨fun T => ?_, p2.trans d2 (fun e => absurd e hne)⟩
                have e1 := p1 T (fun e => absurd e hne)
                show scan (n + 1) .brace d (c :: (r ++ T)) = _
                unfold scan
                simp only
                rw [if_neg h125, if_neg h10, if_neg hbr]
                have e2 : scan n (.piece false) d (c :: (r ++ T)) = .ok (r1 ++ T) := e1
                rw [e2]
                exact d1 T

end Go.Proofs.YtifcgeanippepaaDoor
/- strings.HasPrefix, CutPrefix. -/
namespace Go.Proofs.YtifcgeanippepaaDoor
open Go Go.RowKit Go.Lw
set_option maxRecDepth 100000
set_option linter.unusedVariables false
attribute [local go_sem] BA_toList
set_option maxHeartbeats 1000000 in
theorem haspl_any (w : World) (l p : List UInt8) (hl : l.length ≤ 4000000000000000000) (hp : p.length ≤ 4000000000000000000) (b : Bool) (hb : (l.take p.length == p) = b) :
    Calls Tryd.prog 93 #[.string (BA l), .string (BA p)] w fun e w' => e = .returned (.bool b) ∧ w = w' := by
  have h1 := BA_size l; have h2 := BA_size p
  have h3 := BA_head l p.length
  have HB := Lw.hid hb
  obtain ⟨n, hn⟩ : ∃ n, l.length = n := ⟨_, rfl⟩
  obtain ⟨m, hm⟩ : ∃ m, p.length = m := ⟨_, rfl⟩
  have HN := Lw.hid hn; have HM := Lw.hid hm
  rw [hn] at h1 hl
  rw [hm] at h2 h3 hp
  clear hb hn hm
  by_cases hnm : m ≤ n
  · go_enter Tryd.func93, Tryd.ntmps93
    go_wp2_with fail
    go_ret
    have h := HB.out
    rw [HM.out] at h
    rw [h]
    exact ⟨rfl, rfl⟩
  · have hf : Hid (b = false) := Lw.hid (by
      rw [← HB.out]
      apply beq_eq_false_iff_ne.2
      intro h
      have := congrArg List.length h
      rw [List.length_take, HM.out, HN.out] at this
      omega)
    go_enter Tryd.func93, Tryd.ntmps93
    go_wp2_with fail
    go_ret
    rw [hf.out]
    exact ⟨rfl, rfl⟩
theorem hasp_any (w : World) (l p : List UInt8) (hl : l.length ≤ 4000000000000000000) (hp : p.length ≤ 4000000000000000000) (b : Bool) (hb : (l.take p.length == p) = b) :
    Calls Tryd.prog 55 #[.string (BA l), .string (BA p)] w fun e w' => e = .returned (.bool b) ∧ w = w' := by
  have HB := Lw.hid hb
  clear hb
  go_enter Tryd.func55, Tryd.ntmps55
  go_wp2_with fail
  refine (haspl_any w l p hl hp b HB.out).mono ?_
  rintro e _ ⟨rfl, rfl⟩
  go_wp2_with fail
  go_ret
  exact ⟨rfl, rfl⟩
/-- What CutPrefix tells. -/
def cutpF (l p : List UInt8) : List UInt8 × Bool := if (l.take p.length == p) = true then (l.drop p.length, true) else (l, false)
theorem cutpl_any (w : World) (l p : List UInt8) (hl : l.length ≤ 4000000000000000000) (hp : p.length ≤ 4000000000000000000) :
    Calls Tryd.prog 125 #[.string (BA l), .string (BA p)] w fun e w' => e = .returned (.tuple #[.string (BA (cutpF l p).1), .bool (cutpF l p).2]) ∧ w = w' := by
  have h1 := BA_size l; have h2 := BA_size p
  have h3 := BA_tail l p.length l.length rfl
  obtain ⟨b, hb⟩ : ∃ b, (l.take p.length == p) = b := ⟨_, rfl⟩
  have HB := Lw.hid hb
  have hle : b = true → p.length ≤ l.length := fun h => by
    rw [h] at hb
    have := congrArg List.length (eq_of_beq hb)
    rw [List.length_take] at this; omega
  clear hb
  cases b with
  | true =>
    have hc : Hid (cutpF l p = (l.drop p.length, true)) := Lw.hid (if_pos HB.out)
    have hle' := hle rfl
    have HP := Lw.hid (haspl_any w l p hl hp true HB.out)
    clear hle
    go_enter Tryd.func125, Tryd.ntmps125
    go_wp2_with fail
    refine HP.out.mono ?_
    rintro e _ ⟨rfl, rfl⟩
    go_wp2_with fail
    go_ret2
    rw [hc.out]
    exact ⟨rfl, rfl⟩
  | false =>
    have hc : Hid (cutpF l p = (l, false)) := Lw.hid (if_neg (by rw [HB.out]; simp))
    have HP := Lw.hid (haspl_any w l p hl hp false HB.out)
    clear hle
    go_enter Tryd.func125, Tryd.ntmps125
    go_wp2_with fail
    refine HP.out.mono ?_
    rintro e _ ⟨rfl, rfl⟩
    go_wp2_with fail
    go_ret2
    rw [hc.out]
    exact ⟨rfl, rfl⟩
theorem cutp_any (w : World) (l p : List UInt8) (hl : l.length ≤ 4000000000000000000) (hp : p.length ≤ 4000000000000000000) :
    Calls Tryd.prog 110 #[.string (BA l), .string (BA p)] w fun e w' => e = .returned (.tuple #[.string (BA (cutpF l p).1), .bool (cutpF l p).2]) ∧ w = w' := by
  go_enter Tryd.func110, Tryd.ntmps110
  go_wp2_with fail
  refine (cutpl_any w l p hl hp).mono ?_
  rintro e _ ⟨rfl, rfl⟩
  go_wp2_with fail
  go_ret2
  exact ⟨rfl, rfl⟩
end Go.Proofs.YtifcgeanippepaaDoor
