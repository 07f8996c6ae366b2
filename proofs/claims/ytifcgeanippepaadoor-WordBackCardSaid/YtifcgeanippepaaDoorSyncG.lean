/- Words, plain: what lexing takes as a piece is read as good parts. -/
import Derived.Test.YtifcgeanippepaaDoorGoodW
namespace Go.Proofs.YtifcgeanippepaaDoor
open Go Go.RowKit Go.Lw
set_option linter.unusedVariables false
set_option linter.unusedSimpArgs false
theorem syg_names {lv : Lv} {q : Bool} {r : List UInt8} (h1 : r.take 1 ≠ [40]) (h2 : r.take 1 ≠ [123]) (h3 : r.take 1 ≠ [63]) : SyG lv q (36 :: r) (namesF true r) := by
  obtain ⟨l, e, g2, g3, g4⟩ := names_split true r
  obtain ⟨r', hr'⟩ : ∃ r', namesF true r = r' := ⟨_, rfl⟩
  rw [hr'] at e g4 ⊢
  have hrun : ∀ T, (r' = [] → T = []) → nameT (r ++ T) = l.take 32 := by
    intro T hT
    rw [e, List.append_assoc]
    refine nameT_run g2 g3 (fun d y hz => ?_)
    cases r' with
    | nil => rw [hT rfl] at hz; cases hz
    | cons d2 y2 =>
      have e1 : d2 = d := (List.cons.inj hz).1
      rw [← e1]
      exact g4 d2 y2 rfl
  have hne : ∀ T : List UInt8, (r' = [] → T = []) → (r = [] → T = []) := fun T hT hr => hT (by rw [hr] at e; exact (List.append_eq_nil_iff.1 e.symm).2)
  by_cases hl : l = []
  · subst hl
    have er : r = r' := e
    refine .inl ⟨[.mk 1 [36] [] q], ?_, fun T hT acc => ?_⟩
    · rw [← er]
      refine rg_one (fun _ => ⟨⟨by decide, by decide, by decide, by decide, by decide, fun _ => by decide, fun _ => ⟨by decide, by decide, by decide⟩⟩, fun _ x y hxy => ?_⟩)
      subst hxy
      have hx1 : letterB x true = false := g4 x y er.symm
      unfold stopB
      rw [hx1]
      have a1 : x ≠ 40 := fun e => h1 (by rw [e]; rfl)
      have a2 : x ≠ 123 := fun e => h2 (by rw [e]; rfl)
      have a3 : x ≠ 63 := fun e => h3 (by rw [e]; rfl)
      simp [a1, a2, a3]
    show wordW lv q acc ⟨36 :: (r ++ T), false⟩ = _
    rw [wordW_dollar, dollar_else (take1_ne h1 T (hne T hT)) (take1_ne h2 T (hne T hT)) (take1_ne h3 T (hne T hT)), hrun T hT]
    rw [List.take_nil, if_pos rfl, er]
    rfl
  · have hl32 : l.take 32 ≠ [] := fun h => hl (by
      cases l with
      | nil => rfl
      | cons c l => simp at h)
    refine .inl ⟨.mk 2 (l.take 32) [] q :: (l.drop 32).map (fun c => Prt.mk 1 [c] [] q), ?_, fun T hT acc => ?_⟩
    · refine .oth _ (l.drop 32 ++ r') _ _ _ (.name _ _ _ _ (fun h => h) ⟨hl32, by rw [List.length_take]; omega, fun c l' e2 => ?_, fun c hc => g2 c (List.mem_of_mem_take hc)⟩) (fun e => by cases e.1) (rg_letters r' _ (fun c hc => g2 c (List.mem_of_mem_drop hc)))
      cases l with
      | nil => cases e2
      | cons a l => cases e2; exact g3 _ _ rfl
    show wordW lv q acc ⟨36 :: (r ++ T), false⟩ = _
    rw [wordW_dollar, dollar_else (take1_ne h1 T (hne T hT)) (take1_ne h2 T (hne T hT)) (take1_ne h3 T (hne T hT)), hrun T hT]
    rw [if_neg hl32]
    have ed : (r ++ T).drop (l.take 32).length = l.drop 32 ++ (r' ++ T) := by
      conv => lhs; arg 2; rw [e, List.append_assoc, ← List.take_append_drop 32 l, List.append_assoc]
      exact List.drop_left
    simp only
    rw [ed, letters_read _ _ (fun c hc => g2 c (List.mem_of_mem_drop hc))]
    rfl
/-- What is said of n steps. -/
structure SyNG (n : Nat) : Prop where
  piece : ∀ (d : Nat) (lv : Lv) (q : Bool) (c : UInt8) (r r' : List UInt8), scan n (.piece (decide (lv = .dbl))) d (c :: r) = .ok r' → lv.ends ≠ some c → (lv = .dbl → q = true) → (q = false → c ≠ 10 ∧ (lv = .brc → c ≠ 125) ∧ (lv = .bare → endB c = false)) →
    (∀ T, (r' = [] → T = []) → scan n (.piece (decide (lv = .dbl))) d (c :: r ++ T) = .ok (r' ++ T)) ∧ SyG lv q (c :: r) r'
  dbl : ∀ (d : Nat) (r r' : List UInt8), scan n .double d r = .ok r' → (∀ T, scan n .double d (r ++ T) = .ok (r' ++ T)) ∧ SyG .dbl true r (34 :: r')
  brc : ∀ (d : Nat) (q : Bool) (r r' : List UInt8), scan n .brace d r = .ok r' → (∀ T, scan n .brace d (r ++ T) = .ok (r' ++ T)) ∧ SyG .brc q r (125 :: r')
theorem syg_brace {lv : Lv} {q : Bool} {n d : Nat} {x r' : List UInt8} (IH : ∀ m, m ≤ n → SyNG m) (h : scan n .brace d x = .ok r') : SyG lv q (36 :: 123 :: x) r' := by
  obtain ⟨l, e, g2, g3, g4⟩ := names_split true x
  obtain ⟨y0, hy0⟩ : ∃ y0, namesF true x = y0 := ⟨_, rfl⟩
  rw [hy0] at e g4
  clear hy0
  -- the name, and what is behind it
  obtain ⟨t, ht⟩ : ∃ t, l.take 32 = t := ⟨_, rfl⟩
  obtain ⟨y, hy⟩ : ∃ y, l.drop 32 ++ y0 = y := ⟨_, rfl⟩
  have ex : x = t ++ y := by rw [e, ← ht, ← hy, ← List.append_assoc, List.take_append_drop]
  obtain ⟨m, hm, hs⟩ := brace_plain t n d (y := y) (r' := r') (fun c hc => .inl (g2 c (List.mem_of_mem_take (by rw [ht]; exact hc)))) (by rw [← ex]; exact h)
  have hyne := brace_ne hs
  have hl0 : l = [] → y0 ≠ [] := fun hl hy0 => hyne (by rw [← hy, hl, hy0]; rfl)
  have hnm : ∀ T, nameT (x ++ T) = t := by
    intro T
    cases y0 with
    | nil =>
      -- all letters: more than 32 of them
      have hl33 : 32 < l.length := by
        rcases Nat.lt_or_ge 32 l.length with h1 | h1
        · exact h1
        · exfalso
          exact hyne (by rw [← hy, List.drop_eq_nil_of_le h1]; rfl)
      rw [e, List.append_nil]
      cases l with
      | nil => simp at hl33
      | cons c l =>
        show nameT (c :: (l ++ T)) = _
        unfold nameT
        simp only
        rw [if_pos (g3 c l rfl), List.takeWhile_append_of_pos (fun z hz => g2 z (List.mem_cons_of_mem _ hz)), ← List.cons_append, List.take_append_of_le_length (by omega)]
        exact ht
    | cons dd y1 =>
      rw [e, List.append_assoc, ← ht]
      exact nameT_run g2 g3 (fun d' y' hz => by
        have e1 : dd = d' := (List.cons.inj hz).1
        rw [← e1]; exact g4 dd y1 rfl)
  have hdr : ∀ T, (x ++ T).drop t.length = y ++ T := fun T => by rw [ex, List.append_assoc, List.drop_left]
  have hdol : ∀ (W : Rst → List Prt × Rst) (T : List UInt8), dollarR W q (123 :: (x ++ T)) =
      if t = [] then (.mk 2 [] [] q, ⟨x ++ T, true⟩)
      else if (y ++ T).take 2 = [58, 45] then (.mk 3 t (W ⟨(y ++ T).drop 2, false⟩).1 q, closeR (W ⟨(y ++ T).drop 2, false⟩).2)
      else (.mk 2 t [] q, closeR ⟨y ++ T, false⟩) := by
    intro W T
    unfold dollarR
    rw [if_neg (by simp), if_pos (by simp)]
    simp only [List.drop_succ_cons, List.drop_zero]
    rw [hnm T, hdr T]
  have htk : t ≠ [] → nameOK t := fun h0 => ⟨h0, by rw [← ht, List.length_take]; omega, fun c l' e2 => by
    cases l with
    | nil => rw [← ht] at e2; cases e2
    | cons a l => rw [← ht] at e2; cases e2; exact g3 _ _ rfl, fun c hc => g2 c (List.mem_of_mem_take (by rw [ht]; exact hc))⟩
  by_cases ht0 : t = []
  · refine .inr fun T hT acc => ?_
    show (wordW lv q acc ⟨36 :: 123 :: (x ++ T), false⟩).2.bad = true
    rw [wordW_dollar, hdol, if_pos ht0, wordW_bad]
  have htok := htk ht0
  cases y with
  | nil => exact absurd rfl hyne
  | cons c1 y1 =>
    by_cases h125 : c1 = 125
    · subst h125
      have hr' : r' = y1 := by
        cases m with
        | zero => unfold scan at hs; cases hs
        | succ m => unfold scan at hs; simp at hs; exact hs.symm
      subst hr'
      refine SyG.one (.mk 2 t [] q) (.name _ _ _ _ (fun h => h) htok) (fun e => by cases e.1) fun T hT acc => ?_
      show wordW lv q acc ⟨36 :: 123 :: (x ++ T), false⟩ = _
      rw [wordW_dollar, hdol, if_neg ht0, if_neg (by simp)]
      rfl
    · have hy1 := brace_two hs h125
      obtain ⟨c2, z, rfl⟩ : ∃ c2 z, y1 = c2 :: z := by
        cases y1 with
        | nil => exact absurd rfl hy1
        | cons c2 z => exact ⟨c2, z, rfl⟩
      by_cases h58 : c1 = 58 ∧ c2 = 45
      · obtain ⟨rfl, rfl⟩ := h58
        obtain ⟨m2, hm2, hs2⟩ := brace_plain [58, 45] m d (y := z) (r' := r') (fun c hc => by
          simp only [List.mem_cons, List.not_mem_nil, or_false] at hc
          exact hc.elim (fun h => .inr (.inl h)) (fun h => .inr (.inr h))) hs
        rcases ((IH m2 (by omega)).brc d q z r' hs2).2 with ⟨X, hXg, hX⟩ | hX
        · refine SyG.one (.mk 3 t (X.foldl putF []) q) (.dflt _ _ _ _ _ (fun h => h) htok hXg.good.1 hXg.good.2) (fun e => by cases e.1) fun T hT acc => ?_
          show wordW lv q acc ⟨36 :: 123 :: (x ++ T), false⟩ = _
          have hw : wordW .brc q [] ⟨z ++ T, false⟩ = (X.foldl putF [], ⟨125 :: (r' ++ T), false⟩) := by
            rw [hX T (fun h => by cases h) []]
            exact wordW_end _ _ _ _ rfl
          rw [wordW_dollar, hdol, if_neg ht0, if_pos (by simp)]
          show wordW lv q (putF acc (.mk 3 t (wordW .brc q [] ⟨z ++ T, false⟩).1 q)) (closeR (wordW .brc q [] ⟨z ++ T, false⟩).2) = _
          rw [hw]
          rfl
        · refine .inr fun T hT acc => ?_
          show (wordW lv q acc ⟨36 :: 123 :: (x ++ T), false⟩).2.bad = true
          have hw := hX T (fun h => by cases h) []
          rw [wordW_dollar, hdol, if_neg ht0, if_pos (by simp)]
          show (wordW lv q _ (closeR (wordW .brc q [] ⟨z ++ T, false⟩).2)).2.bad = true
          obtain ⟨st, hst⟩ : ∃ st, (wordW .brc q [] ⟨z ++ T, false⟩).2 = st := ⟨_, rfl⟩
          rw [hst] at hw ⊢
          obtain ⟨s9, b9⟩ := st
          obtain rfl : b9 = true := hw
          show (wordW lv q _ ⟨s9, true⟩).2.bad = true
          rw [wordW_bad]
      · refine .inr fun T hT acc => ?_
        show (wordW lv q acc ⟨36 :: 123 :: (x ++ T), false⟩).2.bad = true
        rw [wordW_dollar, hdol, if_neg ht0, if_neg (by simpa using h58)]
        have : closeR ⟨c1 :: c2 :: z ++ T, false⟩ = ⟨c1 :: c2 :: z ++ T, true⟩ := by
          unfold closeR; simp [h125]
        rw [this, wordW_bad]
theorem syncg_piece {n : Nat} (IH : ∀ m, m ≤ n → SyNG m) (d : Nat) (lv : Lv) (q : Bool) (c : UInt8) (r r' : List UInt8) (h : scan (n + 1) (.piece (decide (lv = .dbl))) d (c :: r) = .ok r') (h0 : lv.ends ≠ some c) (hdq : lv = .dbl → q = true) (hlit : q = false → c ≠ 10 ∧ (lv = .brc → c ≠ 125) ∧ (lv = .bare → endB c = false)) :
    (∀ T, (r' = [] → T = []) → scan (n + 1) (.piece (decide (lv = .dbl))) d (c :: r ++ T) = .ok (r' ++ T)) ∧ SyG lv q (c :: r) r' := by
  have hb : decide (lv = .dbl) = false ↔ lv ≠ .dbl := by simp
  obtain ⟨b, hbb⟩ : ∃ b, decide (lv = .dbl) = b := ⟨_, rfl⟩
  rw [hbb] at h hb ⊢
  have ext : ∀ T, scan (n + 1) (.piece b) d (c :: r ++ T) = scan (n + 1) (.piece b) d (c :: (r ++ T)) := fun T => rfl
  unfold scan at h
  simp only at h
  by_cases h92 : c = 92
  · rw [if_pos h92] at h
    obtain ⟨e, rfl, he⟩ := pair_split h
    subst h92
    refine ⟨fun T hT => ?_, ?_⟩
    · rw [ext]
      unfold scan
      simp only [if_true]
      show pairF (e :: (r' ++ T)) = _
      unfold pairF; simp [he]
    · refine SyG.one (pairR lv [e]).1 (.quo _ _ _) (fun e => by cases e.2) fun T hT acc => ?_
      show wordW lv q acc ⟨92 :: e :: (r' ++ T), false⟩ = _
      rw [wordW_pair]
      rfl
  rw [if_neg h92] at h
  by_cases h39 : c = 39 ∧ b = false
  · rw [if_pos h39] at h
    obtain ⟨u, rfl, hu⟩ := until_split h
    obtain ⟨rfl, hb0⟩ := h39
    have hlv := hb.1 hb0
    refine ⟨fun T hT => ?_, ?_⟩
    · rw [ext]
      unfold scan
      simp only
      rw [if_neg (by decide), if_pos (by simp [hb0]), List.append_assoc, List.cons_append, until_run' hu]
    · refine SyG.one (.mk 1 u [] true) (.quo _ _ _) (fun e => by cases e.2) fun T hT acc => ?_
      have e1 : (39 :: (u ++ 39 :: r') ++ T : List UInt8) = 39 :: (u ++ 39 :: (r' ++ T)) := by simp
      rw [e1, read_single hlv _ _ _ hu]
  rw [if_neg h39] at h
  by_cases h34 : c = 34 ∧ b = false
  · rw [if_pos h34] at h
    obtain ⟨rfl, hb0⟩ := h34
    have hlv := hb.1 hb0
    split at h
    · cases h
    · rename_i hd
      obtain ⟨hx, hy⟩ := (IH n (Nat.le_refl _)).dbl (d + 1) r r' h
      refine ⟨fun T hT => ?_, ?_⟩
      · rw [ext]
        unfold scan
        simp only
        rw [if_neg (by decide), if_neg (fun e => by cases e.1), if_pos (by simp [hb0]), if_neg hd]
        exact hx T
      · rcases hy with ⟨X, hXg, hX⟩ | hX
        · refine .inl ⟨quoted0 (X.foldl putF []), Rg.many _ _ (by unfold quoted0; split <;> simp_all) (fun x hx => ?_), fun T hT acc => ?_⟩
          · unfold quoted0 at hx
            split at hx
            · rw [List.mem_singleton.1 hx]; exact ⟨.quo _ _ _, rfl⟩
            · have hg := hXg.good.1 x hx
              exact ⟨hg.any hg.quoted, hg.quoted⟩
          have hw : wordW .dbl true [] ⟨r ++ T, false⟩ = (X.foldl putF [], ⟨34 :: (r' ++ T), false⟩) := by
            rw [hX T (fun e => by cases e) []]
            exact wordW_end _ _ _ _ rfl
          show wordW lv q acc ⟨34 :: (r ++ T), false⟩ = _
          rw [wordW_double _ _ _ hlv, hw]
          rfl
        · refine .inr fun T hT acc => ?_
          have hw := hX T (fun e => by cases e) []
          show (wordW lv q acc ⟨34 :: (r ++ T), false⟩).2.bad = true
          rw [wordW_double _ _ _ hlv]
          rw [hw, wordW_bad]
  rw [if_neg h34] at h
  by_cases h36 : c = 36
  · rw [if_pos h36] at h
    subst h36
    have start : ∀ T, scan (n + 1) (.piece b) d (36 :: (r ++ T)) = (if (r ++ T).take 2 = [40, 40] then arithF 0 ((r ++ T).drop 2) else if (r ++ T).take 1 = [40] then .error 5 else if (r ++ T).take 1 = [123] then (if 16 < d + 1 then .error 12 else scan n .brace (d + 1) ((r ++ T).drop 1)) else if (r ++ T).take 1 = [63] then .ok ((r ++ T).drop 1) else .ok (namesF true (r ++ T))) := by
      intro T
      conv => lhs; unfold scan
      simp only
      rw [if_neg (by decide), if_neg (fun e => by cases e.1), if_neg (fun e => by cases e.1), if_pos trivial]
    by_cases h2 : r.take 2 = [40, 40]
    · rw [if_pos h2] at h
      obtain ⟨s, rfl⟩ : ∃ s, r = 40 :: 40 :: s := by
        cases r with
        | nil => cases h2
        | cons a r =>
          cases r with
          | nil => simp at h2
          | cons a2 r => simp at h2; exact ⟨r, by rw [h2.1, h2.2]⟩
      obtain ⟨t, ht⟩ := arith_both s 0 h
      refine ⟨fun T hT => ?_, ?_⟩
      · rw [ext, start, if_pos (by simp)]
        exact (ht T).1
      · refine SyG.one (.mk 5 t [] q) (.arith _ _ _ _ (fun h => h) (arithG_ok h (by have := (ht []).2; rw [List.append_nil, List.append_nil] at this; exact this))) (fun e => by cases e.1) fun T hT acc => ?_
        show wordW lv q acc ⟨36 :: 40 :: 40 :: (s ++ T), false⟩ = _
        rw [wordW_dollar]
        have : dollarR (wordW .brc q []) q (40 :: 40 :: (s ++ T)) = (.mk 5 t [] q, ⟨r' ++ T, false⟩) := by
          unfold dollarR
          rw [if_pos (by simp)]
          simp only [List.drop_succ_cons, List.drop_zero, (ht T).2]
        rw [this]
    rw [if_neg h2] at h
    by_cases h40 : r.take 1 = [40]
    · rw [if_pos h40] at h; cases h
    rw [if_neg h40] at h
    by_cases h123 : r.take 1 = [123]
    · rw [if_pos h123] at h
      obtain ⟨x, rfl⟩ : ∃ x, r = 123 :: x := by
        cases r with
        | nil => cases h123
        | cons a r => simp at h123; exact ⟨r, by rw [h123]⟩
      split at h
      · cases h
      · rename_i hd
        have hs : scan n .brace (d + 1) x = .ok r' := h
        refine ⟨fun T hT => ?_, syg_brace IH hs⟩
        rw [ext, start, if_neg (by simp), if_neg (by simp), if_pos (by simp), if_neg hd]
        exact ((IH n (Nat.le_refl _)).brc (d + 1) q x r' hs).1 T
    rw [if_neg h123] at h
    by_cases h63 : r.take 1 = [63]
    · rw [if_pos h63] at h
      obtain ⟨x, rfl⟩ : ∃ x, r = 63 :: x := by
        cases r with
        | nil => cases h63
        | cons a r => simp at h63; exact ⟨r, by rw [h63]⟩
      cases h
      refine ⟨fun T hT => ?_, ?_⟩
      · rw [ext, start, if_neg (by simp), if_neg (by simp), if_neg (by simp), if_pos (by simp)]
        rfl
      · refine SyG.one (.mk 4 [] [] q) (.stat _ _ _ (fun h => h)) (fun e => by cases e.1) fun T hT acc => ?_
        show wordW lv q acc ⟨36 :: 63 :: (x ++ T), false⟩ = _
        rw [wordW_dollar]
        have : dollarR (wordW .brc q []) q (63 :: (x ++ T)) = (.mk 4 [] [] q, ⟨x ++ T, false⟩) := by
          unfold dollarR
          rw [if_neg (by simp), if_neg (by simp), if_pos (by simp)]
          rfl
        rw [this]
        rfl
    rw [if_neg h63] at h
    have hr' : namesF true r = r' := by cases h; rfl
    refine ⟨fun T hT => ?_, by rw [← hr']; exact syg_names h40 h123 h63⟩
    have hrT : r = [] → T = [] := fun e => hT (by rw [← hr', e]; rfl)
    rw [ext, start, if_neg (take2_ne (take1_ne h40 T hrT)), if_neg (take1_ne h40 T hrT), if_neg (take1_ne h123 T hrT), if_neg (take1_ne h63 T hrT)]
    congr 1
    rw [← hr']
    have key : ∀ (first : Bool) (x : List UInt8), (namesF first x = [] → T = []) → namesF first (x ++ T) = namesF first x ++ T := by
      intro first x
      induction x generalizing first with
      | nil => intro hx; rw [hx rfl]; rfl
      | cons a x ih =>
        intro hx
        show namesF first (a :: (x ++ T)) = _
        unfold namesF at hx ⊢
        by_cases ha : letterB a first = true
        · rw [if_pos ha] at hx ⊢
          rw [if_pos ha]
          exact ih false hx
        · rw [if_neg ha, if_neg ha]; rfl
    exact key true r (by rw [hr']; exact hT)
  rw [if_neg h36] at h
  by_cases h96 : c = 96 ∨ b = false ∧ (c = 40 ∨ c = 41)
  · rw [if_pos h96] at h; cases h
  rw [if_neg h96] at h
  cases h
  refine ⟨fun T hT => ?_, SyG.single h0 h92 h36 (fun e => h39 ⟨e.1, hb.2 e.2⟩) (fun e => h34 ⟨e.1, hb.2 e.2⟩) (fun hqf => ?litgoal)⟩
  case litgoal =>
    have hnd : lv ≠ .dbl := fun e => by rw [hdq e] at hqf; cases hqf
    have hb0 := hb.2 hnd
    obtain ⟨l1, l2, l3⟩ := hlit hqf
    exact ⟨h92, fun e => h39 ⟨e, hb0⟩, fun e => h34 ⟨e, hb0⟩, fun e => h96 (.inl e), l1, l2, fun e => ⟨l3 e, fun e => h96 (.inr ⟨hb0, .inl e⟩), fun e => h96 (.inr ⟨hb0, .inr e⟩)⟩⟩
  rw [ext]
  unfold scan
  simp only
  rw [if_neg h92, if_neg h39, if_neg h34, if_neg h36, if_neg h96]
theorem syncg (n : Nat) : SyNG n := by
  induction n using Nat.strongRecOn with
  | ind n ih =>
    cases n with
    | zero =>
      refine ⟨fun d lv q c r r' h _ _ _ => ?_, fun d r r' h => ?_, fun d q r r' h => ?_⟩ <;> (unfold scan at h; cases h)
    | succ n =>
      have IH : ∀ m, m ≤ n → SyNG m := fun m hm => ih m (by omega)
      refine ⟨syncg_piece IH, fun d r r' h => ?_, fun d q r r' h => ?_⟩
      · cases r with
        | nil => unfold scan at h; cases h
        | cons c r =>
          unfold scan at h
          simp only at h
          by_cases h34 : c = 34
          · rw [if_pos h34] at h
            cases h
            subst h34
            refine ⟨fun T => ?_, SyG.refl _ _ _⟩
            show scan (n + 1) .double d (34 :: (r' ++ T)) = _
            unfold scan; simp
          · rw [if_neg h34] at h
            split at h
            · cases h
            · rename_i r1 h1
              have hne : r1 ≠ [] := fun e => by
                subst e
                cases n with
                | zero => unfold scan at h; cases h
                | succ n => unfold scan at h; cases h
              obtain ⟨p1, p2⟩ := (IH n (Nat.le_refl _)).piece d .dbl true c r r1 h1 (fun e => h34 (Option.some.inj e).symm) (fun _ => rfl) (fun e => by cases e)
              obtain ⟨d1, d2⟩ := (IH n (Nat.le_refl _)).dbl d r1 r' h
              refine ⟨fun T => ?_, p2.trans d2 (fun e => absurd e hne)⟩
              have e1 := p1 T (fun e => absurd e hne)
              show scan (n + 1) .double d (c :: (r ++ T)) = _
              unfold scan
              simp only
              rw [if_neg h34]
              have e2 : scan n (.piece true) d (c :: (r ++ T)) = .ok (r1 ++ T) := e1
              rw [e2]
              exact d1 T
      · cases r with
        | nil => unfold scan at h; cases h
        | cons c r =>
          unfold scan at h
          simp only at h
          by_cases h125 : c = 125
          · rw [if_pos h125] at h
            cases h
            subst h125
            refine ⟨fun T => ?_, SyG.refl _ _ _⟩
            show scan (n + 1) .brace d (125 :: (r' ++ T)) = _
            unfold scan; simp
          · rw [if_neg h125] at h
            by_cases h10 : c = 10
            · rw [if_pos h10] at h; cases h
            rw [if_neg h10] at h
            by_cases hbr : braceB c = true
            · rw [if_pos hbr] at h
              obtain ⟨d1, d2⟩ := (IH n (Nat.le_refl _)).brc d q r r' h
              have hc : ∀ k, braceB k = false → c ≠ k := fun k hk e => by rw [e, hk] at hbr; cases hbr
              refine ⟨fun T => ?_, (SyG.single (lv := .brc) (fun e => h125 (Option.some.inj e).symm) (hc 92 (by decide)) (hc 36 (by decide)) (fun e => hc 39 (by decide) e.1) (fun e => hc 34 (by decide) e.1) (fun _ => ⟨hc 92 (by decide), hc 39 (by decide), hc 34 (by decide), hc 96 (by decide), h10, fun _ => h125, fun e => (by cases e)⟩)).trans d2 (fun e => absurd e (brace_ne h))⟩
              show scan (n + 1) .brace d (c :: (r ++ T)) = _
              unfold scan
              simp only
              rw [if_neg h125, if_neg h10, if_pos hbr]
              exact d1 T
            · rw [if_neg hbr] at h
              split at h
              · cases h
              · rename_i r1 h1
                have hne := brace_ne h
                obtain ⟨p1, p2⟩ := (IH n (Nat.le_refl _)).piece d .brc q c r r1 h1 (fun e => h125 (Option.some.inj e).symm) (fun e => by cases e) (fun _ => ⟨h10, fun _ => h125, fun e => by cases e⟩)
                obtain ⟨d1, d2⟩ := (IH n (Nat.le_refl _)).brc d q r1 r' h
                refine ⟨fun T => ?_, p2.trans d2 (fun e => absurd e hne)⟩
                have e1 := p1 T (fun e => absurd e hne)
                show scan (n + 1) .brace d (c :: (r ++ T)) = _
                unfold scan
                simp only
                rw [if_neg h125, if_neg h10, if_neg hbr]
                have e2 : scan n (.piece false) d (c :: (r ++ T)) = .ok (r1 ++ T) := e1
                rw [e2]
                exact d1 T
theorem pieceg {c : UInt8} {r r1 : List UInt8} (h : pieceR false 0 (c :: r) = .ok r1) (he : endB c = false) : SyG .bare false (c :: r) r1 :=
  ((syncg _).piece 0 .bare false c r r1 h (fun e => by cases e) (fun e => by cases e) (fun _ => ⟨fun e => (by rw [e] at he; cases he), fun e => (by cases e), fun _ => he⟩)).2
theorem wordg : ∀ (n : Nat) (x : List UInt8), wordF n x = .ok [] → SyG .bare false x []
  | 0, x, h => by cases h
  | n + 1, [], h => SyG.refl _ _ _
  | n + 1, c :: r, h => by
    have hec : endB c = false := by
      cases hc : endB c with
      | false => rfl
      | true => rw [word_end hc] at h; cases h
    cases hp : pieceR false 0 (c :: r) with
    | error e1 => rw [word_err hec hp] at h; cases h
    | ok r1 =>
      rw [word_step hec hp] at h
      exact (pieceg hp hec).trans (wordg n r1 h) (fun _ => rfl)
/-- What is read is good. -/
theorem parse_good {s : List UInt8} {a : List Prt} (h : parseW s = .ok a) : GoodL .bare false a := by
  obtain ⟨⟨_, _, c, r, _, _, _, _, hw⟩, h2, h3⟩ := parse_open h
  rcases wordg _ _ hw with ⟨X, hg, hX⟩ | hX
  · have e := hX [] (fun _ => rfl) []
    rw [List.append_nil, List.append_nil, wordW_nil] at e
    rw [e] at h2
    rw [← h2]
    exact hg.good
  · have e := hX [] (fun _ => rfl) []
    rw [List.append_nil] at e
    rw [e] at h3; cases h3
end Go.Proofs.YtifcgeanippepaaDoor
