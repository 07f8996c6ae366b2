/- Words, plain: what lexing takes as a piece, reading takes, too: by induction. -/
import Derived.Test.YtifcgeanippepaaDoorSync
namespace Go.Proofs.YtifcgeanippepaaDoor
open Go Go.RowKit Go.Lw
set_option linter.unusedVariables false
set_option linter.unusedSimpArgs false
theorem sync_piece {n : Nat} (IH : ∀ m, m ≤ n → SyN m) (d : Nat) (lv : Lv) (q : Bool) (c : UInt8) (r r' : List UInt8) (h : scan (n + 1) (.piece (decide (lv = .dbl))) d (c :: r) = .ok r') (h0 : lv.ends ≠ some c) :
    (∀ T, (r' = [] → T = []) → scan (n + 1) (.piece (decide (lv = .dbl))) d (c :: r ++ T) = .ok (r' ++ T)) ∧ Sy lv q (c :: r) r' := by
  have hb : decide (lv = .dbl) = false ↔ lv ≠ .dbl := by simp
  obtain ⟨b, hbb⟩ : ∃ b, decide (lv = .dbl) = b := ⟨_, rfl⟩
  rw [hbb] at h hb ⊢
  have ext : ∀ T, scan (n + 1) (.piece b) d (c :: r ++ T) = scan (n + 1) (.piece b) d (c :: (r ++ T)) := fun T => rfl
  unfold scan at h
  simp only at h
  by_cases h92 : c = 92
  · rw [if_pos h92] at h
    obtain ⟨e, rfl, he⟩ := pair_split h
    subst h92
    refine ⟨fun T hT => ?_, ?_⟩
    · rw [ext]
      unfold scan
      simp only [if_true]
      show pairF (e :: (r' ++ T)) = _
      unfold pairF; simp [he]
    · refine Sy.one (pairR lv [e]).1 fun T hT acc => ?_
      show wordW lv q acc ⟨92 :: e :: (r' ++ T), false⟩ = _
      rw [wordW_pair]
      rfl
  rw [if_neg h92] at h
  by_cases h39 : c = 39 ∧ b = false
  · rw [if_pos h39] at h
    obtain ⟨u, rfl, hu⟩ := until_split h
    obtain ⟨rfl, hb0⟩ := h39
    have hlv := hb.1 hb0
    refine ⟨fun T hT => ?_, ?_⟩
    · rw [ext]
      unfold scan
      simp only
      rw [if_neg (by decide), if_pos (by simp [hb0]), List.append_assoc, List.cons_append, until_run' hu]
    · refine Sy.one (.mk 1 u [] true) fun T hT acc => ?_
      have e1 : (39 :: (u ++ 39 :: r') ++ T : List UInt8) = 39 :: (u ++ 39 :: (r' ++ T)) := by simp
      rw [e1, read_single hlv _ _ _ hu]
  rw [if_neg h39] at h
  by_cases h34 : c = 34 ∧ b = false
  · rw [if_pos h34] at h
    obtain ⟨rfl, hb0⟩ := h34
    have hlv := hb.1 hb0
    split at h
    · cases h
    · rename_i hd
      obtain ⟨hx, hy⟩ := (IH n (Nat.le_refl _)).dbl (d + 1) true r r' h
      refine ⟨fun T hT => ?_, ?_⟩
      · rw [ext]
        unfold scan
        simp only
        rw [if_neg (by decide), if_neg (fun e => by cases e.1), if_pos (by simp [hb0]), if_neg hd]
        exact hx T
      · rcases hy with ⟨X, hX⟩ | hX
        · refine .inl ⟨quoted0 (X.foldl putF []), fun T hT acc => ?_⟩
          have hw : wordW .dbl true [] ⟨r ++ T, false⟩ = (X.foldl putF [], ⟨34 :: (r' ++ T), false⟩) := by
            rw [hX T (fun e => by cases e) []]
            exact wordW_end _ _ _ _ rfl
          show wordW lv q acc ⟨34 :: (r ++ T), false⟩ = _
          rw [wordW_double _ _ _ hlv, hw]
          rfl
        · refine .inr fun T hT acc => ?_
          have hw := hX T (fun e => by cases e) []
          show (wordW lv q acc ⟨34 :: (r ++ T), false⟩).2.bad = true
          rw [wordW_double _ _ _ hlv]
          rw [hw, wordW_bad]
  rw [if_neg h34] at h
  by_cases h36 : c = 36
  · rw [if_pos h36] at h
    subst h36
    have start : ∀ T, scan (n + 1) (.piece b) d (36 :: (r ++ T)) = (if (r ++ T).take 2 = [40, 40] then arithF 0 ((r ++ T).drop 2) else if (r ++ T).take 1 = [40] then .error 5 else if (r ++ T).take 1 = [123] then (if 16 < d + 1 then .error 12 else scan n .brace (d + 1) ((r ++ T).drop 1)) else if (r ++ T).take 1 = [63] then .ok ((r ++ T).drop 1) else .ok (namesF true (r ++ T))) := by
      intro T
      conv => lhs; unfold scan
      simp only
      rw [if_neg (by decide), if_neg (fun e => by cases e.1), if_neg (fun e => by cases e.1), if_pos trivial]
    by_cases h2 : r.take 2 = [40, 40]
    · rw [if_pos h2] at h
      obtain ⟨s, rfl⟩ : ∃ s, r = 40 :: 40 :: s := by
        cases r with
        | nil => cases h2
        | cons a r =>
          cases r with
          | nil => simp at h2
          | cons a2 r => simp at h2; exact ⟨r, by rw [h2.1, h2.2]⟩
      obtain ⟨t, ht⟩ := arith_both s 0 h
      refine ⟨fun T hT => ?_, ?_⟩
      · rw [ext, start, if_pos (by simp)]
        exact (ht T).1
      · refine Sy.one (.mk 5 t [] q) fun T hT acc => ?_
        show wordW lv q acc ⟨36 :: 40 :: 40 :: (s ++ T), false⟩ = _
        rw [wordW_dollar]
        have : dollarR (wordW .brc q []) q (40 :: 40 :: (s ++ T)) = (.mk 5 t [] q, ⟨r' ++ T, false⟩) := by
          unfold dollarR
          rw [if_pos (by simp)]
          simp only [List.drop_succ_cons, List.drop_zero, (ht T).2]
        rw [this]
    rw [if_neg h2] at h
    by_cases h40 : r.take 1 = [40]
    · rw [if_pos h40] at h; cases h
    rw [if_neg h40] at h
    by_cases h123 : r.take 1 = [123]
    · rw [if_pos h123] at h
      obtain ⟨x, rfl⟩ : ∃ x, r = 123 :: x := by
        cases r with
        | nil => cases h123
        | cons a r => simp at h123; exact ⟨r, by rw [h123]⟩
      split at h
      · cases h
      · rename_i hd
        have hs : scan n .brace (d + 1) x = .ok r' := h
        refine ⟨fun T hT => ?_, sy_brace IH hs⟩
        rw [ext, start, if_neg (by simp), if_neg (by simp), if_pos (by simp), if_neg hd]
        exact ((IH n (Nat.le_refl _)).brc (d + 1) q x r' hs).1 T
    rw [if_neg h123] at h
    by_cases h63 : r.take 1 = [63]
    · rw [if_pos h63] at h
      obtain ⟨x, rfl⟩ : ∃ x, r = 63 :: x := by
        cases r with
        | nil => cases h63
        | cons a r => simp at h63; exact ⟨r, by rw [h63]⟩
      cases h
      refine ⟨fun T hT => ?_, ?_⟩
      · rw [ext, start, if_neg (by simp), if_neg (by simp), if_neg (by simp), if_pos (by simp)]
        rfl
      · refine Sy.one (.mk 4 [] [] q) fun T hT acc => ?_
        show wordW lv q acc ⟨36 :: 63 :: (x ++ T), false⟩ = _
        rw [wordW_dollar]
        have : dollarR (wordW .brc q []) q (63 :: (x ++ T)) = (.mk 4 [] [] q, ⟨x ++ T, false⟩) := by
          unfold dollarR
          rw [if_neg (by simp), if_neg (by simp), if_pos (by simp)]
          rfl
        rw [this]
        rfl
    rw [if_neg h63] at h
    have hr' : namesF true r = r' := by cases h; rfl
    refine ⟨fun T hT => ?_, by rw [← hr']; exact sy_names h40 h123 h63⟩
    have hrT : r = [] → T = [] := fun e => hT (by rw [← hr', e]; rfl)
    rw [ext, start, if_neg (take2_ne (take1_ne h40 T hrT)), if_neg (take1_ne h40 T hrT), if_neg (take1_ne h123 T hrT), if_neg (take1_ne h63 T hrT)]
    congr 1
    rw [← hr']
    have key : ∀ (first : Bool) (x : List UInt8), (namesF first x = [] → T = []) → namesF first (x ++ T) = namesF first x ++ T := by
      intro first x
      induction x generalizing first with
      | nil => intro hx; rw [hx rfl]; rfl
      | cons a x ih =>
        intro hx
        show namesF first (a :: (x ++ T)) = _
        unfold namesF at hx ⊢
        by_cases ha : letterB a first = true
        · rw [if_pos ha] at hx ⊢
          rw [if_pos ha]
          exact ih false hx
        · rw [if_neg ha, if_neg ha]; rfl
    exact key true r (by rw [hr']; exact hT)
  rw [if_neg h36] at h
  by_cases h96 : c = 96 ∨ b = false ∧ (c = 40 ∨ c = 41)
  · rw [if_pos h96] at h; cases h
  rw [if_neg h96] at h
  cases h
  refine ⟨fun T hT => ?_, Sy.single h0 h92 h36 (fun e => h39 ⟨e.1, hb.2 e.2⟩) (fun e => h34 ⟨e.1, hb.2 e.2⟩)⟩
  rw [ext]
  unfold scan
  simp only
  rw [if_neg h92, if_neg h39, if_neg h34, if_neg h36, if_neg h96]
theorem sync (n : Nat) : SyN n := by
  induction n using Nat.strongRecOn with
  | ind n ih =>
    cases n with
    | zero =>
      refine ⟨fun d lv q c r r' h _ => ?_, fun d q r r' h => ?_, fun d q r r' h => ?_⟩ <;> (unfold scan at h; cases h)
    | succ n =>
      have IH : ∀ m, m ≤ n → SyN m := fun m hm => ih m (by omega)
      refine ⟨sync_piece IH, fun d q r r' h => ?_, fun d q r r' h => ?_⟩
      · cases r with
        | nil => unfold scan at h; cases h
        | cons c r =>
          unfold scan at h
          simp only at h
          by_cases h34 : c = 34
          · rw [if_pos h34] at h
            cases h
            subst h34
            refine ⟨fun T => ?_, Sy.refl _ _ _⟩
            show scan (n + 1) .double d (34 :: (r' ++ T)) = _
            unfold scan; simp
          · rw [if_neg h34] at h
            split at h
            · cases h
            · rename_i r1 h1
              have hne : r1 ≠ [] := fun e => by
                subst e
                cases n with
                | zero => unfold scan at h; cases h
                | succ n => unfold scan at h; cases h
              obtain ⟨p1, p2⟩ := (IH n (Nat.le_refl _)).piece d .dbl q c r r1 h1 (fun e => h34 (Option.some.inj e).symm)
              obtain ⟨d1, d2⟩ := (IH n (Nat.le_refl _)).dbl d q r1 r' h
              refine ⟨fun T => ?_, p2.trans d2 (fun e => absurd e hne)⟩
              have e1 := p1 T (fun e => absurd e hne)
              show scan (n + 1) .double d (c :: (r ++ T)) = _
              unfold scan
              simp only
              rw [if_neg h34]
              have e2 : scan n (.piece true) d (c :: (r ++ T)) = .ok (r1 ++ T) := e1
              rw [e2]
              exact d1 T
      · cases r with
        | nil => unfold scan at h; cases h
        | cons c r =>
          unfold scan at h
          simp only at h
          by_cases h125 : c = 125
          · rw [if_pos h125] at h
            cases h
            subst h125
            refine ⟨fun T => ?_, Sy.refl _ _ _⟩
            show scan (n + 1) .brace d (125 :: (r' ++ T)) = _
            unfold scan; simp
          · rw [if_neg h125] at h
            by_cases h10 : c = 10
            · rw [if_pos h10] at h; cases h
            rw [if_neg h10] at h
            by_cases hbr : braceB c = true
            · rw [if_pos hbr] at h
              obtain ⟨d1, d2⟩ := (IH n (Nat.le_refl _)).brc d q r r' h
              have hc : ∀ k, braceB k = false → c ≠ k := fun k hk e => by rw [e, hk] at hbr; cases hbr
              refine ⟨fun T => ?_, (Sy.single (lv := .brc) (fun e => h125 (Option.some.inj e).symm) (hc 92 (by decide)) (hc 36 (by decide)) (fun e => hc 39 (by decide) e.1) (fun e => hc 34 (by decide) e.1)).trans d2 (fun e => absurd e (brace_ne h))⟩
              show scan (n + 1) .brace d (c :: (r ++ T)) = _
              unfold scan
              simp only
              rw [if_neg h125, if_neg h10, if_pos hbr]
              exact d1 T
            · rw [if_neg hbr] at h
              split at h
              · cases h
              · rename_i r1 h1
                have hne := brace_ne h
                obtain ⟨p1, p2⟩ := (IH n (Nat.le_refl _)).piece d .brc q c r r1 h1 (fun e => h125 (Option.some.inj e).symm)
                obtain ⟨d1, d2⟩ := (IH n (Nat.le_refl _)).brc d q r1 r' h
                refine ⟨fun T => ?_, p2.trans d2 (fun e => absurd e hne)⟩
                have e1 := p1 T (fun e => absurd e hne)
                show scan (n + 1) .brace d (c :: (r ++ T)) = _
                unfold scan
                simp only
                rw [if_neg h125, if_neg h10, if_neg hbr]
                have e2 : scan n (.piece false) d (c :: (r ++ T)) = .ok (r1 ++ T) := e1
                rw [e2]
                exact d1 T
end Go.Proofs.YtifcgeanippepaaDoor
