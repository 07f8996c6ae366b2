/- Words, plain: what lexing takes as a piece, reading takes, too: by induction. -/
import Derived.Test.YtifcgeanippepaaDoorSyncM
namespace Go.Proofs.YtifcgeanippepaaDoor
open Go Go.RowKit Go.Lw
set_option linter.unusedVariables false
set_option linter.unusedSimpArgs false
theorem sync_piece {n : Nat} (IH : ∀ m, m ≤ n → SyN m) (d : Nat) (lv : Lv) (q : Bool) (c : UInt8) (r r' : List UInt8) (h : scan (n + 1) (.piece (decide (lv = .dbl))) d (c :: r) = .ok r') (h0 : lv.ends ≠ some c) :
    (∀ T, (r' = [] → T = []) → scan (n + 1) (.piece (decide (lv = .dbl))) d (c :: r ++ T) = .ok (r' ++ T)) ∧ Sy lv q (c :: r) r' := by
  have hb : decide (lv = .dbl) = false ↔ lv ≠ .dbl := by simp
  obtain ⟨b, hbb⟩ : ∃ b, decide (lv = .dbl) = b := ⟨_, rfl⟩
  rw [hbb] at h hb ⊢
  have ext : ∀ T, scan (n + 1) (.piece b) d (c :: r ++ T) = scan (n + 1) (.piece b) d (c :: (r ++ T)) := fun T => rfl
  unfold scan at h
  simp only at h
  by_cases h92 : c = 92
  · rw [if_pos h92] at h
    obtain ⟨e, rfl, he⟩ := pair_split h
    subst h92
    refine ⟨fun T hT => ?_, ?_⟩
    · rw [ext]
      unfold scan
      simp only [if_true]
      show pairF (e :: (r' ++ T)) = _
      unfold pairF; simp [he]
    · refine Sy.one (pairR lv [e]).1 fun T hT acc => ?_
      show wordW lv q acc ⟨92 :: e :: (r' ++ T), false⟩ = _
      rw [wordW_pair]
      rfl
  rw [if_neg h92] at h
  by_cases h39 : c = 39 ∧ b = false
  · rw [if_pos h39] at h
    obtain ⟨u, rfl, hu⟩ := until_split h
    obtain ⟨rfl, hb0⟩ := h39
    have hlv := hb.1 hb0
    refine ⟨fun T hT => ?_, ?_⟩
    · rw [ext]
      unfold scan
      simp only
      rw [if_neg (by decide), if_pos (by simp [hb0]), List.append_assoc, List.cons_append, until_run' hu]
    · refine Sy.one (.mk 1 u [] true) fun T hT acc => ?_
      have e1 : (39 :: (u ++ 39 :: r') ++ T : List UInt8) = 39 :: (u ++ 39 :: (r' ++ T)) := by simp
      rw [e1, read_single hlv _ _ _ hu]
  rw [if_neg h39] at h
  by_cases h34 : c = 34 ∧ b = false
  · rw [if_pos h34] at h
    obtain ⟨rfl, hb0⟩ := h34
    have hlv := hb.1 hb0
    split at h
    · cases h
    · rename_i hd
      obtain ⟨hx, hy⟩ := (IH n (Nat.le_refl _)).dbl (d + 1) true r r' h
      refine ⟨fun T hT => ?_, ?_⟩
      · rw [ext]
        unfold scan
        simp only
        rw [if_neg (by decide), if_neg (fun e => by cases e.1), if_pos (by simp [hb0]), if_neg hd]
        exact hx T
      · rcases hy with ⟨X, hX⟩ | hX
        · refine .inl ⟨quoted0 (X.foldl putF []), fun T hT acc => ?_⟩
          have hw : wordW .dbl true [] ⟨r ++ T, false⟩ = (X.foldl putF [], ⟨34 :: (r' ++ T), false⟩) := by
            rw [hX T (fun e => by cases e) []]
            exact wordW_end _ _ _ _ rfl
          show wordW lv q acc ⟨34 :: (r ++ T), false⟩ = _
          rw [wordW_double _ _ _ hlv, hw]
          rfl
        · refine .inr fun T hT acc => ?_
          have hw := hX T (fun e => by cases e) []
          show (wordW lv q acc ⟨34 :: (r ++ T), false⟩).2.bad = true
          rw [wordW_double _ _ _ hlv]
          rw [hw, wordW_bad]
  rw [if_neg h34] at h
  by_cases h36 : c = 36
  · rw [if_pos h36] at h
    subst h36
    have start : ∀ T, scan (n + 1) (.piece b) d (36 :: (r ++ T)) = (if (r ++ T).take 2 = [40, 40] then arithF 0 ((r ++ T).drop 2) else if (r ++ T).take 1 = [40] then .error 5 else if (r ++ T).take 1 = [123] then (if 16 < d + 1 then .error 12 else scan n .brace (d + 1) ((r ++ T).drop 1)) else if (r ++ T).take 1 = [63] then .ok ((r ++ T).drop 1) else .ok (namesF true (r ++ T))) := by
      intro T
      conv => lhs; unfold scan
      simp only
      rw [if_neg (by decide), if_neg (fun e => by cases e.1), if_neg (fun e => by cases e.1), if_pos trivial]
    by_cases h2 : r.take 2 = [40, 40]
    · rw [if_pos h2] at h
      obtain ⟨s, rfl⟩ : ∃ s, r = 40 :: 40 :: s := by
        cases r with
        | nil => cases h2
        | cons a r =>
          cases r with
          | nil => simp at h2
          | cons a2 r => simp at h2; exact ⟨r, by rw [h2.1, h2.2]⟩
      obtain ⟨t, ht⟩ := arith_both s 0 h
      refine ⟨fun T hT => ?_, ?_⟩
      · rw [ext, start, if_pos (by simp)]
        exact (ht T).1
      · refine Sy.one (.mk 5 t [] q) fun T hT acc => ?_
        show wordW lv q acc ⟨36 :: 40 :: 40 :: (s ++ T), false⟩ = _
        rw [wordW_dollar]
        have : dollarR (wordW .brc q []) q (40 :: 40 :: (s ++ T)) = (.mk 5 t [] q, ⟨r' ++ T, false⟩) := by
          unfold dollarR
          rw [if_pos (by simp)]
          simp only [List.drop_succ_cons, List.drop_zero, (ht T).2]
        rw [this]
    rw [if_neg h2] at h
    by_cases h40 : r.take 1 = [40]
    · rw [if_pos h40] at h; cases h
    rw [if_neg h40] at h
    by_cases h123 : r.take 1 = [123]
    · rw [if_pos h123] at h
      obtain ⟨x, rfl⟩ : ∃ x, r = 123 :: x := by
        cases r with
        | nil => cases h123
        | cons a r => simp at h123; exact ⟨r, by rw [h123]⟩
      split at h
      · cases h
      · rename_i hd
        have hs : scan n .brace (d + 1) x = .ok r' := h
        refine ⟨fun T hT => ?_, sy_brace IH hs⟩
        rw [ext, start, if_neg (by simp), if_neg (by simp), if_pos (by simp), if_neg hd]
        exact ((IH n (Nat.le_refl _)).brc (d + 1) q x r' hs).1 T
    rw [if_neg h123] at h
    by_cases h63 : r.take 1 = [63]
    · rw [if_pos h63] at h
      obtain ⟨x, rfl⟩ : ∃ x, r = 63 :: x := by
        cases r with
        | nil => cases h63
        | cons a r => simp at h63; exact ⟨r, by rw [h63]⟩
      cases h
      refine ⟨fun T hT => ?_, ?_⟩
      · rw [ext, start, if_neg (by simp), if_neg (by simp), if_neg (by simp), if_pos (by simp)]
        rfl
      · refine Sy.one (.mk 4 [] [] q) fun T hT acc => ?_
        show wordW lv q acc ⟨36 :: 63 :: (x ++ T), false⟩ = _
        rw [wordW_dollar]
        have : dollarR (wordW .brc q []) q (63 :: (x ++ T)) = (.mk 4 [] [] q, ⟨x ++ T, false⟩) := by
          unfold dollarR
          rw [if_neg (by simp), if_neg (by simp), if_pos (by simp)]
          rfl
        rw [this]
        rfl
    rw [if_neg h63] at h
    have hr' : namesF true r = r' := by cases h; rfl
    refine ⟨fun T hT => ?_, by rw [← hr']; exact sy_names h40 h123 h63⟩
    have hrT : r = [] → T = [] := fun e => hT (by rw [← hr', e]; rfl)
    rw [ext, start, if_neg (take2_ne (take1_ne h40 T hrT)), if_neg (take1_ne h40 T hrT), if_neg (take1_ne h123 T hrT), if_neg (take1_ne h63 T hrT)]
    congr 1
    rw [← hr']
    have key : ∀ (first : Bool) (x : List UInt8), (namesF first x = [] → T = []) → namesF first (x ++ T) = namesF first x ++ T := by
      intro first x
      induction x generalizing first with
      | nil => intro hx; rw [hx rfl]; rfl
      | cons a x ih =>
        intro hx
        show namesF first (a :: (x ++ T)) = _
        unfold namesF at hx ⊢
        by_cases ha : letterB a first = true
        · rw [if_pos ha] at hx ⊢
          rw [if_pos ha]
          exact ih false hx
        · rw [if_neg ha, if_neg ha]; rfl
    exact key true r (by rw [hr']; exact hT)
  rw [if_neg h36] at h
  by_cases h96 : c = 96 ∨ b = false ∧ (c = 40 ∨ c = 41)
  · rw [if_pos h96] at h; cases h
  rw [if_neg h96] at h
  cases h
  refine ⟨fun T hT => ?_, Sy.single h0 h92 h36 (fun e => h39 ⟨e.1, hb.2 e.2⟩) (fun e => h34 ⟨e.1, hb.2 e.2⟩)⟩
  rw [ext]
  unfold scan
  simp only
  rw [if_neg h92, if_neg h39, if_neg h34, if_neg h36, if_neg h96]
theorem sync (n : Nat) : SyN n := by
  induction n using Nat.strongRecOn with
  | ind n ih =>
    cases n with
    | zero =>
      refine ⟨fun d lv q c r r' h _ => ?_, fun d q r r' h => ?_, fun d q r r' h => ?_⟩ <;> (unfold scan at h; cases h)
    | succ n =>
      have IH : ∀ m, m ≤ n → SyN m := fun m hm => ih m (by omega)
      refine ⟨sync_piece IH, fun d q r r' h => ?_, fun d q r r' h => ?_⟩
      · cases r with
        | nil => unfold scan at h; cases h
        | cons c r =>
          unfold scan at h
          simp only at h
          by_cases h34 : c = 34
          · rw [if_pos h34] at h
            cases h
            subst h34
            refine ⟨fun T => ?_, Sy.refl _ _ _⟩
            show scan (n + 1) .double d (34 :: (r' ++ T)) = _
            unfold scan; simp
          · rw [if_neg h34] at h
            split at h
            · cases h
            · rename_i r1 h1
              have hne : r1 ≠ [] := fun e => by
                subst e
                cases n with
                | zero => unfold scan at h; cases h
                | succ n => unfold scan at h; cases h
              obtain ⟨p1, p2⟩ := (IH n (Nat.le_refl _)).piece d .dbl q c r r1 h1 (fun e => h34 (Option.some.inj e).symm)
              obtain ⟨d1, d2⟩ := (IH n (Nat.le_refl _)).dbl d q r1 r' h
              refine ⟨fun T => ?_, p2.trans d2 (fun e => absurd e hne)⟩
              have e1 := p1 T (fun e => absurd e hne)
              show scan (n + 1) .double d (c :: (r ++ T)) = _
              unfold scan
              simp only
              rw [if_neg h34]
              have e2 : scan n (.piece true) d (c :: (r ++ T)) = .ok (r1 ++ T) := e1
              rw [e2]
              exact d1 T
      · cases r with
        | nil => unfold scan at h; cases h
        | cons c r =>
          unfold scan at h
          simp only at h
          by_cases h125 : c = 125
          · rw [if_pos h125] at h
            cases h
            subst h125
            refine ⟨fun T => ?_, Sy.refl _ _ _⟩
            show scan (n + 1) .brace d (125 :: (r' ++ T)) = _
            unfold scan; simp
          · rw [if_neg h125] at h
            by_cases h10 : c = 10
            · rw [if_pos h10] at h; cases h
            rw [if_neg h10] at h
            by_cases hbr : braceB c = true
            · rw [if_pos hbr] at h
              obtain ⟨d1, d2⟩ := (IH n (Nat.le_refl _)).brc d q r r' h
              have hc : ∀ k, braceB k = false → c ≠ k := fun k hk e => by rw [e, hk] at hbr; cases hbr
              refine ⟨fun T => ?_, (Sy.single (lv := .brc) (fun e => h125 (Option.some.inj e).symm) (hc 92 (by decide)) (hc 36 (by decide)) (fun e => hc 39 (by decide) e.1) (fun e => hc 34 (by decide) e.1)).trans d2 (fun e => absurd e (brace_ne h))⟩
              show scan (n + 1) .brace d (c :: (r ++ T)) = _
              unfold scan
              simp only
              rw [if_neg h125, if_neg h10, if_pos hbr]
              exact d1 T
            · rw [if_neg hbr] at h
              split at h
              · cases h
              · rename_i r1 h1
                have hne := brace_ne h
                obtain ⟨p1, p2⟩ := (IH n (Nat.le_refl _)).piece d .brc q c r r1 h1 (fun e => h125 (Option.some.inj e).symm)
                obtain ⟨d1, d2⟩ := (IH n (Nat.le_refl _)).brc d q r1 r' h
                refine ⟨fun T => ?_, p2.trans d2 (fun e => absurd e hne)⟩
                have e1 := p1 T (fun e => absurd e hne)
                show scan (n + 1) .brace d (c :: (r ++ T)) = _
                unfold scan
                simp only
                rw [if_neg h125, if_neg h10, if_neg hbr]
                have e2 : scan n (.piece false) d (c :: (r ++ T)) = .ok (r1 ++ T) := e1
                rw [e2]
                exact d1 T
end Go.Proofs.YtifcgeanippepaaDoor
/- WordTells, plain: reading a raw word, by any reader that does as the document says where lexing takes the text. -/
namespace Go.Proofs.YtifcgeanippepaaDoor
open Go Go.RowKit Go.Lw
set_option linter.unusedVariables false
set_option linter.unusedSimpArgs false
/-- What readers may do in their own way: arithmetic that lexing refuses, and a backslash at the end. -/
structure Rdr where
  ar : List UInt8 → Option (List UInt8 × List UInt8)
  pr : Lv → Bool → List UInt8 → Prt × List UInt8
  arLen : ∀ r x, ar r = some x → x.2.length ≤ r.length
  prLen : ∀ lv q r, (pr lv q r).2.length ≤ r.length
  arOk : ∀ s r', arithF 0 s = .ok r' → ∀ T, ar (s ++ T) = arithW 0 (s ++ T)
  prOk : ∀ lv q d r, pr lv q (d :: r) = pairR lv (d :: r)
/-- Behind a dollar. -/
def dollarG (R : Rdr) (W : Rst → List Prt × Rst) (q : Bool) (r : List UInt8) : Prt × Rst :=
  if r.take 2 = [40, 40] then
    match R.ar (r.drop 2) with
    | some x => (.mk 5 x.1 [] q, ⟨x.2, false⟩)
    | none => (.mk 5 [] [] q, ⟨r.drop 2, true⟩)
  else dollarR W q r
def wordG (R : Rdr) : Nat → Lv → Bool → List Prt → Rst → List Prt × Rst
  | 0, _, _, acc, st => (acc, st)
  | n + 1, lv, q, acc, ⟨s, bad⟩ => match s with
    | [] => (acc, ⟨s, bad⟩)
    | c :: r =>
      if bad = true ∨ lv.ends = some c then (acc, ⟨s, bad⟩)
      else if c = 92 then wordG R n lv q (putF acc (R.pr lv q r).1) ⟨(R.pr lv q r).2, false⟩
      else if c = 36 then wordG R n lv q (putF acc (dollarG R (wordG R n .brc q []) q r).1) (dollarG R (wordG R n .brc q []) q r).2
      else if c = 39 ∧ lv ≠ .dbl then wordG R n lv q (putF acc (.mk 1 (cutR 39 r).1 [] true)) ⟨(cutR 39 r).2, false⟩
      else if c = 34 ∧ lv ≠ .dbl then
        wordG R n lv q ((quoted0 (wordG R n .dbl true [] ⟨r, false⟩).1).foldl putF acc) ⟨strip34 (wordG R n .dbl true [] ⟨r, false⟩).2.s, (wordG R n .dbl true [] ⟨r, false⟩).2.bad⟩
      else wordG R n lv q (putF acc (.mk 1 [c] [] q)) ⟨r, false⟩
theorem dollarG_len {R : Rdr} {W : Rst → List Prt × Rst} {q : Bool} {r : List UInt8} (hW : ∀ st, st.s.length ≤ r.length → (W st).2.s.length ≤ st.s.length) : (dollarG R W q r).2.s.length ≤ r.length := by
  unfold dollarG
  split
  · split
    · rename_i x h
      have := R.arLen _ _ h
      show x.2.length ≤ _
      rw [List.length_drop] at this; omega
    · show (r.drop 2).length ≤ _
      rw [List.length_drop]; omega
  · exact dollarR_len hW
theorem wordG_len (R : Rdr) : ∀ (n : Nat) (lv : Lv) (q : Bool) (acc : List Prt) (st : Rst), (wordG R n lv q acc st).2.s.length ≤ st.s.length
  | 0, _, _, _, st => Nat.le_refl _
  | n + 1, lv, q, acc, ⟨[], bad⟩ => Nat.le_refl _
  | n + 1, lv, q, acc, ⟨c :: r, bad⟩ => by
    unfold wordG
    simp only
    split
    · exact Nat.le_refl _
    · split
      · refine Nat.le_trans (wordG_len R n _ _ _ _) ?_
        have := R.prLen lv q r
        simp; omega
      · split
        · refine Nat.le_trans (wordG_len R n _ _ _ _) ?_
          have := dollarG_len (R := R) (q := q) (r := r) (W := wordG R n .brc q []) (fun st _ => wordG_len R n _ _ _ st)
          simp; omega
        · split
          · refine Nat.le_trans (wordG_len R n _ _ _ _) ?_
            have := cutR_len 39 r
            simp; omega
          · split
            · refine Nat.le_trans (wordG_len R n _ _ _ _) ?_
              refine Nat.le_trans (strip34_len _) ?_
              have := wordG_len R n .dbl true [] ⟨r, false⟩
              simp at this ⊢; omega
            · refine Nat.le_trans (wordG_len R n _ _ _ _) ?_
              simp
theorem dollarG_eq {R : Rdr} {W V : Rst → List Prt × Rst} {q : Bool} {r : List UInt8} (h : ∀ st, st.s.length ≤ r.length → W st = V st) : dollarG R W q r = dollarG R V q r := by
  unfold dollarG
  rw [dollarR_eq h]
/-- More steps turn nothing. -/
theorem wordG_more (R : Rdr) : ∀ (n : Nat) (lv : Lv) (q : Bool) (acc : List Prt) (st : Rst), st.s.length < n → wordG R (n + 1) lv q acc st = wordG R n lv q acc st
  | 0, _, _, _, st, h => by omega
  | n + 1, lv, q, acc, ⟨[], bad⟩, h => rfl
  | n + 1, lv, q, acc, ⟨c :: r, bad⟩, h => by
    have hr : r.length < n := by simp at h; omega
    have e1 : dollarG R (wordG R (n + 1) .brc q []) q r = dollarG R (wordG R n .brc q []) q r := dollarG_eq fun st hst => wordG_more R n _ _ _ st (by omega)
    have e2 : wordG R (n + 1) .dbl true [] ⟨r, false⟩ = wordG R n .dbl true [] ⟨r, false⟩ := wordG_more R n _ _ _ _ hr
    conv => lhs; unfold wordG
    conv => rhs; unfold wordG
    simp only [e1, e2]
    rw [wordG_more R n lv q _ ⟨(R.pr lv q r).2, false⟩ (by have := R.prLen lv q r; simp only; omega),
      wordG_more R n lv q _ (dollarG R (wordG R n .brc q []) q r).2 (by have := dollarG_len (R := R) (q := q) (r := r) (W := wordG R n .brc q []) (fun st _ => wordG_len R n _ _ _ st); omega),
      wordG_more R n lv q _ ⟨(cutR 39 r).2, false⟩ (by have := cutR_len 39 r; simp only; omega),
      wordG_more R n lv q _ ⟨strip34 (wordG R n .dbl true [] ⟨r, false⟩).2.s, (wordG R n .dbl true [] ⟨r, false⟩).2.bad⟩ (by have := strip34_len (wordG R n .dbl true [] ⟨r, false⟩).2.s; have h2 := wordG_len R n .dbl true [] ⟨r, false⟩; simp only at h2 ⊢; omega),
      wordG_more R n lv q _ ⟨r, false⟩ hr]
theorem wordG_fuel (R : Rdr) (n k : Nat) (lv : Lv) (q : Bool) (acc : List Prt) (st : Rst) (h : st.s.length < n) : wordG R (n + k) lv q acc st = wordG R n lv q acc st := by
  induction k with
  | zero => rfl
  | succ k ih => rw [← Nat.add_assoc, wordG_more R (n + k) lv q acc st (by omega), ih]
/-- A word at a level, up to its end, behind the parts that are out. -/
def readG (R : Rdr) (lv : Lv) (q : Bool) (acc : List Prt) (st : Rst) : List Prt × Rst := wordG R (st.s.length + 1) lv q acc st
theorem wordG_W {R : Rdr} {n : Nat} {lv : Lv} {q : Bool} {acc : List Prt} {st : Rst} (h : st.s.length < n) : wordG R n lv q acc st = readG R lv q acc st := by
  obtain ⟨k, rfl⟩ : ∃ k, n = st.s.length + 1 + k := ⟨n - (st.s.length + 1), by omega⟩
  exact wordG_fuel _ _ _ _ _ _ _ (Nat.lt_succ_self _)
variable {R : Rdr}
theorem readG_len (lv : Lv) (q : Bool) (acc : List Prt) (st : Rst) : (readG R lv q acc st).2.s.length ≤ st.s.length := wordG_len _ _ _ _ _ _
theorem readG_nil (lv : Lv) (q : Bool) (acc : List Prt) (b : Bool) : readG R lv q acc ⟨[], b⟩ = (acc, ⟨[], b⟩) := rfl
theorem readG_bad (lv : Lv) (q : Bool) (acc : List Prt) (s : List UInt8) : readG R lv q acc ⟨s, true⟩ = (acc, ⟨s, true⟩) := by
  cases s with
  | nil => rfl
  | cons c r => unfold readG wordG; simp
theorem readG_end {lv : Lv} (q : Bool) (acc : List Prt) {c : UInt8} (r : List UInt8) (b : Bool) (h : lv.ends = some c) : readG R lv q acc ⟨c :: r, b⟩ = (acc, ⟨c :: r, b⟩) := by
  unfold readG wordG; simp [h]
theorem readG_pr (lv : Lv) (q : Bool) (acc : List Prt) (r : List UInt8) : readG R lv q acc ⟨92 :: r, false⟩ = readG R lv q (putF acc (R.pr lv q r).1) ⟨(R.pr lv q r).2, false⟩ := by
  conv => lhs; unfold readG wordG
  simp only [Bool.false_eq_true, false_or, if_neg lv.ne92, if_true]
  exact wordG_W (by have := R.prLen lv q r; simp; omega)
theorem readG_pair (lv : Lv) (q : Bool) (acc : List Prt) (d : UInt8) (r : List UInt8) : readG R lv q acc ⟨92 :: d :: r, false⟩ = readG R lv q (putF acc (pairR lv (d :: r)).1) ⟨(pairR lv (d :: r)).2, false⟩ := by
  rw [readG_pr, R.prOk]
theorem dollarGW_eq {n : Nat} {q : Bool} {r : List UInt8} (h : r.length < n) : dollarG R (wordG R n .brc q []) q r = dollarG R (readG R .brc q []) q r := dollarG_eq fun st hst => wordG_W (by omega)
theorem dollarGW_len (q : Bool) (r : List UInt8) : (dollarG R (readG R .brc q []) q r).2.s.length ≤ r.length := dollarG_len fun st _ => readG_len _ _ _ st
theorem readG_dollar (lv : Lv) (q : Bool) (acc : List Prt) (r : List UInt8) : readG R lv q acc ⟨36 :: r, false⟩ = readG R lv q (putF acc (dollarG R (readG R .brc q []) q r).1) (dollarG R (readG R .brc q []) q r).2 := by
  conv => lhs; unfold readG wordG
  simp only [Bool.false_eq_true, false_or, if_neg lv.ne36, if_true, show ¬ ((36 : UInt8) = 92) by decide, if_false, List.length_cons]
  rw [dollarGW_eq (Nat.lt_succ_self _)]
  exact wordG_W (by have := dollarGW_len (R := R) q r; omega)
theorem readG_single {lv : Lv} (q : Bool) (acc : List Prt) (r : List UInt8) (h : lv ≠ .dbl) : readG R lv q acc ⟨39 :: r, false⟩ = readG R lv q (putF acc (.mk 1 (cutR 39 r).1 [] true)) ⟨(cutR 39 r).2, false⟩ := by
  conv => lhs; unfold readG wordG
  simp only [Bool.false_eq_true, false_or, if_neg lv.ne39, if_true, show ¬ ((39 : UInt8) = 92) by decide, show ¬ ((39 : UInt8) = 36) by decide, if_false, List.length_cons, true_and, if_pos h]
  exact wordG_W (by have := cutR_len 39 r; simp; omega)
theorem readG_double {lv : Lv} (q : Bool) (acc : List Prt) (r : List UInt8) (h : lv ≠ .dbl) : readG R lv q acc ⟨34 :: r, false⟩ = readG R lv q ((quoted0 (readG R .dbl true [] ⟨r, false⟩).1).foldl putF acc) ⟨strip34 (readG R .dbl true [] ⟨r, false⟩).2.s, (readG R .dbl true [] ⟨r, false⟩).2.bad⟩ := by
  conv => lhs; unfold readG wordG
  simp only [Bool.false_eq_true, false_or, if_neg (Lv.ne34 h), if_true, show ¬ ((34 : UInt8) = 92) by decide, show ¬ ((34 : UInt8) = 36) by decide, show ¬ ((34 : UInt8) = 39) by decide, if_false, List.length_cons, true_and, false_and, if_pos h]
  rw [show wordG R (r.length + 1) .dbl true [] ⟨r, false⟩ = readG R .dbl true [] ⟨r, false⟩ from rfl]
  exact wordG_W (by have h1 := strip34_len (readG R .dbl true [] ⟨r, false⟩).2.s; have h2 := readG_len (R := R) .dbl true [] ⟨r, false⟩; simp only at h1 h2 ⊢; omega)
theorem readG_one {lv : Lv} (q : Bool) (acc : List Prt) {c : UInt8} (r : List UInt8) (h0 : lv.ends ≠ some c) (h1 : c ≠ 92) (h2 : c ≠ 36) (h3 : ¬ (c = 39 ∧ lv ≠ .dbl)) (h4 : ¬ (c = 34 ∧ lv ≠ .dbl)) :
    readG R lv q acc ⟨c :: r, false⟩ = readG R lv q (putF acc (.mk 1 [c] [] q)) ⟨r, false⟩ := by
  conv => lhs; unfold readG wordG
  simp only [Bool.false_eq_true, false_or, if_neg h0, if_neg h1, if_neg h2, if_neg h3, if_neg h4, List.length_cons]
  exact wordG_W (by simp)
/-- The program's own reader. -/
def ownR : Rdr where
  ar := arithW 0
  pr := fun lv _ r => pairR lv r
  arLen := fun r x h => arithW_len r 0 h
  prLen := fun lv q r => pairR_len lv r
  arOk := fun _ _ _ _ => rfl
  prOk := fun _ _ _ _ => rfl
theorem dollarG_own (W : Rst → List Prt × Rst) (q : Bool) (r : List UInt8) : dollarG ownR W q r = dollarR W q r := by
  unfold dollarG
  split
  · rename_i h
    unfold dollarR
    rw [if_pos h]
    rfl
  · rfl
theorem wordG_own : ∀ (n : Nat) (lv : Lv) (q : Bool) (acc : List Prt) (st : Rst), wordG ownR n lv q acc st = wordR n lv q acc st
  | 0, _, _, _, _ => rfl
  | n + 1, lv, q, acc, ⟨[], bad⟩ => rfl
  | n + 1, lv, q, acc, ⟨c :: r, bad⟩ => by
    have e1 : wordG ownR n .brc q [] = wordR n .brc q [] := funext fun st => wordG_own n .brc q [] st
    have e2 := wordG_own n .dbl true [] ⟨r, false⟩
    unfold wordG wordR
    simp only [e1, e2, dollarG_own, wordG_own n]
    rfl
theorem readG_own (lv : Lv) (q : Bool) (acc : List Prt) (st : Rst) : readG ownR lv q acc st = wordW lv q acc st := wordG_own _ _ _ _ _
end Go.Proofs.YtifcgeanippepaaDoor
