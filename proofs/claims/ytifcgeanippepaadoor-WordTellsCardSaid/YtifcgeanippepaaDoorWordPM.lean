/- Words, plain: parts; how a raw word is read; its text. -/
import Derived.Test.YtifcgeanippepaaDoorLex2M
namespace Go.Proofs.YtifcgeanippepaaDoor
open Go Go.RowKit Go.Lw
set_option linter.unusedVariables false
set_option linter.unusedSimpArgs false
/-- A part of a word. -/
inductive Prt where
  | mk (kind : Int) (text : List UInt8) (orw : List Prt) (quoted : Bool)
namespace Prt
def kind : Prt → Int | mk k _ _ _ => k
def text : Prt → List UInt8 | mk _ t _ _ => t
def orw : Prt → List Prt | mk _ _ o _ => o
def quoted : Prt → Bool | mk _ _ _ q => q
end Prt
/-- A part behind others. -/
def putF (w : List Prt) (p : Prt) : List Prt := match w.getLast? with
  | none => [p]
  | some l => if p.kind = 1 ∧ l.kind = 1 ∧ l.quoted = p.quoted then w.dropLast ++ [.mk l.kind (l.text ++ p.text) l.orw l.quoted] else w ++ [p]
/-- The levels at which is read. -/
inductive Lv where
  | bare
  | dbl
  | brc
deriving DecidableEq
def Lv.num : Lv → Int
  | bare => 0
  | dbl => 1
  | brc => 2
def Lv.ends : Lv → Option UInt8
  | bare => none
  | dbl => some 34
  | brc => some 125
/-- What a reader has left; is a brace none? -/
structure Rst where
  s : List UInt8
  bad : Bool
/-- A name at the front. -/
def nameT : List UInt8 → List UInt8
  | [] => []
  | c :: r => if letterB c true then (c :: r.takeWhile (fun c => letterB c false)).take 32 else []
/-- Arithmetic, up to its brackets. -/
def arithW : Nat → List UInt8 → Option (List UInt8 × List UInt8)
  | _, [] => none
  | o, c :: r =>
    if c = 40 then (arithW (o + 1) r).map (fun x => (c :: x.1, x.2))
    else if c = 41 ∧ 0 < o then (arithW (o - 1) r).map (fun x => (c :: x.1, x.2))
    else if c = 41 ∧ r.take 1 = [41] then some ([], r.drop 1)
    else (arithW o r).map (fun x => (c :: x.1, x.2))
/-- Up to a byte, and that. -/
def cutR (c : UInt8) (r : List UInt8) : List UInt8 × List UInt8 := (r.takeWhile (· != c), (r.dropWhile (· != c)).drop 1)
def oddB (c : UInt8) : Bool := c == 36 || c == 34 || c == 92 || c == 96
/-- Behind a backslash. -/
def pairR (lv : Lv) (r : List UInt8) : Prt × List UInt8 :=
  (.mk 1 (if lv = .dbl ∧ (r.take 1).all oddB = false then 92 :: r.take 1 else r.take 1) [] true, r.drop 1)
/-- What may close a brace. -/
def closeR (st : Rst) : Rst := if st.bad then st else if st.s.take 1 = [125] then ⟨st.s.drop 1, false⟩ else ⟨st.s, true⟩
/-- Behind a dollar. -/
def dollarR (W : Rst → List Prt × Rst) (q : Bool) (r : List UInt8) : Prt × Rst :=
  if r.take 2 = [40, 40] then
    match arithW 0 (r.drop 2) with
    | some x => (.mk 5 x.1 [] q, ⟨x.2, false⟩)
    | none => (.mk 5 [] [] q, ⟨r.drop 2, true⟩)
  else if r.take 1 = [123] then
    if nameT (r.drop 1) = [] then (.mk 2 [] [] q, ⟨r.drop 1, true⟩)
    else if ((r.drop 1).drop (nameT (r.drop 1)).length).take 2 = [58, 45] then
      (.mk 3 (nameT (r.drop 1)) (W ⟨((r.drop 1).drop (nameT (r.drop 1)).length).drop 2, false⟩).1 q, closeR (W ⟨((r.drop 1).drop (nameT (r.drop 1)).length).drop 2, false⟩).2)
    else (.mk 2 (nameT (r.drop 1)) [] q, closeR ⟨(r.drop 1).drop (nameT (r.drop 1)).length, false⟩)
  else if r.take 1 = [63] then (.mk 4 [] [] q, ⟨r.drop 1, false⟩)
  else if nameT r = [] then (.mk 1 [36] [] q, ⟨r, false⟩)
  else (.mk 2 (nameT r) [] q, ⟨r.drop (nameT r).length, false⟩)
def quoted0 (l : List Prt) : List Prt := if l.isEmpty then [.mk 1 [] [] true] else l
def strip34 (s : List UInt8) : List UInt8 := if s.take 1 = [34] then s.drop 1 else s
/-- A word at a level, up to its end, behind the parts that are out. -/
def wordR : Nat → Lv → Bool → List Prt → Rst → List Prt × Rst
  | 0, _, _, acc, st => (acc, st)
  | n + 1, lv, q, acc, ⟨s, bad⟩ => match s with
    | [] => (acc, ⟨s, bad⟩)
    | c :: r =>
      if bad = true ∨ lv.ends = some c then (acc, ⟨s, bad⟩)
      else if c = 92 then wordR n lv q (putF acc (pairR lv r).1) ⟨(pairR lv r).2, false⟩
      else if c = 36 then wordR n lv q (putF acc (dollarR (wordR n .brc q []) q r).1) (dollarR (wordR n .brc q []) q r).2
      else if c = 39 ∧ lv ≠ .dbl then wordR n lv q (putF acc (.mk 1 (cutR 39 r).1 [] true)) ⟨(cutR 39 r).2, false⟩
      else if c = 34 ∧ lv ≠ .dbl then
        wordR n lv q ((quoted0 (wordR n .dbl true [] ⟨r, false⟩).1).foldl putF acc) ⟨strip34 (wordR n .dbl true [] ⟨r, false⟩).2.s, (wordR n .dbl true [] ⟨r, false⟩).2.bad⟩
      else wordR n lv q (putF acc (.mk 1 [c] [] q)) ⟨r, false⟩
/-- Are two words the same? -/
def sameP : Prt → Prt → Bool
  | .mk k t o q, .mk k' t' o' q' => decide (k = k') && decide (t = t') && (q == q') && sameL o o'
where sameL : List Prt → List Prt → Bool
  | [], [] => true
  | [], _ :: _ => false
  | _ :: _, [] => false
  | a :: l, b :: m => sameP a b && sameL l m
abbrev sameW := sameP.sameL
/-- A Quoted Plain's text. -/
def quoteF (s : List UInt8) : List UInt8 :=
  if s.contains 39 then [34] ++ s.flatMap (fun c => if oddB c then [92, c] else [c]) ++ [34] else [39] ++ s ++ [39]
/-- A part's text. -/
def textP : Prt → List UInt8
  | .mk k t o q =>
    if k = 1 then (if q then quoteF t else t)
    else
      let x := if k = 2 then [36, 123] ++ t ++ [125] else if k = 3 then [36, 123] ++ t ++ [58, 45] ++ textL o ++ [125] else if k = 4 then [36, 63] else if k = 5 then [36, 40, 40] ++ t ++ [41, 41] else t
      if q then [34] ++ x ++ [34] else x
where textL : List Prt → List UInt8
  | [] => []
  | p :: l => textP p ++ textL l
abbrev textW := textP.textL
theorem pairR_len (lv : Lv) (r : List UInt8) : (pairR lv r).2.length ≤ r.length := by
  show (r.drop 1).length ≤ _
  rw [List.length_drop]; omega
theorem cutR_len (c : UInt8) (r : List UInt8) : (cutR c r).2.length ≤ r.length := by
  show ((r.dropWhile (· != c)).drop 1).length ≤ _
  have := takeWhile_len (· != c) r
  rw [List.length_drop]; omega
theorem arithW_len : ∀ (r : List UInt8) (o : Nat) {x : List UInt8 × List UInt8}, arithW o r = some x → x.2.length ≤ r.length
  | [], o, x, h => by cases h
  | c :: r, o, x, h => by
    have key : ∀ {o' : Nat} {x : List UInt8 × List UInt8}, (arithW o' r).map (fun x => (c :: x.1, x.2)) = some x → x.2.length ≤ (c :: r).length := by
      intro o' x h
      cases hy : arithW o' r with
      | none => rw [hy] at h; cases h
      | some y =>
        rw [hy] at h; cases h
        have := arithW_len r o' hy
        simp; omega
    unfold arithW at h
    split at h
    · exact key h
    · split at h
      · exact key h
      · split at h
        · cases h; simp; omega
        · exact key h
theorem strip34_len (s : List UInt8) : (strip34 s).length ≤ s.length := by
  unfold strip34
  split
  · rw [List.length_drop]; omega
  · exact Nat.le_refl _
theorem closeR_len (st : Rst) : (closeR st).s.length ≤ st.s.length := by
  unfold closeR
  split
  · exact Nat.le_refl _
  · split
    · show (st.s.drop 1).length ≤ _
      rw [List.length_drop]; omega
    · exact Nat.le_refl _
theorem dollarR_len {W : Rst → List Prt × Rst} {q : Bool} {r : List UInt8} (hW : ∀ st, st.s.length ≤ r.length → (W st).2.s.length ≤ st.s.length) : (dollarR W q r).2.s.length ≤ r.length := by
  unfold dollarR
  split
  · split
    · rename_i x h
      have := arithW_len _ _ h
      show x.2.length ≤ _
      rw [List.length_drop] at this; omega
    · show (r.drop 2).length ≤ _
      rw [List.length_drop]; omega
  · split
    · split
      · show (r.drop 1).length ≤ _
        rw [List.length_drop]; omega
      · split
        · refine Nat.le_trans (closeR_len _) (Nat.le_trans (hW _ ?_) ?_) <;> (simp only [List.length_drop]; omega)
        · refine Nat.le_trans (closeR_len _) ?_
          simp only [List.length_drop]; omega
    · split
      · show (r.drop 1).length ≤ _
        rw [List.length_drop]; omega
      · split
        · exact Nat.le_refl _
        · show (r.drop _).length ≤ _
          rw [List.length_drop]; omega
/-- What is left is no longer. -/
theorem wordR_len : ∀ (n : Nat) (lv : Lv) (q : Bool) (acc : List Prt) (st : Rst), (wordR n lv q acc st).2.s.length ≤ st.s.length
  | 0, _, _, _, st => Nat.le_refl _
  | n + 1, lv, q, acc, ⟨[], bad⟩ => Nat.le_refl _
  | n + 1, lv, q, acc, ⟨c :: r, bad⟩ => by
    unfold wordR
    simp only
    split
    · exact Nat.le_refl _
    · split
      · refine Nat.le_trans (wordR_len n _ _ _ _) ?_
        have := pairR_len lv r
        simp; omega
      · split
        · refine Nat.le_trans (wordR_len n _ _ _ _) ?_
          have := dollarR_len (q := q) (r := r) (W := wordR n .brc q []) (fun st _ => wordR_len n _ _ _ st)
          simp; omega
        · split
          · refine Nat.le_trans (wordR_len n _ _ _ _) ?_
            have := cutR_len 39 r
            simp; omega
          · split
            · refine Nat.le_trans (wordR_len n _ _ _ _) ?_
              refine Nat.le_trans (strip34_len _) ?_
              have := wordR_len n .dbl true [] ⟨r, false⟩
              simp at this ⊢; omega
            · refine Nat.le_trans (wordR_len n _ _ _ _) ?_
              simp
theorem dollarR_eq {W V : Rst → List Prt × Rst} {q : Bool} {r : List UInt8} (h : ∀ st, st.s.length ≤ r.length → W st = V st) : dollarR W q r = dollarR V q r := by
  unfold dollarR
  rw [h ⟨((r.drop 1).drop (nameT (r.drop 1)).length).drop 2, false⟩ (by simp only [List.length_drop]; omega)]
/-- More steps turn nothing. -/
theorem wordR_more : ∀ (n : Nat) (lv : Lv) (q : Bool) (acc : List Prt) (st : Rst), st.s.length < n → wordR (n + 1) lv q acc st = wordR n lv q acc st
  | 0, _, _, _, st, h => by omega
  | n + 1, lv, q, acc, ⟨[], bad⟩, h => rfl
  | n + 1, lv, q, acc, ⟨c :: r, bad⟩, h => by
    have hr : r.length < n := by simp at h; omega
    have e1 : dollarR (wordR (n + 1) .brc q []) q r = dollarR (wordR n .brc q []) q r := dollarR_eq fun st hst => wordR_more n _ _ _ st (by omega)
    have e2 : wordR (n + 1) .dbl true [] ⟨r, false⟩ = wordR n .dbl true [] ⟨r, false⟩ := wordR_more n _ _ _ _ hr
    conv => lhs; unfold wordR
    conv => rhs; unfold wordR
    simp only [e1, e2]
    rw [wordR_more n lv q _ ⟨(pairR lv r).2, false⟩ (by have := pairR_len lv r; simp only; omega),
      wordR_more n lv q _ (dollarR (wordR n .brc q []) q r).2 (by have := dollarR_len (q := q) (r := r) (W := wordR n .brc q []) (fun st _ => wordR_len n _ _ _ st); omega),
      wordR_more n lv q _ ⟨(cutR 39 r).2, false⟩ (by have := cutR_len 39 r; simp only; omega),
      wordR_more n lv q _ ⟨strip34 (wordR n .dbl true [] ⟨r, false⟩).2.s, (wordR n .dbl true [] ⟨r, false⟩).2.bad⟩ (by have := strip34_len (wordR n .dbl true [] ⟨r, false⟩).2.s; have h2 := wordR_len n .dbl true [] ⟨r, false⟩; simp only at h2 ⊢; omega),
      wordR_more n lv q _ ⟨r, false⟩ hr]
theorem wordR_fuel (n k : Nat) (lv : Lv) (q : Bool) (acc : List Prt) (st : Rst) (h : st.s.length < n) : wordR (n + k) lv q acc st = wordR n lv q acc st := by
  induction k with
  | zero => rfl
  | succ k ih => rw [← Nat.add_assoc, wordR_more (n + k) lv q acc st (by omega), ih]
/-- A word at a level, up to its end, behind the parts that are out. -/
def wordW (lv : Lv) (q : Bool) (acc : List Prt) (st : Rst) : List Prt × Rst := wordR (st.s.length + 1) lv q acc st
theorem wordR_W {n : Nat} {lv : Lv} {q : Bool} {acc : List Prt} {st : Rst} (h : st.s.length < n) : wordR n lv q acc st = wordW lv q acc st := by
  obtain ⟨k, rfl⟩ : ∃ k, n = st.s.length + 1 + k := ⟨n - (st.s.length + 1), by omega⟩
  exact wordR_fuel _ _ _ _ _ _ (Nat.lt_succ_self _)
theorem wordW_len (lv : Lv) (q : Bool) (acc : List Prt) (st : Rst) : (wordW lv q acc st).2.s.length ≤ st.s.length := wordR_len _ _ _ _ _
theorem wordW_nil (lv : Lv) (q : Bool) (acc : List Prt) (b : Bool) : wordW lv q acc ⟨[], b⟩ = (acc, ⟨[], b⟩) := rfl
theorem wordW_bad (lv : Lv) (q : Bool) (acc : List Prt) (s : List UInt8) : wordW lv q acc ⟨s, true⟩ = (acc, ⟨s, true⟩) := by
  cases s with
  | nil => rfl
  | cons c r => unfold wordW wordR; simp
theorem wordW_end {lv : Lv} (q : Bool) (acc : List Prt) {c : UInt8} (r : List UInt8) (b : Bool) (h : lv.ends = some c) : wordW lv q acc ⟨c :: r, b⟩ = (acc, ⟨c :: r, b⟩) := by
  unfold wordW wordR; simp [h]
theorem Lv.ne92 (lv : Lv) : lv.ends ≠ some 92 := by cases lv <;> decide
theorem Lv.ne36 (lv : Lv) : lv.ends ≠ some 36 := by cases lv <;> decide
theorem Lv.ne39 (lv : Lv) : lv.ends ≠ some 39 := by cases lv <;> decide
theorem Lv.ne34 {lv : Lv} (h : lv ≠ .dbl) : lv.ends ≠ some 34 := by cases lv <;> first | decide | exact absurd rfl h
theorem wordW_pair (lv : Lv) (q : Bool) (acc : List Prt) (r : List UInt8) : wordW lv q acc ⟨92 :: r, false⟩ = wordW lv q (putF acc (pairR lv r).1) ⟨(pairR lv r).2, false⟩ := by
  conv => lhs; unfold wordW wordR
  simp only [Bool.false_eq_true, false_or, if_neg lv.ne92, if_true]
  exact wordR_W (by have := pairR_len lv r; simp; omega)
theorem dollarW_eq {n : Nat} {q : Bool} {r : List UInt8} (h : r.length < n) : dollarR (wordR n .brc q []) q r = dollarR (wordW .brc q []) q r := dollarR_eq fun st hst => wordR_W (by omega)
theorem dollarW_len (q : Bool) (r : List UInt8) : (dollarR (wordW .brc q []) q r).2.s.length ≤ r.length := dollarR_len fun st _ => wordW_len _ _ _ st
theorem wordW_dollar (lv : Lv) (q : Bool) (acc : List Prt) (r : List UInt8) : wordW lv q acc ⟨36 :: r, false⟩ = wordW lv q (putF acc (dollarR (wordW .brc q []) q r).1) (dollarR (wordW .brc q []) q r).2 := by
  conv => lhs; unfold wordW wordR
  simp only [Bool.false_eq_true, false_or, if_neg lv.ne36, if_true, show ¬ ((36 : UInt8) = 92) by decide, if_false, List.length_cons]
  rw [dollarW_eq (Nat.lt_succ_self _)]
  exact wordR_W (by have := dollarW_len q r; omega)
theorem wordW_single {lv : Lv} (q : Bool) (acc : List Prt) (r : List UInt8) (h : lv ≠ .dbl) : wordW lv q acc ⟨39 :: r, false⟩ = wordW lv q (putF acc (.mk 1 (cutR 39 r).1 [] true)) ⟨(cutR 39 r).2, false⟩ := by
  conv => lhs; unfold wordW wordR
  simp only [Bool.false_eq_true, false_or, if_neg lv.ne39, if_true, show ¬ ((39 : UInt8) = 92) by decide, show ¬ ((39 : UInt8) = 36) by decide, if_false, List.length_cons, true_and, if_pos h]
  exact wordR_W (by have := cutR_len 39 r; simp; omega)
theorem wordW_double {lv : Lv} (q : Bool) (acc : List Prt) (r : List UInt8) (h : lv ≠ .dbl) : wordW lv q acc ⟨34 :: r, false⟩ = wordW lv q ((quoted0 (wordW .dbl true [] ⟨r, false⟩).1).foldl putF acc) ⟨strip34 (wordW .dbl true [] ⟨r, false⟩).2.s, (wordW .dbl true [] ⟨r, false⟩).2.bad⟩ := by
  conv => lhs; unfold wordW wordR
  simp only [Bool.false_eq_true, false_or, if_neg (Lv.ne34 h), if_true, show ¬ ((34 : UInt8) = 92) by decide, show ¬ ((34 : UInt8) = 36) by decide, show ¬ ((34 : UInt8) = 39) by decide, if_false, List.length_cons, true_and, false_and, if_pos h]
  rw [show wordR (r.length + 1) .dbl true [] ⟨r, false⟩ = wordW .dbl true [] ⟨r, false⟩ from rfl]
  exact wordR_W (by have h1 := strip34_len (wordW .dbl true [] ⟨r, false⟩).2.s; have h2 := wordW_len .dbl true [] ⟨r, false⟩; simp only at h1 h2 ⊢; omega)
theorem wordW_one {lv : Lv} (q : Bool) (acc : List Prt) {c : UInt8} (r : List UInt8) (h0 : lv.ends ≠ some c) (h1 : c ≠ 92) (h2 : c ≠ 36) (h3 : ¬ (c = 39 ∧ lv ≠ .dbl)) (h4 : ¬ (c = 34 ∧ lv ≠ .dbl)) :
    wordW lv q acc ⟨c :: r, false⟩ = wordW lv q (putF acc (.mk 1 [c] [] q)) ⟨r, false⟩ := by
  conv => lhs; unfold wordW wordR
  simp only [Bool.false_eq_true, false_or, if_neg h0, if_neg h1, if_neg h2, if_neg h3, if_neg h4, List.length_cons]
  exact wordR_W (by simp)
/-- Parse. -/
def parseW (s : List UInt8) : Except Nat (List Prt) := match lexT s with
  | .error e => .error e
  | .ok l => if l.length = 1 ∧ l.map Tk.kind = [1] ∧ l.map Tk.text = [s] then
      (if (wordW .bare false [] ⟨s, false⟩).2.bad then .error 5 else .ok (wordW .bare false [] ⟨s, false⟩).1)
    else .error 5
/-- How many bytes the texts of a row's parts have. -/
def tmass (l : List Prt) : Nat := (l.map fun p => p.text.length).sum
theorem tmass_app (a b : List Prt) : tmass (a ++ b) = tmass a + tmass b := by
  unfold tmass; rw [List.map_append, List.sum_append]
theorem tmass_one (p : Prt) : tmass [p] = p.text.length := by unfold tmass; simp
theorem tmass_mem {l : List Prt} {p : Prt} (h : p ∈ l) : p.text.length ≤ tmass l := by
  induction l with
  | nil => cases h
  | cons x l ih =>
    have e : tmass (x :: l) = x.text.length + tmass l := rfl
    rcases List.mem_cons.1 h with rfl | h
    · omega
    · have := ih h; omega
theorem putF_mass (l : List Prt) (p : Prt) : (putF l p).length ≤ l.length + 1 ∧ tmass (putF l p) = tmass l + p.text.length := by
  rcases List.eq_nil_or_concat l with rfl | ⟨l, x, rfl⟩
  · exact ⟨Nat.le_refl _, by show tmass [p] = _; rw [tmass_one]; show _ = 0 + _; omega⟩
  · rw [List.concat_eq_append]
    unfold putF
    rw [List.getLast?_append]
    simp only [List.getLast?_singleton, Option.or_some, Option.some_or]
    split
    · rw [List.dropLast_append_of_ne_nil (by simp)]
      simp only [List.dropLast_singleton, List.append_nil, tmass_app, tmass_one, List.length_append]
      refine ⟨by simp, ?_⟩
      show tmass l + (x.text ++ p.text).length = _
      rw [List.length_append]; omega
    · simp only [tmass_app, tmass_one, List.length_append]
      exact ⟨by simp, trivial⟩
theorem fold_mass : ∀ (m l : List Prt), (m.foldl putF l).length ≤ l.length + m.length ∧ tmass (m.foldl putF l) = tmass l + tmass m
  | [], l => ⟨Nat.le_refl _, rfl⟩
  | p :: m, l => by
    have h := fold_mass m (putF l p)
    have h2 := putF_mass l p
    have e : tmass (p :: m) = p.text.length + tmass m := rfl
    rw [List.foldl_cons, List.length_cons, e]
    omega
theorem quoted0_mass (l : List Prt) : (quoted0 l).length ≤ l.length + 1 ∧ tmass (quoted0 l) = tmass l := by
  cases l with
  | nil => exact ⟨Nat.le_refl _, rfl⟩
  | cons p l => exact ⟨by simp [quoted0], rfl⟩
theorem nameT_len' (s : List UInt8) : (nameT s).length ≤ s.length := by
  cases s with
  | nil => exact Nat.zero_le _
  | cons c r =>
    unfold nameT
    simp only
    split
    · have := takeWhile_len (fun c => letterB c false) r
      rw [List.length_take, List.length_cons, List.length_cons]
      omega
    · exact Nat.zero_le _
theorem arithW_mass : ∀ (r : List UInt8) (o : Nat) {x : List UInt8 × List UInt8}, arithW o r = some x → x.1.length + x.2.length ≤ r.length
  | [], o, x, h => by cases h
  | c :: r, o, x, h => by
    have key : ∀ {o' : Nat} {x : List UInt8 × List UInt8}, (arithW o' r).map (fun x => (c :: x.1, x.2)) = some x → x.1.length + x.2.length ≤ (c :: r).length := by
      intro o' x h
      cases hy : arithW o' r with
      | none => rw [hy] at h; cases h
      | some y =>
        rw [hy] at h; cases h
        have := arithW_mass r o' hy
        simp; omega
    unfold arithW at h
    split at h
    · exact key h
    · split at h
      · exact key h
      · split at h
        · cases h; simp; omega
        · exact key h
theorem dollarR_mass {W : Rst → List Prt × Rst} {q : Bool} {r : List UInt8} (hW : ∀ st, st.s.length ≤ r.length → (W st).2.s.length ≤ st.s.length) : (dollarR W q r).1.text.length + (dollarR W q r).2.s.length ≤ r.length + 1 := by
  have hn := nameT_len' (r.drop 1)
  have hn2 := nameT_len' r
  have hl := dollarR_len (q := q) hW
  unfold dollarR at hl ⊢
  split
  · split
    · rename_i x h
      have := arithW_mass _ _ h
      show x.1.length + x.2.length ≤ _
      rw [List.length_drop] at this; omega
    · show 0 + (r.drop 2).length ≤ _
      rw [List.length_drop]; omega
  · rename_i h0
    rw [if_neg h0] at hl
    split
    · rename_i h1
      rw [if_pos h1] at hl
      rw [List.length_drop] at hn
      split
      · show 0 + (r.drop 1).length ≤ _
        rw [List.length_drop]; omega
      · split
        · show (nameT (r.drop 1)).length + (closeR (W _).2).s.length ≤ _
          have h3 := closeR_len (W ⟨((r.drop 1).drop (nameT (r.drop 1)).length).drop 2, false⟩).2
          have h4 := hW ⟨((r.drop 1).drop (nameT (r.drop 1)).length).drop 2, false⟩ (by simp only [List.length_drop]; omega)
          simp only [List.length_drop] at h4
          omega
        · show (nameT (r.drop 1)).length + (closeR _).s.length ≤ _
          have h3 := closeR_len ⟨(r.drop 1).drop (nameT (r.drop 1)).length, false⟩
          simp only [List.length_drop] at h3
          omega
    · rename_i h1
      rw [if_neg h1] at hl
      split
      · show 0 + (r.drop 1).length ≤ _
        rw [List.length_drop]; omega
      · split
        · show 1 + r.length ≤ _
          omega
        · show (nameT r).length + (r.drop _).length ≤ _
          rw [List.length_drop]; omega
theorem pairR_mass (lv : Lv) (r : List UInt8) : (pairR lv r).1.text.length + (pairR lv r).2.length ≤ r.length + 1 := by
  show (if lv = .dbl ∧ (r.take 1).all oddB = false then 92 :: r.take 1 else r.take 1).length + (r.drop 1).length ≤ _
  rw [List.length_drop]
  split
  · rw [List.length_cons, List.length_take]; omega
  · rw [List.length_take]; omega
theorem cutR_mass (c : UInt8) (r : List UInt8) : (cutR c r).1.length + (cutR c r).2.length ≤ r.length := by
  show (r.takeWhile (· != c)).length + ((r.dropWhile (· != c)).drop 1).length ≤ _
  have := takeWhile_len (· != c) r
  rw [List.length_drop]; omega
/-- What is out and what is left together grow no larger. -/
theorem wordR_mass : ∀ (n : Nat) (lv : Lv) (q : Bool) (acc : List Prt) (st : Rst), (wordR n lv q acc st).1.length + (wordR n lv q acc st).2.s.length ≤ acc.length + st.s.length ∧ tmass (wordR n lv q acc st).1 + (wordR n lv q acc st).2.s.length ≤ tmass acc + st.s.length
  | 0, _, _, _, st => ⟨Nat.le_refl _, Nat.le_refl _⟩
  | n + 1, lv, q, acc, ⟨[], bad⟩ => ⟨Nat.le_refl _, Nat.le_refl _⟩
  | n + 1, lv, q, acc, ⟨c :: r, bad⟩ => by
    unfold wordR
    simp only
    have key : ∀ (p : Prt) (st : Rst), p.text.length + st.s.length ≤ r.length + 1 → st.s.length ≤ r.length → (wordR n lv q (putF acc p) st).1.length + (wordR n lv q (putF acc p) st).2.s.length ≤ acc.length + (c :: r).length ∧ tmass (wordR n lv q (putF acc p) st).1 + (wordR n lv q (putF acc p) st).2.s.length ≤ tmass acc + (c :: r).length := by
      intro p st h1 h2
      have h := wordR_mass n lv q (putF acc p) st
      have h3 := putF_mass acc p
      rw [List.length_cons]
      omega
    split
    · exact ⟨Nat.le_refl _, Nat.le_refl _⟩
    · split
      · exact key _ _ (pairR_mass lv r) (pairR_len lv r)
      · split
        · exact key _ _ (dollarR_mass (fun st _ => wordR_len n _ _ _ st)) (dollarR_len (fun st _ => wordR_len n _ _ _ st))
        · split
          · exact key _ _ (by have := cutR_mass 39 r; show (cutR 39 r).1.length + (cutR 39 r).2.length ≤ _; omega) (cutR_len 39 r)
          · split
            · have h1 := wordR_mass n .dbl true [] ⟨r, false⟩
              have h2 := strip34_len (wordR n .dbl true [] ⟨r, false⟩).2.s
              have h3 := quoted0_mass (wordR n .dbl true [] ⟨r, false⟩).1
              have h4 := fold_mass (quoted0 (wordR n .dbl true [] ⟨r, false⟩).1) acc
              have h5 := wordR_mass n lv q ((quoted0 (wordR n .dbl true [] ⟨r, false⟩).1).foldl putF acc) ⟨strip34 (wordR n .dbl true [] ⟨r, false⟩).2.s, (wordR n .dbl true [] ⟨r, false⟩).2.bad⟩
              have h6 : tmass ([] : List Prt) = 0 := rfl
              rw [List.length_cons]
              simp only [List.length_nil] at h1 h5
              omega
            · exact key _ _ (by show 1 + r.length ≤ _; omega) (Nat.le_refl _)
theorem wordW_mass (lv : Lv) (q : Bool) (acc : List Prt) (st : Rst) : (wordW lv q acc st).1.length + (wordW lv q acc st).2.s.length ≤ acc.length + st.s.length ∧ tmass (wordW lv q acc st).1 + (wordW lv q acc st).2.s.length ≤ tmass acc + st.s.length := wordR_mass _ _ _ _ _
end Go.Proofs.YtifcgeanippepaaDoor
