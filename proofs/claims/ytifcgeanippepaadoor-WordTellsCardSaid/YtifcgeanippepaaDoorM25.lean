/- Words, plain: how long the text of a word is that was read. -/
import Derived.Test.YtifcgeanippepaaDoorWordTM
import Derived.Test.YtifcgeanippepaaDoorM15
import Derived.Test.YtifcgeanippepaaDoorWAddsPM
import Derived.Test.YtifcgeanippepaaDoorM20
import Derived.Test.YtifcgeanippepaaDoorWord5M
import Derived.Test.YtifcgeanippepaaDoorM07
namespace Go.Proofs.YtifcgeanippepaaDoor
open Go Go.RowKit Go.Lw
set_option linter.unusedVariables false
set_option linter.unusedSimpArgs false
/-- A part's weight. -/
def wtP : Prt → Nat
  | .mk _ t o _ => 2 * t.length + 10 + wtL o
where wtL : List Prt → Nat
  | [] => 0
  | p :: l => wtP p + wtL l
abbrev wtL := wtP.wtL
theorem wtL_nil : wtL [] = 0 := by show wtP.wtL _ = _; rw [wtP.wtL]
theorem wtL_cons (p : Prt) (l : List Prt) : wtL (p :: l) = wtP p + wtL l := by show wtP.wtL _ = _; rw [wtP.wtL]
theorem wtP_mk (k : Int) (t : List UInt8) (o : List Prt) (q : Bool) : wtP (.mk k t o q) = 2 * t.length + 10 + wtL o := by rw [wtP]
theorem wtL_app : ∀ a b : List Prt, wtL (a ++ b) = wtL a + wtL b
  | [], b => by rw [wtL_nil, List.nil_append, Nat.zero_add]
  | p :: a, b => by rw [List.cons_append, wtL_cons, wtL_cons, wtL_app a b]; omega
theorem quoteF_le (t : List UInt8) : (quoteF t).length ≤ 2 * t.length + 2 := by
  have key : ∀ t : List UInt8, (t.flatMap (fun c => if oddB c then [92, c] else [c])).length ≤ 2 * t.length := by
    intro t
    induction t with
    | nil => exact Nat.le_refl _
    | cons c s ih =>
      rw [List.flatMap_cons, List.length_append, List.length_cons]
      have : (if oddB c then [92, c] else [c] : List UInt8).length ≤ 2 := by split <;> simp
      omega
  unfold quoteF
  split
  · have := key t; simp only [List.length_append, List.length_cons, List.length_nil]; omega
  · simp only [List.length_append, List.length_cons, List.length_nil]; omega
theorem text_weight : ∀ (n : Nat) (l : List Prt), szL l ≤ n → (textW l).length ≤ wtL l
  | 0, l, h => by have := szL_pos l; omega
  | n + 1, [], _ => by rw [textW_nil, wtL_nil]; exact Nat.le_refl _
  | n + 1, .mk k t o q :: l, h => by
    have e : szL (.mk k t o q :: l) = szP (.mk k t o q) + szL l := by show szP.szL _ = _; rw [szP.szL]
    have h1 : szL o < szP (.mk k t o q) := sizeOf_orw (.mk k t o q)
    have h2 := szL_pos l
    have h3 := szL_pos o
    have i1 := text_weight n o (by omega)
    have i2 := text_weight n l (by omega)
    have hc : (coreF k t o).length ≤ 2 * t.length + 8 + wtL o := by
      unfold coreF
      split
      · simp only [List.length_append, List.length_cons, List.length_nil]; omega
      · split
        · simp only [List.length_append, List.length_cons, List.length_nil]; omega
        · split
          · simp only [List.length_cons, List.length_nil]; omega
          · split
            · simp only [List.length_append, List.length_cons, List.length_nil]; omega
            · omega
    have hp : (textP (.mk k t o q)).length ≤ wtP (.mk k t o q) := by
      rw [textP_mk, wtP_mk]
      split
      · split
        · have := quoteF_le t; omega
        · omega
      · split
        · simp only [List.length_append, List.length_cons, List.length_nil]; omega
        · omega
    rw [textW_cons, List.length_append, wtL_cons]
    omega
theorem putF_weight (l : List Prt) (p : Prt) : wtL (putF l p) ≤ wtL l + wtP p := by
  rcases List.eq_nil_or_concat l with rfl | ⟨l, x, rfl⟩
  · show wtL [p] ≤ _
    rw [wtL_cons, wtL_nil]; omega
  · rw [List.concat_eq_append, putF_snoc]
    split
    · obtain ⟨k, t, o, q⟩ := x
      obtain ⟨k', t', o', q'⟩ := p
      rw [wtL_app, wtL_app, wtL_cons, wtL_cons, wtL_nil]
      show wtL l + (wtP (.mk k (t ++ t') o q) + 0) ≤ wtL l + (wtP (.mk k t o q) + 0) + wtP (.mk k' t' o' q')
      rw [wtP_mk, wtP_mk, wtP_mk, List.length_append]; omega
    · rw [wtL_app, wtL_cons, wtL_nil]; omega
theorem fold_weight : ∀ (m l : List Prt), wtL (m.foldl putF l) ≤ wtL l + wtL m
  | [], l => by rw [wtL_nil]; exact Nat.le_refl _
  | p :: m, l => by
    have h := fold_weight m (putF l p)
    have h2 := putF_weight l p
    rw [List.foldl_cons, wtL_cons]
    omega
theorem quoted0_weight (l : List Prt) : wtL (quoted0 l) ≤ wtL l + 10 := by
  cases l with
  | nil => show wtL [.mk 1 [] [] true] ≤ _; rw [wtL_cons, wtP_mk, wtL_nil]; simp
  | cons p l => show wtL (p :: l) ≤ _; omega
theorem dollarR_weight {W : Rst → List Prt × Rst} {q : Bool} {r : List UInt8} (hW : ∀ st, st.s.length ≤ r.length → (W st).2.s.length ≤ st.s.length) (hW2 : ∀ st, st.s.length ≤ r.length → wtL (W st).1 + 12 * (W st).2.s.length ≤ 12 * st.s.length) :
    wtP (dollarR W q r).1 + 12 * (dollarR W q r).2.s.length ≤ 12 * (r.length + 1) := by
  have hn := nameT_len' (r.drop 1)
  have hn2 := nameT_len' r
  unfold dollarR
  split
  · split
    · rename_i x h
      have := arithW_mass _ _ h
      rw [wtP_mk, wtL_nil]
      show 2 * x.1.length + 10 + 0 + 12 * x.2.length ≤ _
      rw [List.length_drop] at this; omega
    · rw [wtP_mk, wtL_nil]
      show 2 * 0 + 10 + 0 + 12 * (r.drop 2).length ≤ _
      rw [List.length_drop]; omega
  · split
    · rename_i h123
      have hr1 : 1 ≤ r.length := by cases r with
        | nil => cases h123
        | cons a r => simp
      rw [List.length_drop] at hn
      split
      · rw [wtP_mk, wtL_nil]
        show 2 * 0 + 10 + 0 + 12 * (r.drop 1).length ≤ _
        rw [List.length_drop]; omega
      · split
        · rename_i h58
          rw [wtP_mk]
          have h3 := closeR_len (W ⟨((r.drop 1).drop (nameT (r.drop 1)).length).drop 2, false⟩).2
          have h4 := hW2 ⟨((r.drop 1).drop (nameT (r.drop 1)).length).drop 2, false⟩ (by simp only [List.length_drop]; omega)
          simp only [List.length_drop] at h4
          show 2 * (nameT (r.drop 1)).length + 10 + wtL (W ⟨((r.drop 1).drop (nameT (r.drop 1)).length).drop 2, false⟩).1 + 12 * (closeR (W ⟨((r.drop 1).drop (nameT (r.drop 1)).length).drop 2, false⟩).2).s.length ≤ _
          omega
        · rw [wtP_mk, wtL_nil]
          have h3 := closeR_len ⟨(r.drop 1).drop (nameT (r.drop 1)).length, false⟩
          simp only [List.length_drop] at h3
          show 2 * (nameT (r.drop 1)).length + 10 + 0 + 12 * (closeR ⟨(r.drop 1).drop (nameT (r.drop 1)).length, false⟩).s.length ≤ _
          omega
    · split
      · rw [wtP_mk, wtL_nil]
        show 2 * 0 + 10 + 0 + 12 * (r.drop 1).length ≤ _
        rw [List.length_drop]; omega
      · split
        · rw [wtP_mk, wtL_nil]
          show 2 * 1 + 10 + 0 + 12 * r.length ≤ _
          omega
        · rw [wtP_mk, wtL_nil]
          show 2 * (nameT r).length + 10 + 0 + 12 * (r.drop _).length ≤ _
          rw [List.length_drop]; omega
theorem pairR_weight (lv : Lv) (r : List UInt8) : wtP (pairR lv r).1 + 12 * (pairR lv r).2.length ≤ 12 * (r.length + 1) := by
  show wtP (.mk 1 (if lv = .dbl ∧ (r.take 1).all oddB = false then 92 :: r.take 1 else r.take 1) [] true) + 12 * (r.drop 1).length ≤ _
  rw [wtP_mk, wtL_nil, List.length_drop]
  cases r with
  | nil => split <;> simp
  | cons a r => split <;> (simp; omega)
theorem wordR_weight : ∀ (n : Nat) (lv : Lv) (q : Bool) (acc : List Prt) (st : Rst), wtL (wordR n lv q acc st).1 + 12 * (wordR n lv q acc st).2.s.length ≤ wtL acc + 12 * st.s.length
  | 0, _, _, _, st => Nat.le_refl _
  | n + 1, lv, q, acc, ⟨[], bad⟩ => Nat.le_refl _
  | n + 1, lv, q, acc, ⟨c :: r, bad⟩ => by
    unfold wordR
    simp only
    have key : ∀ (p : Prt) (st : Rst), wtP p + 12 * st.s.length ≤ 12 * (r.length + 1) → wtL (wordR n lv q (putF acc p) st).1 + 12 * (wordR n lv q (putF acc p) st).2.s.length ≤ wtL acc + 12 * (c :: r).length := by
      intro p st h1
      have h := wordR_weight n lv q (putF acc p) st
      have h3 := putF_weight acc p
      rw [List.length_cons]
      omega
    split
    · exact Nat.le_refl _
    · split
      · exact key _ _ (pairR_weight lv r)
      · split
        · exact key _ _ (dollarR_weight (fun st _ => wordR_len n _ _ _ st) (fun st _ => by have := wordR_weight n .brc q [] st; rw [wtL_nil] at this; omega))
        · split
          · exact key _ _ (by
              have := cutR_mass 39 r
              rw [wtP_mk, wtL_nil]
              show 2 * (cutR 39 r).1.length + 10 + 0 + 12 * (cutR 39 r).2.length ≤ _
              omega)
          · split
            · have h1 := wordR_weight n .dbl true [] ⟨r, false⟩
              have h2 := strip34_len (wordR n .dbl true [] ⟨r, false⟩).2.s
              have h3 := quoted0_weight (wordR n .dbl true [] ⟨r, false⟩).1
              have h4 := fold_weight (quoted0 (wordR n .dbl true [] ⟨r, false⟩).1) acc
              have h5 := wordR_weight n lv q ((quoted0 (wordR n .dbl true [] ⟨r, false⟩).1).foldl putF acc) ⟨strip34 (wordR n .dbl true [] ⟨r, false⟩).2.s, (wordR n .dbl true [] ⟨r, false⟩).2.bad⟩
              rw [wtL_nil] at h1
              rw [List.length_cons]
              simp only at h1 h5
              omega
            · exact key _ _ (by rw [wtP_mk, wtL_nil]; show 2 * 1 + 10 + 0 + 12 * r.length ≤ _; omega)
/-- The text of a word that was read is not long. -/
theorem parse_text {s : List UInt8} {a : List Prt} (h : parseW s = .ok a) : (textW a).length ≤ 12 * s.length := by
  unfold parseW at h
  split at h
  · cases h
  · split at h
    · split at h
      · cases h
      · cases h
        have h1 := text_weight _ (wordW .bare false [] ⟨s, false⟩).1 (Nat.le_refl _)
        have h2 := wordR_weight (s.length + 1) .bare false [] ⟨s, false⟩
        rw [wtL_nil] at h2
        have h3 : wtL (wordW .bare false [] ⟨s, false⟩).1 + 12 * (wordW .bare false [] ⟨s, false⟩).2.s.length ≤ 0 + 12 * s.length := h2
        omega
    · cases h
theorem parse_len {s : List UInt8} {a : List Prt} (h : parseW s = .ok a) : a.length ≤ s.length ∧ tmass a ≤ s.length := by
  unfold parseW at h
  split at h
  · cases h
  · split at h
    · split at h
      · cases h
      · cases h
        have h2 := wordW_mass .bare false [] ⟨s, false⟩
        have h3 : tmass ([] : List Prt) = 0 := rfl
        simp only [List.length_nil] at h2
        omega
    · cases h
end Go.Proofs.YtifcgeanippepaaDoor
/- WordTells, plain: the document's own reader reads as the program's where lexing takes the text; few parts of a word. -/
namespace Go.Proofs.YtifcgeanippepaaDoor
open Go Go.RowKit Go.Lw
set_option linter.unusedVariables false
set_option linter.unusedSimpArgs false
/-- Arithmetic, as the document's reader takes it: brackets are counted below nothing, too. -/
def arN : Int → List UInt8 → Option (List UInt8 × List UInt8)
  | _, [] => none
  | o, c :: r =>
    if o = 0 ∧ (c :: r).take 2 = [41, 41] then some ([], r.drop 1)
    else (arN (if c = 40 then o + 1 else if c = 41 then o - 1 else o) r).map (fun x => (c :: x.1, x.2))
theorem arN_len : ∀ (r : List UInt8) (o : Int) {x : List UInt8 × List UInt8}, arN o r = some x → x.2.length ≤ r.length
  | [], o, x, h => by cases h
  | c :: r, o, x, h => by
    unfold arN at h
    split at h
    · cases h; simp; omega
    · cases hy : arN (if c = 40 then o + 1 else if c = 41 then o - 1 else o) r with
      | none => rw [hy] at h; cases h
      | some y =>
        rw [hy] at h; cases h
        have := arN_len r _ hy
        simp; omega
theorem arN_mass : ∀ (r : List UInt8) (o : Int) {x : List UInt8 × List UInt8}, arN o r = some x → x.1.length + x.2.length ≤ r.length
  | [], o, x, h => by cases h
  | c :: r, o, x, h => by
    unfold arN at h
    split at h
    · cases h; simp; omega
    · cases hy : arN (if c = 40 then o + 1 else if c = 41 then o - 1 else o) r with
      | none => rw [hy] at h; cases h
      | some y =>
        rw [hy] at h; cases h
        have := arN_mass r _ hy
        simp; omega
theorem arN_ok : ∀ (s : List UInt8) (o : Nat) {r' : List UInt8}, arithF o s = .ok r' → ∀ T, arN (o : Int) (s ++ T) = arithW o (s ++ T)
  | [], o, r', h, T => by cases h
  | c :: s, o, r', h, T => by
    show arN (o : Int) (c :: (s ++ T)) = arithW o (c :: (s ++ T))
    unfold arithF at h
    unfold arN arithW
    by_cases h1 : o = 0 ∧ (c :: s).take 2 = [41, 41]
    · obtain ⟨rfl, hc⟩ := h1
      cases s with
      | nil => simp at hc
      | cons d s =>
        simp at hc
        obtain ⟨rfl, rfl⟩ := hc
        simp
    · rw [if_neg h1] at h
      have hx : ∀ {o' : Nat} {r' : List UInt8}, arithF o' s = .ok r' → ¬ ((o : Int) = 0 ∧ (c :: (s ++ T)).take 2 = [41, 41]) := by
        intro o' r' hk hx
        refine h1 ⟨by omega, ?_⟩
        cases s with
        | nil => cases hk
        | cons d s => simpa using hx.2
      by_cases h40 : c = 40
      · rw [if_pos h40] at h
        rw [if_neg (hx h), if_pos h40, if_pos h40]
        have := arN_ok s (o + 1) h T
        rw [← this]; rfl
      · rw [if_neg h40] at h
        by_cases h41 : c = 41 ∧ 0 < o
        · rw [if_pos h41] at h
          rw [if_neg (hx h), if_neg h40, if_pos h41.1, if_neg h40, if_pos h41]
          have := arN_ok s (o - 1) h T
          rw [← this, show ((o - 1 : Nat) : Int) = (o : Int) - 1 by omega]
        · rw [if_neg h41] at h
          by_cases hb : c = 41 ∨ oddA c = true
          · rw [if_pos hb] at h; cases h
          · rw [if_neg hb] at h
            have hc41 : ¬ c = 41 := fun e => hb (.inl e)
            rw [if_neg (hx h), if_neg h40, if_neg hc41, if_neg h40, if_neg h41, if_neg (fun e => hc41 e.1)]
            rw [arN_ok s o h T]
/-- The document's reader. -/
def refR : Rdr where
  ar := arN 0
  pr := fun lv q r => match r with
    | [] => (.mk 1 [92] [] q, [])
    | d :: r => pairR lv (d :: r)
  arLen := fun r x h => arN_len r 0 h
  prLen := fun lv q r => by
    cases r with
    | nil => exact Nat.le_refl _
    | cons d r => exact pairR_len lv (d :: r)
  arOk := fun s r' h T => arN_ok s 0 h T
  prOk := fun lv q d r => rfl
/-! A whole text. -/
theorem sg_word : ∀ (n : Nat) (x : List UInt8), wordF n x = .ok [] → Sg .bare false x []
  | 0, x, h => by cases h
  | n + 1, [], h => Sg.refl _ _ _
  | n + 1, c :: r, h => by
    unfold wordF at h
    split at h
    · cases h
    · split at h
      · cases h
      · rename_i r1 h1
        exact (((sgnc _).piece 0 .bare false c r r1 h1 (fun e => by cases e)).2).trans (sg_word n r1 h) (fun _ => rfl)
theorem read_both {n : Nat} {x : List UInt8} (h : wordF n x = .ok []) :
    (readG refR .bare false [] ⟨x, false⟩).2.bad = (wordW .bare false [] ⟨x, false⟩).2.bad ∧ ((wordW .bare false [] ⟨x, false⟩).2.bad = false → (readG refR .bare false [] ⟨x, false⟩).1 = (wordW .bare false [] ⟨x, false⟩).1) := by
  rcases sg_word n x h with ⟨X, hX⟩ | hX
  · have a := hX refR [] (fun _ => rfl) []
    have b := hX ownR [] (fun _ => rfl) []
    rw [List.append_nil] at a b
    rw [readG_own] at b
    rw [a, b]
    exact ⟨rfl, fun _ => rfl⟩
  · have a := hX refR [] (fun _ => rfl) []
    have b := hX ownR [] (fun _ => rfl) []
    rw [List.append_nil] at a b
    rw [readG_own] at b
    rw [a, b]
    exact ⟨rfl, fun e => by cases e⟩
/-- The document's Parse. -/
def parse17 (s : List UInt8) : Except Nat (List Prt) := match lexT s with
  | .error e => .error e
  | .ok l => if l.length = 1 ∧ l.map Tk.kind = [1] ∧ l.map Tk.text = [s] then
      (if (readG refR .bare false [] ⟨s, false⟩).2.bad then .error 5 else .ok (readG refR .bare false [] ⟨s, false⟩).1)
    else .error 5
theorem parse17_same (s : List UInt8) : parse17 s = parseW s := by
  unfold parse17 parseW
  cases hl : lexT s with
  | error e => rfl
  | ok l =>
    simp only
    split
    · rename_i hc
      obtain ⟨_, _, c, r, _, _, _, _, hw⟩ := lex_one hl hc.2.1 hc.2.2
      obtain ⟨e1, e2⟩ := read_both hw
      rw [e1]
      cases hb : (wordW .bare false [] ⟨s, false⟩).2.bad with
      | true => rfl
      | false => rw [e2 hb]
    · rfl
/-! Few parts. -/
def fewF : Nat → List Prt → List Prt
  | 0, w => (w.take 8).map fun p => .mk p.kind (p.text.take 60) [] p.quoted
  | d + 1, w => (w.take 8).map fun p => .mk p.kind (p.text.take 60) (fewF d p.orw) p.quoted
theorem sameP_refl : ∀ (n : Nat) (p : Prt), szP p ≤ n → sameP p p = true
  | 0, .mk k t o q, h => by unfold szP at h; omega
  | n + 1, .mk k t o q, h => by
    rw [same_mk]
    have key : ∀ l : List Prt, szL l ≤ n → sameW l l = true := by
      intro l
      induction l with
      | nil => intro _; exact same_nil
      | cons p l ih =>
        intro hl
        have e : szL (p :: l) = szP p + szL l := by show szP.szL _ = _; rw [szP.szL]
        rw [same_cons, sameP_refl n p (by omega), ih (by omega)]
        rfl
    have ho : szL o ≤ n := by
      have e : szP (.mk k t o q) = 1 + szL o := by rw [szP]
      omega
    rw [key o ho]
    simp
theorem sameW_refl (l : List Prt) : sameW l l = true := by
  induction l with
  | nil => exact same_nil
  | cons p l ih => rw [same_cons, sameP_refl _ p (Nat.le_refl _), ih]; rfl
/-! How long the text of a word of few parts is. -/
theorem textL_le {B : Nat} : ∀ (l : List Prt), (∀ p ∈ l, (textP p).length ≤ B) → (textW l).length ≤ l.length * B
  | [], _ => by show (textP.textL []).length ≤ _; rw [textP.textL]; exact Nat.zero_le _
  | p :: l, h => by
    show (textP.textL (p :: l)).length ≤ _
    rw [textP.textL, List.length_append, List.length_cons, Nat.succ_mul]
    have h1 := h p List.mem_cons_self
    have h2 : (textP.textL l).length ≤ _ := textL_le l (fun x hx => h x (List.mem_cons_of_mem _ hx))
    omega
theorem quoteF_leZ (t : List UInt8) : (quoteF t).length ≤ 2 * t.length + 2 := by
  unfold quoteF
  split
  · simp only [List.length_append, List.length_cons, List.length_nil]
    have : ∀ l : List UInt8, (l.flatMap (fun c => if oddB c then [92, c] else [c])).length ≤ 2 * l.length := by
      intro l
      induction l with
      | nil => exact Nat.le_refl _
      | cons c l ih =>
        rw [List.flatMap_cons, List.length_append, List.length_cons]
        split <;> simp only [List.length_cons, List.length_nil] <;> omega
    have := this t
    omega
  · simp only [List.length_append, List.length_cons, List.length_nil]; omega
theorem textP_le (k : Int) (t : List UInt8) (o : List Prt) (q : Bool) : (textP (.mk k t o q)).length ≤ 2 * t.length + (textW o).length + 10 := by
  have hq := quoteF_leZ t
  rw [textP]
  show (if k = 1 then (if q then quoteF t else t) else _).length ≤ _
  by_cases h1 : k = 1
  · rw [if_pos h1]
    cases q
    · simp only [Bool.false_eq_true, if_false]; omega
    · simp only [if_true]; omega
  · rw [if_neg h1]
    simp only
    have key : (if k = 2 then [36, 123] ++ t ++ [125] else if k = 3 then [36, 123] ++ t ++ [58, 45] ++ textP.textL o ++ [125] else if k = 4 then [36, 63] else if k = 5 then [36, 40, 40] ++ t ++ [41, 41] else t : List UInt8).length ≤ 2 * t.length + (textW o).length + 8 := by
      show _ ≤ 2 * t.length + (textP.textL o).length + 8
      split
      · simp; omega
      · split
        · simp; omega
        · split
          · simp
          · split
            · simp; omega
            · omega
    split
    · simp only [List.length_append, List.length_cons, List.length_nil] at key ⊢; omega
    · omega
theorem few0_le (w : List Prt) : (textW (fewF 0 w)).length ≤ 1040 := by
  refine Nat.le_trans (textL_le (B := 130) _ (fun p hp => ?_)) ?_
  · unfold fewF at hp
    obtain ⟨x, _, rfl⟩ := List.mem_map.1 hp
    have h := textP_le x.kind (x.text.take 60) [] x.quoted
    have e : (textW ([] : List Prt)).length = 0 := by show (textP.textL []).length = 0; rw [textP.textL]; rfl
    rw [List.length_take] at h
    omega
  · unfold fewF
    rw [List.length_map, List.length_take]; omega
theorem fewS_le {d B : Nat} (h : ∀ w, (textW (fewF d w)).length ≤ B) (w : List Prt) : (textW (fewF (d + 1) w)).length ≤ 8 * (B + 130) := by
  refine Nat.le_trans (textL_le (B := B + 130) _ (fun p hp => ?_)) ?_
  · unfold fewF at hp
    obtain ⟨x, _, rfl⟩ := List.mem_map.1 hp
    have h1 := textP_le x.kind (x.text.take 60) (fewF d x.orw) x.quoted
    have h2 := h x.orw
    rw [List.length_take] at h1
    omega
  · unfold fewF
    rw [List.length_map, List.length_take]
    exact Nat.mul_le_mul (by omega) (Nat.le_refl _)
theorem few3_le (w : List Prt) : (textW (fewF 3 w)).length ≤ 1000000 :=
  Nat.le_trans (fewS_le (fewS_le (fewS_le few0_le)) w) (by decide)
end Go.Proofs.YtifcgeanippepaaDoor
/- WordTells: a word that is an argument, in memory. -/
namespace Go.Proofs.YtifcgeanippepaaDoor
open Go Go.RowKit Go.Lw
set_option linter.unusedVariables false
/-- All texts, however deep, are no longer than a text may be. -/
inductive TxOk : List Prt → Prop
  | mk (l : List Prt) : (∀ p ∈ l, p.text.length ≤ maxLen) → (∀ p ∈ l, TxOk p.orw) → TxOk l
theorem TxOk.txt {l : List Prt} (h : TxOk l) : ∀ p ∈ l, p.text.length ≤ maxLen := by cases h with | mk _ a b => exact a
theorem TxOk.orw {l : List Prt} (h : TxOk l) : ∀ p ∈ l, TxOk p.orw := by cases h with | mk _ a b => exact b
/-- A slice of parts that is read alone. -/
inductive WIn (w : World) : Value → List Prt → Prop
  | mk (v : Value) (ps : List (Prt × Value)) : Rd w 4 v ps.length (ps.flatMap PC) → (∀ x ∈ ps, WIn w x.2 x.1.orw) → WIn w v (ps.map Prod.fst)
theorem WIn.open {w : World} {v : Value} {l : List Prt} (h : WIn w v l) :
    ∃ ps : List (Prt × Value), ps.map Prod.fst = l ∧ Rd w 4 v ps.length (ps.flatMap PC) ∧ ∀ x ∈ ps, WIn w x.2 x.1.orw := by
  cases h with
  | mk _ ps h1 h2 => exact ⟨ps, rfl, h1, h2⟩
theorem WIn.kept {w w' : World} {v : Value} {l : List Prt} (h : WIn w v l) (k : Kept (fun _ => False) w w') : WIn w' v l := by
  induction h with
  | mk v ps h1 h2 ih => exact .mk v ps (h1.kept k (fun _ _ h => h)) ih
theorem WIn.slice {w : World} {v : Value} {l : List Prt} (h : WIn w v l) : ∃ a n c, v = .slice a n c := by
  obtain ⟨ps, _, hr, _⟩ := h.open
  obtain ⟨_, a, c, e, _⟩ := hr
  exact ⟨a, _, c, e⟩
theorem WAt.toIn {w : World} {F : Nat → Prop} {v : Value} {l : List Prt} (h : WAt w F v l) : WIn w v l := by
  induction h with
  | mk v ps h1 h2 h3 ih => exact .mk v ps h1 ih
theorem WIn.max {w : World} {a : Option Addr} {n c : Nat} {J : List Prt} (h : WIn w (.slice a n c) J) : n ≤ 9223372036854775807 := by
  obtain ⟨ps, rfl, ⟨_, a', c', e, h1, h2, _⟩, _⟩ := h.open
  cases e
  unfold maxLen at h2
  omega
theorem WIn.elem {w : World} {a : Option Addr} {n c : Nat} {J : List Prt} (h : WIn w (.slice a n c) J) : n = J.length ∧ ∀ (k : Nat) (p : Prt), J[k]? = some p →
    ∃ (b off : Nat) (oa : Option Addr) (on oc : Nat), a = some ⟨b, off, none⟩ ∧ w.cell? ⟨b, off + k * 4, none⟩ = some (.int .i64 p.kind) ∧ w.cell? ⟨b, off + k * 4 + 1, none⟩ = some (.string (BA p.text)) ∧ w.cell? ⟨b, off + k * 4 + 2, none⟩ = some (.slice oa on oc) ∧ w.cell? ⟨b, off + k * 4 + 3, none⟩ = some (.bool p.quoted) ∧ WIn w (.slice oa on oc) p.orw := by
  obtain ⟨ps, rfl, hr, ho⟩ := h.open
  have hr' := hr
  obtain ⟨_, a', c', e, hnc, hcm, _⟩ := hr'
  cases e
  refine ⟨by simp, fun k p hp => ?_⟩
  have hk : k < ps.length := by
    rw [List.getElem?_map] at hp
    rcases Nat.lt_or_ge k ps.length with h | h
    · exact h
    · rw [List.getElem?_eq_none h] at hp; cases hp
  obtain ⟨b, off, e, hc0, hc⟩ := Rd.elem (ys := ps) hr (fun _ _ => rfl) (by decide) k hk
  have hpk : ps[k].1 = p := by
    rw [List.getElem?_map, List.getElem?_eq_getElem hk] at hp
    exact Option.some.inj hp
  have hw := ho ps[k] (List.getElem_mem hk)
  obtain ⟨oa, on, oc, ho2⟩ := hw.slice
  rw [hpk, ho2] at hw
  exact ⟨b, off, oa, on, oc, e, by rw [hc0, ← hpk]; rfl, by rw [hc 1 (by decide), ← hpk]; rfl, by rw [hc 2 (by decide), ← ho2]; rfl, by rw [hc 3 (by decide), ← hpk]; rfl, hw⟩
end Go.Proofs.YtifcgeanippepaaDoor
/- WordTells, plain: the document's table of operators is the program's. -/
namespace Go.Proofs.YtifcgeanippepaaDoor
open Go Go.RowKit Go.Lw
set_option linter.unusedVariables false
set_option linter.unusedSimpArgs false
/-- The byte at the front; none: nothing. -/
def hd16 : List UInt8 → UInt8
  | [] => 0
  | c :: _ => c
/-- The kind and the length of an operator, by three bytes. -/
def op16 (a b c : Nat) : Nat × Nat :=
  if a = 10 then (2, 1) else if a = 59 then (3, 1) else if a = 38 ∧ b = 38 then (4, 2) else if a = 38 then (0, 1)
  else if a = 124 ∧ b = 124 then (5, 2) else if a = 124 then (6, 1)
  else if a = 60 ∧ (b = 60 ∨ b = 38 ∨ b = 62) then (0, 2) else if a = 60 then (7, 1)
  else if a = 62 ∧ b = 62 then (9, 2) else if a = 62 ∧ (b = 38 ∨ b = 124) then (0, 2) else if a = 62 then (8, 1)
  else if a = 50 ∧ b = 62 ∧ c = 62 then (11, 3) else if a = 50 ∧ b = 62 ∧ (c = 38 ∨ c = 124) then (0, 3) else if a = 50 ∧ b = 62 then (10, 2) else (0, 0)
def opO (o : Option (Nat × List UInt8)) : Nat × Nat := match o with
  | some o => (o.1, o.2.length)
  | none => (0, 0)
theorem op16_eq (r : List UInt8) : opO (operF r) = op16 (hd16 r).toNat (hd16 (r.drop 1)).toNat (hd16 (r.drop 2)).toNat := by
  have key : ∀ (c k : UInt8), ¬ c = k → ¬ c.toNat = k.toNat := fun c k h e => h (UInt8.toNat_inj.1 e)
  cases r with
  | nil => rfl
  | cons a r =>
    by_cases ha10 : a = 10
    · subst ha10
      rfl
    have na10 : ¬ a.toNat = 10 := key _ 10 ha10
    have qa10 : (a == 10) = false := beq_eq_false_iff_ne.2 ha10
    by_cases ha59 : a = 59
    · subst ha59
      rfl
    have na59 : ¬ a.toNat = 59 := key _ 59 ha59
    have qa59 : (a == 59) = false := beq_eq_false_iff_ne.2 ha59
    by_cases ha38 : a = 38
    · subst ha38
      cases r with
      | nil => rfl
      | cons b r =>
        by_cases hb38 : b = 38
        · subst hb38
          rfl
        have nb38 : ¬ b.toNat = 38 := key _ 38 hb38
        have qb38 : (b == 38) = false := beq_eq_false_iff_ne.2 hb38
        simp [opO, operF, opsL, List.find?, op16, hd16, *]
    have na38 : ¬ a.toNat = 38 := key _ 38 ha38
    have qa38 : (a == 38) = false := beq_eq_false_iff_ne.2 ha38
    by_cases ha124 : a = 124
    · subst ha124
      cases r with
      | nil => rfl
      | cons b r =>
        by_cases hb124 : b = 124
        · subst hb124
          rfl
        have nb124 : ¬ b.toNat = 124 := key _ 124 hb124
        have qb124 : (b == 124) = false := beq_eq_false_iff_ne.2 hb124
        simp [opO, operF, opsL, List.find?, op16, hd16, *]
    have na124 : ¬ a.toNat = 124 := key _ 124 ha124
    have qa124 : (a == 124) = false := beq_eq_false_iff_ne.2 ha124
    by_cases ha60 : a = 60
    · subst ha60
      cases r with
      | nil => rfl
      | cons b r =>
        by_cases hb60 : b = 60
        · subst hb60
          rfl
        have nb60 : ¬ b.toNat = 60 := key _ 60 hb60
        have qb60 : (b == 60) = false := beq_eq_false_iff_ne.2 hb60
        by_cases hb38 : b = 38
        · subst hb38
          rfl
        have nb38 : ¬ b.toNat = 38 := key _ 38 hb38
        have qb38 : (b == 38) = false := beq_eq_false_iff_ne.2 hb38
        by_cases hb62 : b = 62
        · subst hb62
          rfl
        have nb62 : ¬ b.toNat = 62 := key _ 62 hb62
        have qb62 : (b == 62) = false := beq_eq_false_iff_ne.2 hb62
        simp [opO, operF, opsL, List.find?, op16, hd16, *]
    have na60 : ¬ a.toNat = 60 := key _ 60 ha60
    have qa60 : (a == 60) = false := beq_eq_false_iff_ne.2 ha60
    by_cases ha62 : a = 62
    · subst ha62
      cases r with
      | nil => rfl
      | cons b r =>
        by_cases hb62 : b = 62
        · subst hb62
          rfl
        have nb62 : ¬ b.toNat = 62 := key _ 62 hb62
        have qb62 : (b == 62) = false := beq_eq_false_iff_ne.2 hb62
        by_cases hb38 : b = 38
        · subst hb38
          rfl
        have nb38 : ¬ b.toNat = 38 := key _ 38 hb38
        have qb38 : (b == 38) = false := beq_eq_false_iff_ne.2 hb38
        by_cases hb124 : b = 124
        · subst hb124
          rfl
        have nb124 : ¬ b.toNat = 124 := key _ 124 hb124
        have qb124 : (b == 124) = false := beq_eq_false_iff_ne.2 hb124
        simp [opO, operF, opsL, List.find?, op16, hd16, *]
    have na62 : ¬ a.toNat = 62 := key _ 62 ha62
    have qa62 : (a == 62) = false := beq_eq_false_iff_ne.2 ha62
    by_cases ha50 : a = 50
    · subst ha50
      cases r with
      | nil => rfl
      | cons b r =>
        by_cases hb62 : b = 62
        · subst hb62
          cases r with
          | nil => rfl
          | cons c r =>
            by_cases hc62 : c = 62
            · subst hc62
              rfl
            have nc62 : ¬ c.toNat = 62 := key _ 62 hc62
            have qc62 : (c == 62) = false := beq_eq_false_iff_ne.2 hc62
            by_cases hc38 : c = 38
            · subst hc38
              rfl
            have nc38 : ¬ c.toNat = 38 := key _ 38 hc38
            have qc38 : (c == 38) = false := beq_eq_false_iff_ne.2 hc38
            by_cases hc124 : c = 124
            · subst hc124
              rfl
            have nc124 : ¬ c.toNat = 124 := key _ 124 hc124
            have qc124 : (c == 124) = false := beq_eq_false_iff_ne.2 hc124
            simp [opO, operF, opsL, List.find?, op16, hd16, *]
        have nb62 : ¬ b.toNat = 62 := key _ 62 hb62
        have qb62 : (b == 62) = false := beq_eq_false_iff_ne.2 hb62
        simp [opO, operF, opsL, List.find?, op16, hd16, *]
    have na50 : ¬ a.toNat = 50 := key _ 50 ha50
    have qa50 : (a == 50) = false := beq_eq_false_iff_ne.2 ha50
    simp [opO, operF, opsL, List.find?, op16, hd16, *]
end Go.Proofs.YtifcgeanippepaaDoor
