/- Words, plain: how long the text of a word is that was read. -/
import Derived.Test.YtifcgeanippepaaDoorWordT
namespace Go.Proofs.YtifcgeanippepaaDoor
open Go Go.RowKit Go.Lw
set_option linter.unusedVariables false
set_option linter.unusedSimpArgs false
/-- A part's weight. -/
def wtP : Prt → Nat
  | .mk _ t o _ => 2 * t.length + 10 + wtL o
where wtL : List Prt → Nat
  | [] => 0
  | p :: l => wtP p + wtL l
abbrev wtL := wtP.wtL
theorem wtL_nil : wtL [] = 0 := by show wtP.wtL _ = _; rw [wtP.wtL]
theorem wtL_cons (p : Prt) (l : List Prt) : wtL (p :: l) = wtP p + wtL l := by show wtP.wtL _ = _; rw [wtP.wtL]
theorem wtP_mk (k : Int) (t : List UInt8) (o : List Prt) (q : Bool) : wtP (.mk k t o q) = 2 * t.length + 10 + wtL o := by rw [wtP]
theorem wtL_app : ∀ a b : List Prt, wtL (a ++ b) = wtL a + wtL b
  | [], b => by rw [wtL_nil, List.nil_append, Nat.zero_add]
  | p :: a, b => by rw [List.cons_append, wtL_cons, wtL_cons, wtL_app a b]; omega
theorem quoteF_le (t : List UInt8) : (quoteF t).length ≤ 2 * t.length + 2 := by
  have key : ∀ t : List UInt8, (t.flatMap (fun c => if oddB c then [92, c] else [c])).length ≤ 2 * t.length := by
    intro t
    induction t with
    | nil => exact Nat.le_refl _
    | cons c s ih =>
      rw [List.flatMap_cons, List.length_append, List.length_cons]
      have : (if oddB c then [92, c] else [c] : List UInt8).length ≤ 2 := by split <;> simp
      omega
  unfold quoteF
  split
  · have := key t; simp only [List.length_append, List.length_cons, List.length_nil]; omega
  · simp only [List.length_append, List.length_cons, List.length_nil]; omega
theorem text_weight : ∀ (n : Nat) (l : List Prt), szL l ≤ n → (textW l).length ≤ wtL l
  | 0, l, h => by have := szL_pos l; omega
  | n + 1, [], _ => by rw [textW_nil, wtL_nil]; exact Nat.le_refl _
  | n + 1, .mk k t o q :: l, h => by
    have e : szL (.mk k t o q :: l) = szP (.mk k t o q) + szL l := by show szP.szL _ = _; rw [szP.szL]
    have h1 : szL o < szP (.mk k t o q) := sizeOf_orw (.mk k t o q)
    have h2 := szL_pos l
    have h3 := szL_pos o
    have i1 := text_weight n o (by omega)
    have i2 := text_weight n l (by omega)
    have hc : (coreF k t o).length ≤ 2 * t.length + 8 + wtL o := by
      unfold coreF
      split
      · simp only [List.length_append, List.length_cons, List.length_nil]; omega
      · split
        · simp only [List.length_append, List.length_cons, List.length_nil]; omega
        · split
          · simp only [List.length_cons, List.length_nil]; omega
          · split
            · simp only [List.length_append, List.length_cons, List.length_nil]; omega
            · omega
    have hp : (textP (.mk k t o q)).length ≤ wtP (.mk k t o q) := by
      rw [textP_mk, wtP_mk]
      split
      · split
        · have := quoteF_le t; omega
        · omega
      · split
        · simp only [List.length_append, List.length_cons, List.length_nil]; omega
        · omega
    rw [textW_cons, List.length_append, wtL_cons]
    omega
theorem putF_weight (l : List Prt) (p : Prt) : wtL (putF l p) ≤ wtL l + wtP p := by
  rcases List.eq_nil_or_concat l with rfl | ⟨l, x, rfl⟩
  · show wtL [p] ≤ _
    rw [wtL_cons, wtL_nil]; omega
  · rw [List.concat_eq_append, putF_snoc]
    split
    · obtain ⟨k, t, o, q⟩ := x
      obtain ⟨k', t', o', q'⟩ := p
      rw [wtL_app, wtL_app, wtL_cons, wtL_cons, wtL_nil]
      show wtL l + (wtP (.mk k (t ++ t') o q) + 0) ≤ wtL l + (wtP (.mk k t o q) + 0) + wtP (.mk k' t' o' q')
      rw [wtP_mk, wtP_mk, wtP_mk, List.length_append]; omega
    · rw [wtL_app, wtL_cons, wtL_nil]; omega
theorem fold_weight : ∀ (m l : List Prt), wtL (m.foldl putF l) ≤ wtL l + wtL m
  | [], l => by rw [wtL_nil]; exact Nat.le_refl _
  | p :: m, l => by
    have h := fold_weight m (putF l p)
    have h2 := putF_weight l p
    rw [List.foldl_cons, wtL_cons]
    omega
theorem quoted0_weight (l : List Prt) : wtL (quoted0 l) ≤ wtL l + 10 := by
  cases l with
  | nil => show wtL [.mk 1 [] [] true] ≤ _; rw [wtL_cons, wtP_mk, wtL_nil]; simp
  | cons p l => show wtL (p :: l) ≤ _; omega
theorem dollarR_weight {W : Rst → List Prt × Rst} {q : Bool} {r : List UInt8} (hW : ∀ st, st.s.length ≤ r.length → (W st).2.s.length ≤ st.s.length) (hW2 : ∀ st, st.s.length ≤ r.length → wtL (W st).1 + 12 * (W st).2.s.length ≤ 12 * st.s.length) :
    wtP (dollarR W q r).1 + 12 * (dollarR W q r).2.s.length ≤ 12 * (r.length + 1) := by
  have hn := nameT_len' (r.drop 1)
  have hn2 := nameT_len' r
  unfold dollarR
  split
  · split
    · rename_i x h
      have := arithW_mass _ _ h
      rw [wtP_mk, wtL_nil]
      show 2 * x.1.length + 10 + 0 + 12 * x.2.length ≤ _
      rw [List.length_drop] at this; omega
    · rw [wtP_mk, wtL_nil]
      show 2 * 0 + 10 + 0 + 12 * (r.drop 2).length ≤ _
      rw [List.length_drop]; omega
  · split
    · rename_i h123
      have hr1 : 1 ≤ r.length := by cases r with
        | nil => cases h123
        | cons a r => simp
      rw [List.length_drop] at hn
      split
      · rw [wtP_mk, wtL_nil]
        show 2 * 0 + 10 + 0 + 12 * (r.drop 1).length ≤ _
        rw [List.length_drop]; omega
      · split
        · rename_i h58
          rw [wtP_mk]
          have h3 := closeR_len (W ⟨((r.drop 1).drop (nameT (r.drop 1)).length).drop 2, false⟩).2
          have h4 := hW2 ⟨((r.drop 1).drop (nameT (r.drop 1)).length).drop 2, false⟩ (by simp only [List.length_drop]; omega)
          simp only [List.length_drop] at h4
          show 2 * (nameT (r.drop 1)).length + 10 + wtL (W ⟨((r.drop 1).drop (nameT (r.drop 1)).length).drop 2, false⟩).1 + 12 * (closeR (W ⟨((r.drop 1).drop (nameT (r.drop 1)).length).drop 2, false⟩).2).s.length ≤ _
          omega
        · rw [wtP_mk, wtL_nil]
          have h3 := closeR_len ⟨(r.drop 1).drop (nameT (r.drop 1)).length, false⟩
          simp only [List.length_drop] at h3
          show 2 * (nameT (r.drop 1)).length + 10 + 0 + 12 * (closeR ⟨(r.drop 1).drop (nameT (r.drop 1)).length, false⟩).s.length ≤ _
          omega
    · split
      · rw [wtP_mk, wtL_nil]
        show 2 * 0 + 10 + 0 + 12 * (r.drop 1).length ≤ _
        rw [List.length_drop]; omega
      · split
        · rw [wtP_mk, wtL_nil]
          show 2 * 1 + 10 + 0 + 12 * r.length ≤ _
          omega
        · rw [wtP_mk, wtL_nil]
          show 2 * (nameT r).length + 10 + 0 + 12 * (r.drop _).length ≤ _
          rw [List.length_drop]; omega
theorem pairR_weight (lv : Lv) (r : List UInt8) : wtP (pairR lv r).1 + 12 * (pairR lv r).2.length ≤ 12 * (r.length + 1) := by
  show wtP (.mk 1 (if lv = .dbl ∧ (r.take 1).all oddB = false then 92 :: r.take 1 else r.take 1) [] true) + 12 * (r.drop 1).length ≤ _
  rw [wtP_mk, wtL_nil, List.length_drop]
  cases r with
  | nil => split <;> simp
  | cons a r => split <;> (simp; omega)
theorem wordR_weight : ∀ (n : Nat) (lv : Lv) (q : Bool) (acc : List Prt) (st : Rst), wtL (wordR n lv q acc st).1 + 12 * (wordR n lv q acc st).2.s.length ≤ wtL acc + 12 * st.s.length
  | 0, _, _, _, st => Nat.le_refl _
  | n + 1, lv, q, acc, ⟨[], bad⟩ => Nat.le_refl _
  | n + 1, lv, q, acc, ⟨c :: r, bad⟩ => by
    unfold wordR
    simp only
    have key : ∀ (p : Prt) (st : Rst), wtP p + 12 * st.s.length ≤ 12 * (r.length + 1) → wtL (wordR n lv q (putF acc p) st).1 + 12 * (wordR n lv q (putF acc p) st).2.s.length ≤ wtL acc + 12 * (c :: r).length := by
      intro p st h1
      have h := wordR_weight n lv q (putF acc p) st
      have h3 := putF_weight acc p
      rw [List.length_cons]
      omega
    split
    · exact Nat.le_refl _
    · split
      · exact key _ _ (pairR_weight lv r)
      · split
        · exact key _ _ (dollarR_weight (fun st _ => wordR_len n _ _ _ st) (fun st _ => by have := wordR_weight n .brc q [] st; rw [wtL_nil] at this; omega))
        · split
          · exact key _ _ (by
              have := cutR_mass 39 r
              rw [wtP_mk, wtL_nil]
              show 2 * (cutR 39 r).1.length + 10 + 0 + 12 * (cutR 39 r).2.length ≤ _
              omega)
          · split
            · have h1 := wordR_weight n .dbl true [] ⟨r, false⟩
              have h2 := strip34_len (wordR n .dbl true [] ⟨r, false⟩).2.s
              have h3 := quoted0_weight (wordR n .dbl true [] ⟨r, false⟩).1
              have h4 := fold_weight (quoted0 (wordR n .dbl true [] ⟨r, false⟩).1) acc
              have h5 := wordR_weight n lv q ((quoted0 (wordR n .dbl true [] ⟨r, false⟩).1).foldl putF acc) ⟨strip34 (wordR n .dbl true [] ⟨r, false⟩).2.s, (wordR n .dbl true [] ⟨r, false⟩).2.bad⟩
              rw [wtL_nil] at h1
              rw [List.length_cons]
              simp only at h1 h5
              omega
            · exact key _ _ (by rw [wtP_mk, wtL_nil]; show 2 * 1 + 10 + 0 + 12 * r.length ≤ _; omega)
/-- The text of a word that was read is not long. -/
theorem parse_text {s : List UInt8} {a : List Prt} (h : parseW s = .ok a) : (textW a).length ≤ 12 * s.length := by
  unfold parseW at h
  split at h
  · cases h
  · split at h
    · split at h
      · cases h
      · cases h
        have h1 := text_weight _ (wordW .bare false [] ⟨s, false⟩).1 (Nat.le_refl _)
        have h2 := wordR_weight (s.length + 1) .bare false [] ⟨s, false⟩
        rw [wtL_nil] at h2
        have h3 : wtL (wordW .bare false [] ⟨s, false⟩).1 + 12 * (wordW .bare false [] ⟨s, false⟩).2.s.length ≤ 0 + 12 * s.length := h2
        omega
    · cases h
theorem parse_len {s : List UInt8} {a : List Prt} (h : parseW s = .ok a) : a.length ≤ s.length ∧ tmass a ≤ s.length := by
  unfold parseW at h
  split at h
  · cases h
  · split at h
    · split at h
      · cases h
      · cases h
        have h2 := wordW_mass .bare false [] ⟨s, false⟩
        have h3 : tmass ([] : List Prt) = 0 := rfl
        simp only [List.length_nil] at h2
        omega
    · cases h
end Go.Proofs.YtifcgeanippepaaDoor
