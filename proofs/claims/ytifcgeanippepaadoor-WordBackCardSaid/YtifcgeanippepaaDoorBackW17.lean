/- WordBack, plain: the text of a word that was read is read as that word, or is too long, or too deep; what its parts are. -/
import Derived.Test.YtifcgeanippepaaDoorLexG
import Derived.Test.YtifcgeanippepaaDoorAll
namespace Go.Proofs.YtifcgeanippepaaDoor
open Go Go.RowKit Go.Lw
set_option linter.unusedVariables false
set_option linter.unusedSimpArgs false
/-! The bytes. -/
inductive OkP : Prt → Prop
  | mk (k : Int) (t : List UInt8) (o : List Prt) (q : Bool) : (∀ c ∈ t, okB c = true) → (∀ p ∈ o, OkP p) → OkP (.mk k t o q)
def okL (l : List Prt) : Prop := ∀ p ∈ l, OkP p
def okS (s : List UInt8) : Prop := ∀ c ∈ s, okB c = true
theorem okL.nil : okL [] := fun p hp => by cases hp
theorem okL.app {a b : List Prt} (h : okL a) (k : okL b) : okL (a ++ b) := fun p hp => (List.mem_append.1 hp).elim (h p) (k p)
theorem okL.one {p : Prt} (h : OkP p) : okL [p] := fun x hx => by rw [List.mem_singleton.1 hx]; exact h
theorem okS.app {a b : List UInt8} (h : okS a) (k : okS b) : okS (a ++ b) := fun p hp => (List.mem_append.1 hp).elim (h p) (k p)
theorem okS.drop {a : List UInt8} (h : okS a) (k : Nat) : okS (a.drop k) := fun c hc => h c (List.mem_of_mem_drop hc)
theorem okS.take {a : List UInt8} (h : okS a) (k : Nat) : okS (a.take k) := fun c hc => h c (List.mem_of_mem_take hc)
theorem okS.nil : okS [] := fun c hc => by cases hc
theorem OkP.put {p x : Prt} (h : OkP p) (k : OkP x) : OkP (.mk x.kind (x.text ++ p.text) x.orw x.quoted) := by
  cases h with
  | mk k1 t1 o1 q1 a1 b1 =>
    cases k with
    | mk k2 t2 o2 q2 a2 b2 => exact .mk _ _ _ _ (okS.app a2 a1) b2
theorem putF_ok {l : List Prt} {p : Prt} (h : okL l) (hp : OkP p) : okL (putF l p) := by
  rcases List.eq_nil_or_concat l with rfl | ⟨a, x, rfl⟩
  · exact okL.one hp
  · rw [List.concat_eq_append] at h ⊢
    rw [putF_snoc]
    split
    · exact okL.app (fun y hy => h y (by simp [hy])) (okL.one (hp.put (h x (by simp))))
    · exact h.app (okL.one hp)
theorem fold_ok : ∀ (m l : List Prt), okL m → okL l → okL (m.foldl putF l)
  | [], l, _, h => h
  | p :: m, l, hm, h => fold_ok m (putF l p) (fun x hx => hm x (List.mem_cons_of_mem _ hx)) (putF_ok h (hm p (by simp)))
theorem quoted0_ok {l : List Prt} (h : okL l) : okL (quoted0 l) := by
  unfold quoted0
  split
  · exact okL.one (.mk _ _ _ _ okS.nil okL.nil)
  · exact h
theorem pairR_ok (lv : Lv) {r : List UInt8} (h : okS r) : OkP (pairR lv r).1 ∧ okS (pairR lv r).2 := by
  refine ⟨.mk _ _ _ _ ?_ okL.nil, h.drop 1⟩
  split
  · exact fun c hc => by
      rcases List.mem_cons.1 hc with rfl | hc
      · decide
      · exact h.take 1 c hc
  · exact h.take 1
theorem cutR_ok (c : UInt8) {r : List UInt8} (h : okS r) : okS (cutR c r).1 ∧ okS (cutR c r).2 := by
  constructor
  · exact fun x hx => h x ((List.takeWhile_sublist _).subset hx)
  · exact fun x hx => h x ((List.dropWhile_sublist _).subset (List.mem_of_mem_drop hx))
theorem closeR_ok {st : Rst} (h : okS st.s) : okS (closeR st).s := by
  unfold closeR
  split
  · exact h
  · split
    · exact h.drop 1
    · exact h
theorem nameT_okS {r : List UInt8} (h : okS r) : okS (nameT r) := by
  cases r with
  | nil => exact okS.nil
  | cons c r =>
    unfold nameT
    simp only
    split
    · refine okS.take ?_ 32
      intro x hx
      rcases List.mem_cons.1 hx with rfl | hx
      · exact h x (by simp)
      · exact h x (List.mem_cons_of_mem _ ((List.takeWhile_sublist _).subset hx))
    · exact okS.nil
theorem dollarR_ok {W : Rst → List Prt × Rst} {q : Bool} {r : List UInt8} (hW : ∀ st, okS st.s → okL (W st).1 ∧ okS (W st).2.s) (h : okS r) : OkP (dollarR W q r).1 ∧ okS (dollarR W q r).2.s := by
  unfold dollarR
  split
  · split
    · rename_i x hx
      have e := arithW_split _ _ (t := x.1) (r := x.2) hx
      have hd := h.drop 2
      rw [e] at hd
      exact ⟨.mk _ _ _ _ (fun c hc => hd c (by simp [hc])) okL.nil, fun c hc => hd c (by simp [hc])⟩
    · exact ⟨.mk _ _ _ _ okS.nil okL.nil, h.drop 2⟩
  · split
    · split
      · exact ⟨.mk _ _ _ _ okS.nil okL.nil, h.drop 1⟩
      · split
        · have hw := hW ⟨((r.drop 1).drop (nameT (r.drop 1)).length).drop 2, false⟩ (((h.drop 1).drop _).drop 2)
          exact ⟨.mk _ _ _ _ (nameT_okS (h.drop 1)) hw.1, closeR_ok hw.2⟩
        · exact ⟨.mk _ _ _ _ (nameT_okS (h.drop 1)) okL.nil, closeR_ok ((h.drop 1).drop _)⟩
    · split
      · exact ⟨.mk _ _ _ _ okS.nil okL.nil, h.drop 1⟩
      · split
        · exact ⟨.mk _ _ _ _ (fun c hc => by rw [List.mem_singleton.1 hc]; decide) okL.nil, h⟩
        · exact ⟨.mk _ _ _ _ (nameT_okS h) okL.nil, h.drop _⟩
theorem wordR_ok : ∀ (n : Nat) (lv : Lv) (q : Bool) (acc : List Prt) (st : Rst), okL acc → okS st.s → okL (wordR n lv q acc st).1 ∧ okS (wordR n lv q acc st).2.s
  | 0, _, _, _, st, h, k => ⟨h, k⟩
  | n + 1, lv, q, acc, ⟨[], bad⟩, h, k => ⟨h, k⟩
  | n + 1, lv, q, acc, ⟨c :: r, bad⟩, h, k => by
    have hr : okS r := fun x hx => k x (List.mem_cons_of_mem _ hx)
    have hc : okB c = true := k c (by simp)
    unfold wordR
    simp only
    split
    · exact ⟨h, k⟩
    · split
      · exact wordR_ok n _ _ _ _ (putF_ok h (pairR_ok lv hr).1) (pairR_ok lv hr).2
      · split
        · have hd := dollarR_ok (q := q) (W := wordR n .brc q []) (fun st hst => wordR_ok n _ _ _ st okL.nil hst) hr
          exact wordR_ok n _ _ _ _ (putF_ok h hd.1) hd.2
        · split
          · exact wordR_ok n _ _ _ _ (putF_ok h (.mk _ _ _ _ (cutR_ok 39 hr).1 okL.nil)) (cutR_ok 39 hr).2
          · split
            · have hi := wordR_ok n .dbl true [] ⟨r, false⟩ okL.nil hr
              refine wordR_ok n _ _ _ _ (fold_ok _ _ (quoted0_ok hi.1) h) ?_
              show okS (strip34 _)
              unfold strip34
              split
              · exact hi.2.drop 1
              · exact hi.2
            · exact wordR_ok n _ _ _ _ (putF_ok h (.mk _ _ _ _ (fun x hx => by rw [List.mem_singleton.1 hx]; exact hc) okL.nil)) hr
theorem quoteF_ok {t : List UInt8} (h : okS t) : okS (quoteF t) := by
  rcases quoteF_cases t with ⟨_, e⟩ | e
  · rw [e]
    intro c hc
    simp only [List.mem_cons, List.mem_append, List.not_mem_nil, or_false] at hc
    rcases hc with rfl | hc | rfl
    · decide
    · exact h c hc
    · decide
  · rw [e]
    intro c hc
    simp only [List.mem_cons, List.mem_append, List.not_mem_nil, or_false] at hc
    rcases hc with rfl | hc | rfl
    · decide
    · exact dqB_ok h c hc
    · decide
theorem textL_ok : ∀ {l : List Prt}, (∀ p ∈ l, okS (textP p)) → okS (textW l)
  | [], _ => by rw [textW_nil]; exact okS.nil
  | p :: l, h => by rw [textW_cons]; exact (h p (by simp)).app (textL_ok (fun x hx => h x (List.mem_cons_of_mem _ hx)))
theorem text_ok {p : Prt} (h : OkP p) : okS (textP p) := by
  induction h with
  | mk k t o q h1 h2 ih =>
    have ho := textL_ok ih
    have lit : ∀ {l : List UInt8}, l.all okB = true → okS l := fun h => List.all_eq_true.1 h
    have hcore : okS (coreF k t o) := by
      unfold coreF
      split
      · exact ((lit (l := [36, 123]) (by decide)).app h1).app (lit (by decide))
      · split
        · exact ((((lit (l := [36, 123]) (by decide)).app h1).app (lit (l := [58, 45]) (by decide))).app ho).app (lit (by decide))
        · split
          · exact lit (by decide)
          · split
            · exact ((lit (l := [36, 40, 40]) (by decide)).app h1).app (lit (by decide))
            · exact h1
    rw [textP_mk]
    split
    · split
      · exact quoteF_ok h1
      · exact h1
    · split
      · exact ((lit (l := [34]) (by decide)).app hcore).app (lit (by decide))
      · exact hcore
/-! The first byte. -/
theorem putF_head (p0 : Prt) (l : List Prt) (p : Prt) : ∃ p1 l1, putF (p0 :: l) p = p1 :: l1 ∧ p1.kind = p0.kind ∧ p1.quoted = p0.quoted ∧ ∃ u, p1.text = p0.text ++ u := by
  rcases List.eq_nil_or_concat (p0 :: l) with h | ⟨a, x, h⟩
  · cases h
  · rw [h, List.concat_eq_append, putF_snoc]
    rw [List.concat_eq_append] at h
    split
    · cases a with
      | nil =>
        cases h
        exact ⟨_, [], rfl, rfl, rfl, p.text, rfl⟩
      | cons b a =>
        cases h
        exact ⟨p0, _, rfl, rfl, rfl, [], (List.append_nil _).symm⟩
    · rw [← h]
      exact ⟨p0, _, rfl, rfl, rfl, [], (List.append_nil _).symm⟩
theorem fold_head : ∀ (X : List Prt) (p0 : Prt) (l : List Prt), ∃ p1 l1, X.foldl putF (p0 :: l) = p1 :: l1 ∧ p1.kind = p0.kind ∧ p1.quoted = p0.quoted ∧ ∃ u, p1.text = p0.text ++ u
  | [], p0, l => ⟨p0, l, rfl, rfl, rfl, [], (List.append_nil _).symm⟩
  | p :: X, p0, l => by
    obtain ⟨p1, l1, e1, k1, q1, u1, t1⟩ := putF_head p0 l p
    obtain ⟨p2, l2, e2, k2, q2, u2, t2⟩ := fold_head X p1 l1
    exact ⟨p2, l2, by rw [List.foldl_cons, e1, e2], k2.trans k1, q2.trans q1, u1 ++ u2, by rw [t2, t1, List.append_assoc]⟩
/-- The first part: if it is an unquoted Plain, it begins as the raw text. -/
theorem rg_head {s r : List UInt8} {X : List Prt} (h : Rg .bare false s X r) (hs : s ≠ []) (hr : r = []) : ∃ p l, X.foldl putF [] = p :: l ∧ (litP p → ∃ c y z, s = c :: y ∧ p.text = c :: z) := by
  cases h with
  | nil => exact absurd hr hs
  | lit c r0 X r h1 h2 h3 h4 =>
    obtain ⟨p, l, e, _, _, u, ht⟩ := fold_head X (.mk 1 [c] [] false) []
    exact ⟨p, l, e, fun _ => ⟨c, r0, u, rfl, ht⟩⟩
  | oth s s' x X r h1 h2 h3 =>
    obtain ⟨p, l, e, hk, hq, u, ht⟩ := fold_head X x []
    exact ⟨p, l, e, fun hl => absurd ⟨hk.symm.trans hl.1, hq.symm.trans hl.2⟩ h2⟩
theorem ops_first : ∀ o ∈ opsL, ∃ c y, o.2 = c :: y ∧ (endB c = true ∨ (c = 50 ∧ ∃ z, y = 62 :: z)) := by
  intro o ho
  simp only [opsL, List.mem_cons, List.not_mem_nil, or_false] at ho
  rcases ho with rfl | rfl | rfl | rfl | rfl | rfl | rfl | rfl | rfl | rfl | rfl | rfl | rfl | rfl | rfl | rfl | rfl | rfl
  all_goals first
    | exact ⟨_, _, rfl, .inl (by decide)⟩
    | exact ⟨_, _, rfl, .inr ⟨rfl, _, rfl⟩⟩
theorem oper_not {c : UInt8} {r : List UInt8} (h1 : endB c = false) (h2 : ∀ y, r ≠ 62 :: y) : operF (c :: r) = none := by
  unfold operF
  rw [List.find?_eq_none]
  intro o ho hx
  obtain ⟨d, y, e, hd⟩ := ops_first o ho
  rw [e] at hx
  have hx' : (c :: r).take (y.length + 1) = d :: y := by simpa using hx
  rw [List.take_succ_cons] at hx'
  have e1 := (List.cons.inj hx').1
  have e2 := (List.cons.inj hx').2
  rcases hd with hd | ⟨_, z, hz⟩
  · rw [← e1, h1] at hd; cases hd
  · rw [hz] at e2
    cases r with
    | nil => simp at e2
    | cons x r => simp at e2; exact h2 r (by rw [e2.1])
/-- THE LAW: there and back. -/
theorem back_parse {s : List UInt8} {a : List Prt} (h : parseW s = .ok a) : parseW (textW a) = .ok a ∨ parseW (textW a) = .error 3 ∨ parseW (textW a) = .error 12 := by
  have hg := parse_good h
  obtain ⟨⟨hlen, hok, c0, r0, hs, hb0, h350, hop0, hw0⟩, ha, hbad⟩ := parse_open h
  have hokL : okL a := by
    rw [← ha]
    exact (wordR_ok _ .bare false [] ⟨s, false⟩ okL.nil (List.all_eq_true.1 hok)).1
  -- the first part
  obtain ⟨p, l, hpl, hfirst⟩ : ∃ p l, a = p :: l ∧ (litP p → ∃ y z, s = c0 :: y ∧ p.text = c0 :: z) := by
    rcases wordg _ _ hw0 with ⟨X, hX, hr⟩ | hX
    · have e := hr [] (fun _ => rfl) []
      rw [List.append_nil, List.append_nil, wordW_nil] at e
      rw [e] at ha
      obtain ⟨p, l, e1, e2⟩ := rg_head hX (by rw [hs]; simp) rfl
      refine ⟨p, l, ha.symm.trans e1, fun hl => ?_⟩
      obtain ⟨c, y, z, e3, e4⟩ := e2 hl
      rw [hs] at e3
      cases e3
      exact ⟨r0, z, hs, e4⟩
    · have e := hX [] (fun _ => rfl) []
      rw [List.append_nil] at e
      rw [e] at hbad; cases hbad
  have hread := read_good hg
  have hlex := word_good hg
  have hall : (textW a).all okB = true := List.all_eq_true.2 (textL_ok (fun x hx => text_ok (hokL x hx)))
  by_cases hlong : 2048 < (textW a).length
  · right; left
    unfold parseW lexT
    rw [if_pos hlong]
  -- the text's first bytes
  obtain ⟨c, r, htx, hc1, hc2, hc3⟩ : ∃ c r, textW a = c :: r ∧ ¬ (c = 32 ∨ c = 9) ∧ c ≠ 35 ∧ operF (c :: r) = none := by
    have hgp := hg.1 p (by rw [hpl]; simp)
    by_cases hl : litP p
    · obtain ⟨y, z, e1, e2⟩ := hfirst hl
      obtain ⟨_, t, rfl, _⟩ := hgp.plain_lit hl.1 hl.2
      have hls : litS .bare t [] := by cases hgp with | lit _ t h1 h2 => exact h2
      have et : t = c0 :: z := e2
      subst et
      have he0 : endB c0 = false := (hls.1.2.2.2.2.2.2 rfl).1
      refine ⟨c0, z ++ textW l, by rw [hpl, textW_cons, textP_mk, if_pos rfl, if_neg (by decide)]; rfl, hb0, h350, oper_not he0 (fun y' e => ?_)⟩
      cases z with
      | cons d z =>
        have hd := (hls.2.2.1.2.2.2.2.2.2 rfl).1
        have e3 : d = 62 := (List.cons.inj e).1
        rw [e3] at hd; cases hd
      | nil =>
        have h5 := next_clear (T := []) (by rw [← hpl]; exact hg) clear_nil hl
        rw [List.append_nil] at h5
        have e' : textW l = 62 :: y' := e
        cases l with
        | nil => rw [textW_nil] at e'; cases e'
        | cons x l =>
          have hx : ¬ litP x := not_two (by rw [← hpl]; exact hg) hl
          obtain ⟨c, y, e, hc⟩ := text_head (hg.1 x (by rw [hpl]; simp)) hx
          rw [textW_cons, e] at e'
          have e6 : c = 62 := (List.cons.inj e').1
          rw [e6] at hc
          rcases hc with h | h | h <;> cases h
    · obtain ⟨c, y, e, hc⟩ := text_head hgp hl
      have hne : endB c = false ∧ ¬ (c = 32 ∨ c = 9) ∧ c ≠ 35 ∧ c ≠ 50 := by rcases hc with rfl | rfl | rfl <;> decide
      refine ⟨c, y ++ textW l, by rw [hpl, textW_cons, e]; rfl, hne.2.1, hne.2.2.1, ?_⟩
      unfold operF
      rw [List.find?_eq_none]
      intro o ho hx
      obtain ⟨d, y2, e2, hd⟩ := ops_first o ho
      rw [e2] at hx
      have hx' : (c :: (y ++ textW l)).take (y2.length + 1) = d :: y2 := by simpa using hx
      rw [List.take_succ_cons] at hx'
      have e1 := (List.cons.inj hx').1
      rcases hd with hd | ⟨hd, _⟩
      · rw [← e1, hne.1] at hd; cases hd
      · exact hne.2.2.2 (e1.trans hd)
  rw [htx] at hread hlex hall hlong ⊢
  have hwd : wordF (r.length + 2) (c :: r) = wd (c :: r) := wd_of (by simp)
  rcases hlex with hlex | hlex
  · left
    exact parse_make (by omega) hall hc1 hc2 hc3 (hwd.trans hlex) hread
  · right; right
    have e : lexT (c :: r) = .error 12 := by
      unfold lexT
      rw [if_neg hlong, if_neg (by rw [hall]; decide)]
      show lexF (r.length + 1 + 1) (r.length + 1) (c :: r) = _
      exact lex_bad hc1 hc2 hc3 (hwd.trans hlex)
    unfold parseW
    rw [e]
/-! What is gone through. -/
theorem good_all {lv : Lv} {q : Bool} {p : Prt} (h : GoodP lv q p) : ∀ x ∈ allP p, ∃ lv' q', (q = true → q' = true) ∧ GoodP lv' q' x.2 := by
  have one : ∀ {lv : Lv} {q : Bool} {p : Prt}, p.orw = [] → GoodP lv q p → ∀ x ∈ allP p, ∃ lv' q', (q = true → q' = true) ∧ GoodP lv' q' x.2 := by
    intro lv q p ho hg x hx
    rw [allP_of, ho, allL_nil] at hx
    rw [List.mem_singleton.1 hx]
    exact ⟨lv, q, fun h => h, hg⟩
  induction h with
  | quo lv q t => exact one rfl (.quo lv q _)
  | lit lv t h1 h2 => exact one rfl (.lit lv _ h1 h2)
  | name lv q qq t h1 h2 => exact one rfl (.name lv q _ _ h1 h2)
  | stat lv q qq h1 => exact one rfl (.stat lv q _ h1)
  | arith lv q qq t h1 h2 => exact one rfl (.arith lv q _ _ h1 h2)
  | dflt lv q qq t o h1 h2 h3 h4 ih =>
    intro x hx
    rw [allP_of] at hx
    rcases List.mem_cons.1 hx with rfl | hx
    · exact ⟨lv, q, fun h => h, .dflt _ _ _ _ _ h1 h2 h3 h4⟩
    · obtain ⟨y, hy, rfl⟩ := List.mem_map.1 hx
      have key : ∀ l : List Prt, (∀ p ∈ l, ∀ x ∈ allP p, ∃ lv' q', (qq = true → q' = true) ∧ GoodP lv' q' x.2) → ∀ y ∈ allL l, ∃ lv' q', (qq = true → q' = true) ∧ GoodP lv' q' y.2 := by
        intro l hl
        induction l with
        | nil => intro y hy; rw [allL_nil] at hy; cases hy
        | cons p l ih2 =>
          intro y hy
          rw [allL_cons] at hy
          rcases List.mem_append.1 hy with hy | hy
          · exact hl p (by simp) y hy
          · exact ih2 (fun z hz => hl z (List.mem_cons_of_mem _ hz)) y hy
      obtain ⟨lv', q', a1, a2⟩ := key o ih y hy
      exact ⟨lv', q', fun hq => a1 (h1 hq), a2⟩
theorem good_alls {lv : Lv} {q : Bool} : ∀ {l : List Prt}, (∀ p ∈ l, GoodP lv q p) → ∀ x ∈ allL l, ∃ lv' q', (q = true → q' = true) ∧ GoodP lv' q' x.2
  | [], _, x, hx => by rw [allL_nil] at hx; cases hx
  | p :: l, h, x, hx => by
    rw [allL_cons] at hx
    rcases List.mem_append.1 hx with hx | hx
    · exact good_all (h p (by simp)) x hx
    · exact good_alls (fun y hy => h y (List.mem_cons_of_mem _ hy)) x hx
def BadN (a b : Nat × Prt) : Prop := a.1 = b.1 ∧ a.2.kind = 1 ∧ b.2.kind = 1 ∧ a.2.quoted = b.2.quoted
def nextOK : List (Nat × Prt) → Prop
  | a :: b :: l => ¬ BadN a b ∧ nextOK (b :: l)
  | _ => True
theorem nextOK_app : ∀ (a b : List (Nat × Prt)), nextOK a → nextOK b → (∀ y x, a.getLast? = some y → b.head? = some x → ¬ BadN y x) → nextOK (a ++ b)
  | [], b, _, h, _ => h
  | [y], [], _, _, _ => trivial
  | [y], x :: b, _, h, k => ⟨k y x rfl rfl, h⟩
  | y :: z :: a, b, h, hb, k => ⟨h.1, nextOK_app (z :: a) b h.2 hb (fun u v hu hv => k u v (by rw [List.getLast?_cons_cons]; exact hu) hv)⟩
theorem nextOK_up : ∀ l : List (Nat × Prt), nextOK l → nextOK (l.map upD)
  | [], _ => trivial
  | [x], _ => trivial
  | x :: y :: l, h => ⟨fun e => h.1 ⟨by have := e.1; simpa [upD] using this, e.2⟩, nextOK_up (y :: l) h.2⟩
theorem nextOK_at : ∀ (pre : List (Nat × Prt)) (y x : Nat × Prt) (rest : List (Nat × Prt)), nextOK (pre ++ y :: x :: rest) → ¬ BadN y x
  | [], _, _, _, h => h.1
  | [a], y, x, rest, h => h.2.1
  | a :: b :: pre, y, x, rest, h => nextOK_at (b :: pre) y x rest h.2
theorem allL_head (l : List Prt) : (allL l).head? = l.head?.map (fun p => (0, p)) := by
  cases l with
  | nil => rw [allL_nil]; rfl
  | cons p l => rw [allL_cons, allP_of]; rfl
theorem next_part {p : Prt} (hk : p.orw ≠ [] → p.kind ≠ 1) (h : nextOK (allL p.orw)) : nextOK (allP p) := by
  rw [allP_of]
  have h1 := nextOK_up _ h
  cases e : (allL p.orw).map upD with
  | nil => trivial
  | cons x l =>
    rw [e] at h1
    refine ⟨fun hb => hk (fun ho => ?_) hb.2.1, h1⟩
    rw [ho, allL_nil] at e; cases e
theorem next_list : ∀ (l : List Prt), (∀ p ∈ l, nextOK (allP p)) → sepK (l.map keyP) = true → nextOK (allL l)
  | [], _, _ => by rw [allL_nil]; trivial
  | p :: l, h, hs => by
    rw [allL_cons]
    have hs' : sepK (l.map keyP) = true := by
      cases l with
      | nil => rfl
      | cons x l =>
        have h3 : (_ && sepK ((x :: l).map keyP)) = true := hs
        rw [Bool.and_eq_true] at h3
        exact h3.2
    refine nextOK_app _ _ (h p (by simp)) (next_list l (fun x hx => h x (List.mem_cons_of_mem _ hx)) hs') ?_
    intro y x hy hx hb
    rw [allL_head] at hx
    cases l with
    | nil => cases hx
    | cons z l =>
      cases hx
      rw [allP_of] at hy
      cases e : allL p.orw with
      | nil =>
        rw [e] at hy
        cases hy
        simp only [List.map_cons, sepK, keyP, Bool.and_eq_true] at hs
        have h3 := hs.1
        have b1 : p.kind = 1 := hb.2.1
        have b2 : z.kind = 1 := hb.2.2.1
        have b3 : p.quoted = z.quoted := hb.2.2.2
        rw [b1, b2, b3] at h3
        simp at h3
      | cons u v =>
        rw [e, List.map_cons, List.getLast?_cons_cons, ← List.map_cons, List.getLast?_map] at hy
        cases hg : (u :: v).getLast? with
        | none => rw [hg] at hy; cases hy
        | some g =>
          rw [hg] at hy
          cases hy
          have := hb.1
          simp [upD] at this
theorem good_next {lv : Lv} {q : Bool} {p : Prt} (h : GoodP lv q p) : nextOK (allP p) := by
  have one : ∀ {p : Prt}, p.orw = [] → nextOK (allP p) := fun {p} e => next_part (fun h => absurd e h) (by rw [e, allL_nil]; trivial)
  induction h with
  | quo lv q t => exact one rfl
  | lit lv t h1 h2 => exact one rfl
  | name lv q qq t h1 h2 => exact one rfl
  | stat lv q qq h1 => exact one rfl
  | arith lv q qq t h1 h2 => exact one rfl
  | dflt lv q qq t o h1 h2 h3 h4 ih => exact next_part (fun _ => by show (3 : Int) ≠ 1; decide) (next_list o ih h4)
theorem good_nexts {lv : Lv} {q : Bool} {l : List Prt} (h : GoodL lv q l) : nextOK (allL l) := next_list l (fun p hp => good_next (h.1 p hp)) h.2
/-- What is asked of each part. -/
def PartOK (p : Prt) : Prop := 1 ≤ p.kind ∧ p.kind ≤ 5 ∧ (p.kind = 1 → p.quoted = false → p.text ≠ []) ∧ (p.kind ≠ 3 → p.orw = [])
theorem GoodP.ok {lv : Lv} {q : Bool} {p : Prt} (h : GoodP lv q p) : PartOK p := by
  cases h with
  | quo _ _ t => exact ⟨(by decide : (1 : Int) ≤ 1), (by decide : (1 : Int) ≤ 5), fun _ e => (by cases e), fun _ => rfl⟩
  | lit _ t h1 h2 => exact ⟨(by decide : (1 : Int) ≤ 1), (by decide : (1 : Int) ≤ 5), fun _ _ => h1, fun _ => rfl⟩
  | name _ _ qq t h1 h2 => exact ⟨(by decide : (1 : Int) ≤ 2), (by decide : (2 : Int) ≤ 5), fun e => absurd e (by decide : ¬ (2 : Int) = 1), fun _ => rfl⟩
  | dflt _ _ qq t o h1 h2 h3 h4 => exact ⟨(by decide : (1 : Int) ≤ 3), (by decide : (3 : Int) ≤ 5), fun e => absurd e (by decide : ¬ (3 : Int) = 1), fun e => absurd rfl e⟩
  | stat _ _ qq h1 => exact ⟨(by decide : (1 : Int) ≤ 4), (by decide : (4 : Int) ≤ 5), fun e => absurd e (by decide : ¬ (4 : Int) = 1), fun _ => rfl⟩
  | arith _ _ qq t h1 h2 => exact ⟨(by decide : (1 : Int) ≤ 5), (by decide : (5 : Int) ≤ 5), fun e => absurd e (by decide : ¬ (5 : Int) = 1), fun _ => rfl⟩
/-- How large a word is. -/
theorem szL_wt : ∀ (n : Nat) (l : List Prt), szL l ≤ n → szL l ≤ wtL l + 1
  | 0, l, h => by have := szL_pos l; omega
  | n + 1, [], _ => by rw [wtL_nil]; show szP.szL [] ≤ _; rw [szP.szL]; exact Nat.le_refl _
  | n + 1, .mk k t o q :: l, h => by
    have e : szL (.mk k t o q :: l) = szP (.mk k t o q) + szL l := by show szP.szL _ = _; rw [szP.szL]
    have e2 : szP (.mk k t o q) = 1 + szL o := by rw [szP]
    have h2 := szL_pos l
    have h3 := szL_pos o
    have i1 := szL_wt n o (by omega)
    have i2 := szL_wt n l (by omega)
    rw [wtL_cons, wtP_mk]
    omega
theorem parse_sz {s : List UInt8} {a : List Prt} (h : parseW s = .ok a) : szL a ≤ 12 * s.length + 1 := by
  have h1 := szL_wt _ a (Nat.le_refl _)
  unfold parseW at h
  split at h
  · cases h
  · split at h
    · split at h
      · cases h
      · cases h
        have h2 := wordR_weight (s.length + 1) .bare false [] ⟨s, false⟩
        rw [wtL_nil] at h2
        have h3 : wtL (wordW .bare false [] ⟨s, false⟩).1 + 12 * (wordW .bare false [] ⟨s, false⟩).2.s.length ≤ 0 + 12 * s.length := h2
        omega
    · cases h
end Go.Proofs.YtifcgeanippepaaDoor
