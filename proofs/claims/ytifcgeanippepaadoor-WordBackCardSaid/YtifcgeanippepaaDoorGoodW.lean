/- Words, plain: what a good part is; what is read of elementary parts, put together, is good. -/
import Derived.Test.YtifcgeanippepaaDoorWAddsP
import Derived.Test.YtifcgeanippepaaDoorTilesP
namespace Go.Proofs.YtifcgeanippepaaDoor
open Go Go.RowKit Go.Lw
set_option linter.unusedVariables false
set_option linter.unusedSimpArgs false
/-- What may not stand behind a dollar that is none. -/
def stopB (c : UInt8) : Bool := letterB c true || c == 40 || c == 123 || c == 63
def Clear (s : List UInt8) : Prop := ∀ x y, s = x :: y → stopB x = false
/-- A byte that stands for itself, unquoted. -/
def litC (lv : Lv) (c : UInt8) : Prop := c ≠ 92 ∧ c ≠ 39 ∧ c ≠ 34 ∧ c ≠ 96 ∧ c ≠ 10 ∧ (lv = .brc → c ≠ 125) ∧ (lv = .bare → endB c = false ∧ c ≠ 40 ∧ c ≠ 41)
/-- A text that stands for itself, ahead of s. -/
def litS (lv : Lv) : List UInt8 → List UInt8 → Prop
  | [], _ => True
  | c :: r, s => litC lv c ∧ (c = 36 → Clear (r ++ s)) ∧ litS lv r s
theorem clear_nil : Clear [] := fun _ _ h => by cases h
theorem clear_cons {c : UInt8} {s : List UInt8} (h : stopB c = false) : Clear (c :: s) := fun _ _ e => by cases e; exact h
theorem clear_pre {a b : List UInt8} (h : Clear (a ++ b)) : Clear a := fun x y e => h x (y ++ b) (by rw [e]; rfl)
theorem litS_nil {lv : Lv} : ∀ {t s : List UInt8}, litS lv t s → litS lv t []
  | [], _, _ => trivial
  | c :: r, s, ⟨h1, h2, h3⟩ => ⟨h1, fun e => by rw [List.append_nil]; exact clear_pre (h2 e), litS_nil h3⟩
theorem litS_snoc {lv : Lv} {c : UInt8} {s : List UInt8} (hc : litC lv c) (hd : c = 36 → Clear s) : ∀ {t : List UInt8}, litS lv t (c :: s) → litS lv (t ++ [c]) s
  | [], _ => ⟨hc, fun e => hd e, trivial⟩
  | a :: r, ⟨h1, h2, h3⟩ => ⟨h1, fun e => by show Clear ((r ++ [c]) ++ s); rw [List.append_assoc]; exact h2 e, litS_snoc hc hd h3⟩
def nameOK (t : List UInt8) : Prop := t ≠ [] ∧ t.length ≤ 32 ∧ (∀ c l, t = c :: l → letterB c true = true) ∧ (∀ c ∈ t, letterB c false = true)
def arithOK (t : List UInt8) : Prop := ∀ T, arithF 0 (t ++ 41 :: 41 :: T) = .ok T ∧ arithW 0 (t ++ 41 :: 41 :: T) = some (t, T)
/-- Of parts that stand one behind the other: are they no two Plains alike? -/
def keyP (p : Prt) : Bool × Bool := (decide (p.kind = 1), p.quoted)
def sepK : List (Bool × Bool) → Bool
  | a :: b :: l => !(a.1 && b.1 && a.2 == b.2) && sepK (b :: l)
  | _ => true
theorem sepK_snoc (y x : Bool × Bool) : ∀ l : List (Bool × Bool), sepK (l ++ [x] ++ [y]) = (sepK (l ++ [x]) && !(x.1 && y.1 && x.2 == y.2))
  | [] => by simp [sepK]
  | [a] => by simp [sepK]
  | a :: b :: l => by
    have h := sepK_snoc y x (b :: l)
    show (!(a.1 && b.1 && a.2 == b.2) && sepK ((b :: l) ++ [x] ++ [y])) = (!(a.1 && b.1 && a.2 == b.2) && sepK ((b :: l) ++ [x]) && _)
    rw [h]; simp only [Bool.and_assoc]
inductive GoodP : Lv → Bool → Prt → Prop
  | quo (lv q t) : GoodP lv q (.mk 1 t [] true)
  | lit (lv t) : t ≠ [] → litS lv t [] → GoodP lv false (.mk 1 t [] false)
  | name (lv q qq t) : (q = true → qq = true) → nameOK t → GoodP lv q (.mk 2 t [] qq)
  | dflt (lv q qq t o) : (q = true → qq = true) → nameOK t → (∀ p ∈ o, GoodP .brc qq p) → sepK (o.map keyP) = true → GoodP lv q (.mk 3 t o qq)
  | stat (lv q qq) : (q = true → qq = true) → GoodP lv q (.mk 4 [] [] qq)
  | arith (lv q qq t) : (q = true → qq = true) → arithOK t → GoodP lv q (.mk 5 t [] qq)
/-- A good word. -/
def GoodL (lv : Lv) (q : Bool) (l : List Prt) : Prop := (∀ p ∈ l, GoodP lv q p) ∧ sepK (l.map keyP) = true
theorem GoodP.any {lv lv' : Lv} {q q' : Bool} {p : Prt} (h : GoodP lv q p) (hq : p.quoted = true) : GoodP lv' q' p := by
  cases h with
  | quo _ _ t => exact .quo _ _ _
  | lit _ t h1 h2 => cases hq
  | name _ _ qq t h1 h2 => exact .name _ _ _ _ (fun _ => hq) h2
  | dflt _ _ qq t o h1 h2 h3 h4 => exact .dflt _ _ _ _ _ (fun _ => hq) h2 h3 h4
  | stat _ _ qq h1 => exact .stat _ _ _ (fun _ => hq)
  | arith _ _ qq t h1 h2 => exact .arith _ _ _ _ (fun _ => hq) h2
theorem GoodP.quoted' {lv : Lv} {q : Bool} {p : Prt} (h : GoodP lv q p) (hq : q = true) : p.quoted = true := by
  cases h with
  | quo _ _ t => rfl
  | lit _ t h1 h2 => cases hq
  | name _ _ qq t h1 h2 => exact h1 hq
  | dflt _ _ qq t o h1 h2 h3 h4 => exact h1 hq
  | stat _ _ qq h1 => exact h1 hq
  | arith _ _ qq t h1 h2 => exact h1 hq
theorem GoodP.quoted {lv : Lv} {p : Prt} (h : GoodP lv true p) : p.quoted = true := h.quoted' rfl
theorem GoodP.plain_lit {lv : Lv} {q : Bool} {p : Prt} (h : GoodP lv q p) (h1 : p.kind = 1) (h2 : p.quoted = false) : q = false ∧ ∃ t, p = .mk 1 t [] false ∧ t ≠ [] := by
  cases h with
  | quo _ _ t => cases h2
  | lit _ t h3 h4 => exact ⟨rfl, t, rfl, h3⟩
  | name _ _ qq t h3 h4 => cases h1
  | dflt _ _ qq t o h3 h4 h5 h6 => cases h1
  | stat _ _ qq h3 => cases h1
  | arith _ _ qq t h3 h4 => cases h1
theorem GoodP.plain_quo {lv : Lv} {q : Bool} {p : Prt} (h : GoodP lv q p) (h1 : p.kind = 1) (h2 : p.quoted = true) : ∃ t, p = .mk 1 t [] true := by
  cases h with
  | quo _ _ t => exact ⟨t, rfl⟩
  | lit _ t h3 h4 => cases h2
  | name _ _ qq t h3 h4 => cases h1
  | dflt _ _ qq t o h3 h4 h5 h6 => cases h1
  | stat _ _ qq h3 => cases h1
  | arith _ _ qq t h3 h4 => cases h1
/-- A raw text s gives elementary parts, and leaves r. -/
inductive Rg (lv : Lv) (q : Bool) : List UInt8 → List Prt → List UInt8 → Prop
  | nil (s) : Rg lv q s [] s
  | lit (c r X r') : q = false → litC lv c → (c = 36 → Clear r) → Rg lv q r X r' → Rg lv q (c :: r) (.mk 1 [c] [] false :: X) r'
  | oth (s s' x X r') : GoodP lv q x → ¬ (x.kind = 1 ∧ x.quoted = false) → Rg lv q s' X r' → Rg lv q s (x :: X) r'
theorem Rg.trans {lv : Lv} {q : Bool} {a b c : List UInt8} {X Y : List Prt} (h : Rg lv q a X b) (k : Rg lv q b Y c) : Rg lv q a (X ++ Y) c := by
  induction h with
  | nil s => exact k
  | lit c r X r' h1 h2 h3 h4 ih => exact .lit _ _ _ _ h1 h2 h3 (ih k)
  | oth s s' x X r' h1 h2 h3 ih => exact .oth _ _ _ _ _ h1 h2 (ih k)
theorem Rg.many {lv : Lv} {q : Bool} (s r : List UInt8) : ∀ {X : List Prt}, X ≠ [] → (∀ x ∈ X, GoodP lv q x ∧ x.quoted = true) → Rg lv q s X r
  | [], h, _ => absurd rfl h
  | [x], _, h => .oth s r x [] r (h x (by simp)).1 (fun e => by rw [(h x (by simp)).2] at e; cases e.2) (.nil r)
  | x :: y :: X, _, h => .oth s s x (y :: X) r (h x (by simp)).1 (fun e => by rw [(h x (by simp)).2] at e; cases e.2) (Rg.many s r (by simp) (fun z hz => h z (by simp at hz ⊢; exact .inr hz)))
/-- What holds of what is out, ahead of s. -/
structure InvG (lv : Lv) (q : Bool) (acc : List Prt) (s : List UInt8) : Prop where
  good : ∀ p ∈ acc, GoodP lv q p
  sep : sepK (acc.map keyP) = true
  last : ∀ a l, acc = a ++ [l] → l.kind = 1 → l.quoted = false → litS lv l.text s
theorem InvG.nil (lv : Lv) (q : Bool) (s : List UInt8) : InvG lv q [] s := ⟨fun p hp => (by cases hp), rfl, fun a l h => (by simp at h)⟩
theorem snoc_inj {α : Type} {a b : List α} {x y : α} (h : a ++ [x] = b ++ [y]) : a = b ∧ x = y := by
  have h1 := List.append_inj' h rfl
  exact ⟨h1.1, by simpa using h1.2⟩
theorem sep_new {a : List Prt} {l p : Prt} (h : sepK ((a ++ [l]).map keyP) = true) (hm : ¬ (p.kind = 1 ∧ l.kind = 1 ∧ l.quoted = p.quoted)) : sepK ((a ++ [l] ++ [p]).map keyP) = true := by
  rw [List.map_append, List.map_append] at *
  rw [List.map_cons, List.map_nil, List.map_cons, List.map_nil, sepK_snoc]
  rw [List.map_cons, List.map_nil] at h
  rw [h, Bool.true_and]
  unfold keyP
  cases hk : decide (l.kind = 1) <;> cases hp : decide (p.kind = 1) <;> simp
  simp only [decide_eq_true_eq] at hk hp
  exact fun e => hm ⟨hp, hk, e⟩
theorem sep_same {a : List Prt} {l p : Prt} (h : sepK ((a ++ [l]).map keyP) = true) (hk : keyP p = keyP l) : sepK ((a ++ [p]).map keyP) = true := by
  rw [List.map_append, List.map_cons, List.map_nil] at *
  rw [hk]; exact h
theorem InvG.step_lit {lv : Lv} {q : Bool} {acc : List Prt} {c : UInt8} {s : List UInt8} (h : InvG lv q acc (c :: s)) (hq : q = false) (hc : litC lv c) (hd : c = 36 → Clear s) : InvG lv q (putF acc (.mk 1 [c] [] false)) s := by
  subst hq
  have hone : litS lv [c] s := ⟨hc, fun e => hd e, trivial⟩
  have hnew : GoodP lv false (.mk 1 [c] [] false) := .lit _ _ (by simp) (litS_nil hone)
  rcases List.eq_nil_or_concat acc with rfl | ⟨a, l, rfl⟩
  · refine ⟨fun p hp => ?_, rfl, fun a l e _ _ => ?_⟩
    · rw [List.mem_singleton.1 (show p ∈ [Prt.mk 1 [c] [] false] from hp)]; exact hnew
    · obtain ⟨_, e2⟩ := snoc_inj (show [] ++ [Prt.mk 1 [c] [] false] = a ++ [l] from e)
      rw [← e2]; exact hone
  · rw [List.concat_eq_append] at h ⊢
    rw [putF_snoc]
    have hl := h.good l (by simp)
    by_cases hm : (Prt.mk 1 [c] [] false).kind = 1 ∧ l.kind = 1 ∧ l.quoted = (Prt.mk 1 [c] [] false).quoted
    · rw [if_pos hm]
      obtain ⟨_, t, rfl, ht⟩ := hl.plain_lit hm.2.1 hm.2.2
      have h3 := litS_snoc hc hd (h.last a _ rfl rfl rfl)
      refine ⟨fun p hp => ?_, sep_same h.sep rfl, fun a' l' e _ _ => ?_⟩
      · rcases List.mem_append.1 hp with hp | hp
        · exact h.good p (by simp [hp])
        · rw [List.mem_singleton.1 hp]; exact .lit _ _ (by show t ++ [c] ≠ []; simp) (litS_nil h3)
      · rw [← (snoc_inj e).2]; exact h3
    · rw [if_neg hm]
      refine ⟨fun p hp => ?_, sep_new h.sep hm, fun a' l' e _ _ => ?_⟩
      · rcases List.mem_append.1 hp with hp | hp
        · exact h.good p hp
        · rw [List.mem_singleton.1 hp]; exact hnew
      · rw [← (snoc_inj e).2]; exact hone
theorem InvG.step_oth {lv : Lv} {q : Bool} {acc : List Prt} {x : Prt} {s s' : List UInt8} (h : InvG lv q acc s) (hx : GoodP lv q x) (hn : ¬ (x.kind = 1 ∧ x.quoted = false)) : InvG lv q (putF acc x) s' := by
  rcases List.eq_nil_or_concat acc with rfl | ⟨a, l, rfl⟩
  · refine ⟨fun p hp => ?_, rfl, fun a l e h1 h2 => ?_⟩
    · rw [List.mem_singleton.1 (show p ∈ [x] from hp)]; exact hx
    · obtain ⟨_, e2⟩ := snoc_inj (show [] ++ [x] = a ++ [l] from e)
      subst e2
      exact absurd ⟨h1, h2⟩ hn
  · rw [List.concat_eq_append] at h ⊢
    rw [putF_snoc]
    have hl := h.good l (by simp)
    by_cases hm : x.kind = 1 ∧ l.kind = 1 ∧ l.quoted = x.quoted
    · rw [if_pos hm]
      have hxq : x.quoted = true := by
        cases e : x.quoted with
        | true => rfl
        | false => exact absurd ⟨hm.1, e⟩ hn
      obtain ⟨t, rfl⟩ := hl.plain_quo hm.2.1 (hm.2.2.trans hxq)
      refine ⟨fun p hp => ?_, sep_same h.sep rfl, fun a' l' e _ h2 => ?_⟩
      · rcases List.mem_append.1 hp with hp | hp
        · exact h.good p (by simp [hp])
        · rw [List.mem_singleton.1 hp]; exact .quo _ _ _
      · rw [← (snoc_inj e).2] at h2; cases h2
    · rw [if_neg hm]
      refine ⟨fun p hp => ?_, sep_new h.sep hm, fun a' l' e h1 h2 => ?_⟩
      · rcases List.mem_append.1 hp with hp | hp
        · exact h.good p hp
        · rw [List.mem_singleton.1 hp]; exact hx
      · rw [← (snoc_inj e).2] at h1 h2
        exact absurd ⟨h1, h2⟩ hn
theorem Rg.inv {lv : Lv} {q : Bool} {s r : List UInt8} {X : List Prt} (h : Rg lv q s X r) : ∀ {acc : List Prt}, InvG lv q acc s → InvG lv q (X.foldl putF acc) r := by
  induction h with
  | nil s => exact fun h => h
  | lit c r X r' h1 h2 h3 h4 ih => exact fun h => ih (h.step_lit h1 h2 h3)
  | oth s s' x X r' h1 h2 h3 ih => exact fun h => ih (h.step_oth h1 h2)
theorem Rg.good {lv : Lv} {q : Bool} {s r : List UInt8} {X : List Prt} (h : Rg lv q s X r) : GoodL lv q (X.foldl putF []) := ⟨(h.inv (InvG.nil _ _ _)).good, (h.inv (InvG.nil _ _ _)).sep⟩
/-- A reading from s to r. -/
def SyG (lv : Lv) (q : Bool) (s r : List UInt8) : Prop :=
  (∃ X : List Prt, Rg lv q s X r ∧ ∀ T, (r = [] → T = []) → ∀ acc, wordW lv q acc ⟨s ++ T, false⟩ = wordW lv q (X.foldl putF acc) ⟨r ++ T, false⟩) ∨
  (∀ T, (r = [] → T = []) → ∀ acc, (wordW lv q acc ⟨s ++ T, false⟩).2.bad = true)
theorem SyG.refl (lv : Lv) (q : Bool) (s : List UInt8) : SyG lv q s s := .inl ⟨[], .nil s, fun _ _ _ => rfl⟩
theorem SyG.trans {lv : Lv} {q : Bool} {a b c : List UInt8} (h : SyG lv q a b) (k : SyG lv q b c) (hbc : b = [] → c = []) : SyG lv q a c := by
  rcases h with ⟨X, hg, h⟩ | h
  · rcases k with ⟨Y, kg, k⟩ | k
    · exact .inl ⟨X ++ Y, hg.trans kg, fun T hT acc => by rw [h T (fun e => hT (hbc e)), k T hT, List.foldl_append]⟩
    · exact .inr fun T hT acc => by rw [h T (fun e => hT (hbc e))]; exact k T hT _
  · exact .inr fun T hT acc => h T (fun e => hT (hbc e)) acc
theorem SyG.one {lv : Lv} {q : Bool} {s r : List UInt8} (p : Prt) (hg : GoodP lv q p) (hn : ¬ (p.kind = 1 ∧ p.quoted = false)) (h : ∀ T, (r = [] → T = []) → ∀ acc, wordW lv q acc ⟨s ++ T, false⟩ = wordW lv q (putF acc p) ⟨r ++ T, false⟩) : SyG lv q s r :=
  .inl ⟨[p], .oth _ _ _ _ _ hg hn (.nil r), h⟩
theorem rg_one {lv : Lv} {q : Bool} {c : UInt8} {r : List UInt8} (hl : q = false → litC lv c ∧ (c = 36 → Clear r)) : Rg lv q (c :: r) [.mk 1 [c] [] q] r := by
  cases q with
  | true => exact .oth _ r _ _ _ (.quo _ _ _) (fun e => by cases e.2) (.nil r)
  | false => exact .lit _ _ _ _ rfl (hl rfl).1 (hl rfl).2 (.nil r)
theorem SyG.single {lv : Lv} {q : Bool} {c : UInt8} {r : List UInt8} (h0 : lv.ends ≠ some c) (h1 : c ≠ 92) (h2 : c ≠ 36) (h3 : ¬ (c = 39 ∧ lv ≠ .dbl)) (h4 : ¬ (c = 34 ∧ lv ≠ .dbl)) (hl : q = false → litC lv c) : SyG lv q (c :: r) r :=
  .inl ⟨[.mk 1 [c] [] q], rg_one (fun e => ⟨hl e, fun e2 => absurd e2 h2⟩), fun T _ acc => wordW_one q acc (r ++ T) h0 h1 h2 h3 h4⟩
theorem letter_litC {lv : Lv} {c : UInt8} (h : letterB c false = true) : litC lv c := by
  have n := fun k => @letter_ne c k h
  refine ⟨n _ (by decide), n _ (by decide), n _ (by decide), n _ (by decide), n _ (by decide), fun _ => n _ (by decide), fun _ => ⟨?_, n _ (by decide), n _ (by decide)⟩⟩
  unfold endB
  simp only [Bool.or_eq_false_iff, beq_eq_false_iff_ne]
  refine ⟨⟨⟨⟨⟨⟨⟨?_, ?_⟩, ?_⟩, ?_⟩, ?_⟩, ?_⟩, ?_⟩, ?_⟩ <;> exact n _ (by decide)
theorem rg_letters {lv : Lv} {q : Bool} (r : List UInt8) : ∀ (l : List UInt8), (∀ c ∈ l, letterB c false = true) → Rg lv q (l ++ r) (l.map fun c => Prt.mk 1 [c] [] q) r
  | [], _ => .nil r
  | c :: l, h => by
    have hc := h c List.mem_cons_self
    exact (rg_one (r := l ++ r) (fun _ => ⟨letter_litC hc, fun e => absurd e (letter_ne hc (by decide))⟩)).trans (rg_letters r l (fun x hx => h x (List.mem_cons_of_mem _ hx)))
theorem arithW_split : ∀ (s : List UInt8) (o : Nat) {t r : List UInt8}, arithW o s = some (t, r) → s = t ++ 41 :: 41 :: r
  | [], o, t, r, h => by cases h
  | c :: s, o, t, r, h => by
    have key : ∀ {o' : Nat} {x : List UInt8 × List UInt8}, (arithW o' s).map (fun x => (c :: x.1, x.2)) = some x → c :: s = x.1 ++ 41 :: 41 :: x.2 := by
      intro o' x h
      cases hy : arithW o' s with
      | none => rw [hy] at h; cases h
      | some y =>
        rw [hy] at h; cases h
        have := arithW_split s o' (t := y.1) (r := y.2) hy
        show c :: s = c :: (y.1 ++ 41 :: 41 :: y.2)
        rw [← this]
    unfold arithW at h
    split at h
    · exact key h
    · split at h
      · exact key h
      · split at h
        · rename_i h1
          cases h
          have h2 := h1.2
          cases s with
          | nil => simp at h2
          | cons d s => simp at h2; rw [h1.1, h2]; rfl
        · exact key h
theorem arithG_ok {s r' t : List UInt8} (h1 : arithF 0 s = .ok r') (h2 : arithW 0 s = some (t, r')) : arithOK t := by
  have e := arithW_split s 0 h2
  have hc : arithF 0 (t ++ [41, 41]) = .ok [] := arithF_cut (t := r') (by rw [List.append_assoc, List.nil_append]; rw [e] at h1; exact h1)
  obtain ⟨u, hu⟩ := arith_both _ 0 hc
  intro T
  obtain ⟨g1, g2⟩ := hu T
  rw [List.append_assoc, List.nil_append] at g1 g2
  have e2 := arithW_split _ 0 g2
  have e3 : t = u := List.append_cancel_right (show t ++ (41 :: 41 :: T) = u ++ (41 :: 41 :: T) from e2)
  subst e3
  exact ⟨g1, g2⟩
end Go.Proofs.YtifcgeanippepaaDoor
