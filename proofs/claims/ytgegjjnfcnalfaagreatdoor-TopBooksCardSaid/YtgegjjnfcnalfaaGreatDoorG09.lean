/- Of the proof of TopBooks: IterE, SliceIn. -/
import Derived.Test.YtgegjjnfcnalfaaGreatDoorG08
import Derived.Test.YtgegjjnfcnalfaaGreatDoorG02
namespace Go.Lw
open Go Go.RowKit
def EMono {α : Type} (E : Nat → (Nat → Prop) → (Nat → Prop) → α → Array Value → World → Prop) : Prop := ∀ lo X X' Xp Xp' x A W, E lo X Xp x A W → (∀ k, X' k → X k ∨ k < lo) → (∀ k, Xp k → Xp' k) → E lo X' Xp' x A W
def IterE {α : Type} (P : Program) (gf : Nat) (lb : Array Value) (E : Nat → (Nat → Prop) → (Nat → Prop) → α → Array Value → World → Prop) (R : Nat → Prop) (xs : List α) (w : World) : Prop :=
  ∀ (l : Nat) (J Jx : (Nat → Prop) → List α → World → Prop) (X : Nat → Prop) (W : World), Keeps R w W → (∀ k, X k → k < W.heap.size) → Ab J → Ab Jx →
    (∀ X Xp pre x W1, J Xp pre W1 → (∀ k, X k → Xp k) → (∀ k, Xp k → k < W1.heap.size) → pre ++ [x] <+: xs → ∀ A, E W.heap.size X Xp x A W1 → YAt P l A W1 fun e W' =>
      (e = .returned (.bool true) ∧ J X (pre ++ [x]) W' ∧ Keeps (fun k => R k ∨ X k) W1 W') ∨ (e = .returned (.bool false) ∧ Jx X (pre ++ [x]) W' ∧ Keeps (fun k => R k ∨ X k) W1 W')) →
    J X [] W →
    Calls P gf (#[.func (.yield l) #[] #[]] ++ lb) W fun e W' => (∃ v, e = .returned v) ∧
      ((∃ X', (∀ k, X' k → k < W'.heap.size) ∧ (∀ k, X k → X' k) ∧ J X' xs W') ∨ (∃ X' pre, (∀ k, X' k → k < W'.heap.size) ∧ (∀ k, X k → X' k) ∧ pre <+: xs ∧ pre ≠ [] ∧ Jx X' pre W'))
def Ab2 {σ : Type} (J : (Nat → Prop) → (Nat → Prop) → σ → World → Prop) : Prop :=
  ∀ X X' Xp Xp' s A A', J X Xp s A → Kept X A A' → (∀ k, X' k → X k ∨ (A.heap.size ≤ k ∧ k < A'.heap.size)) → (∀ k, Xp k → Xp' k) → J X' Xp' s A'
theorem wp_rangeE {α : Type} {P : Program} {g : Operand} {ps : Array Tmp} {assign body : Code} {Q : Exit → Act → World → Prop} {a : Act} {w : World}
    {gf : Nat} {lb : Array Value} (hg : a.eval g = .func (.func gf) #[] lb) (eg : ∀ args w, (callFunc gf args).run P w = .ok (.enter gf args) w)
    {E : Nat → (Nat → Prop) → (Nat → Prop) → α → Array Value → World → Prop} {R : Nat → Prop} {xs : List α} (hseq : IterE P gf lb E R xs w) (hE : EMono E) (hR : ∀ k, R k → k < w.heap.size) (hps : ∀ lo X Xp x A W, E lo X Xp x A W → A.size = ps.size)
    (I : (Nat → Prop) → List α → World → Prop) (Ix : Code → (Nat → Prop) → List α → World → Prop) (hI : Ab I) (hIx : ∀ c, Ab (Ix c)) (h0 : I (fun _ => False) [] w)
    (Ax : (Nat → Prop) → (Nat → Prop) → List α × α × Act → World → Prop) (hAx : Ab2 Ax)
    (hassign : ∀ (l : Nat) X Xp (pre : List α) (x : α) (A : Array Value) (W : World) (K : Act → World → Prop), I Xp pre W → (∀ k, X k → Xp k) → E (w.heap.size + 2) X Xp x A W → (∀ k, Xp k → w.heap.size ≤ k ∧ k < W.heap.size) → pre ++ [x] <+: xs → w.heap.size ≤ W.heap.size →
      (∀ a' W', Keeps (fun k => R k ∨ X k) W W' → I Xp pre W' → Ax X Xp (pre, x, a') W' → K a' W') →
      assign.wpIn (Fence.wide.inRound l) 0 P (Exit.then K (fun _ _ _ => False)) { tmps := (ps.zip A).foldl (fun t (p, v) => t.setIfInBounds p v) a.tmps, defers := [] } W)
    (hbody : ∀ (l : Nat) X Xp (pre : List α) (x : α) (a' : Act) (W : World), I Xp pre W → (∀ k, X k → Xp k) → Ax X Xp (pre, x, a') W → (∀ k, Xp k → w.heap.size ≤ k ∧ k < W.heap.size) → pre ++ [x] <+: xs → w.heap.size ≤ W.heap.size →
      body.wpIn (Fence.wide.inRound l) 0 P (postX R I Ix X (pre ++ [x]) W) a' W)
    (hdone : ∀ X (D : Nat) (W : World), w.heap.size ≤ D → X D → (∀ k, X k → w.heap.size ≤ k ∧ k < W.heap.size) → I X xs W → W.heap[D]? = some (.deferred (some [])) →
      Q .normal { a with defers := { target := .collected D, args := #[] } :: a.defers } W)
    (hstop : ∀ X (c : Code) (pre : List α) (D : Nat) (W : World), w.heap.size ≤ D → X D → (∀ k, X k → w.heap.size ≤ k ∧ k < W.heap.size) → pre <+: xs → pre ≠ [] → Ix c X pre W → W.heap[D]? = some (.deferred (some [])) →
      c.wp P Q { a with defers := { target := .collected D, args := #[] } :: a.defers } W) :
    (Code.rangeFunc g ps assign body).wp P Q a w := by
  refine (wpIn_wide (n := 0)).1 (wpIn_rangeFunc ?_)
  intro fn hfn
  show ∃ (l : Nat) (mark : List Deferred) (w₁ : World) (d : Deferred) (w₁' : World) (f : FuncId) (args : Array Value) (w₂ : World), (Instr.enterLoop fn a.tmps ps assign body none).run P w = .ok (l, mark) w₁ ∧ _
  obtain ⟨rec, hrec⟩ : ∃ rec : LoopState → Option Code → Loop, rec = fun st pe => { state := st, pending := pe, fn, tmps := a.tmps, params := ps, assign, body, defers := w.heap.size } := ⟨_, rfl⟩
  obtain ⟨W1, hW1⟩ : ∃ W1, (w.alloc (.deferred (some []))).alloc (.loop (rec .ready none)) = W1 := ⟨_, rfl⟩
  have hs1 : W1.heap.size = w.heap.size + 2 := by rw [← hW1]; simp
  have hL1 : W1.heap[w.heap.size + 1]? = some (.loop (rec .ready none)) := by
    rw [← hW1]; have := World.alloc_heap_new (w.alloc (.deferred (some []))) (.loop (rec .ready none)); rwa [World.size_alloc] at this
  have hK1 : W1.heap[w.heap.size]? = some (.deferred (some [])) := by
    rw [← hW1]; exact (Below.heap_alloc _ _ _ (by simp)).trans (World.alloc_heap_new w _)
  have hk1 : ∀ S, Kept S w W1 := fun S => by rw [← hW1]; exact ((Kept.refl S w).alloc _).alloc _
  obtain ⟨O, hO⟩ : ∃ O : Nat → Prop, O = fun k => k = w.heap.size ∨ k = w.heap.size + 1 := ⟨_, rfl⟩
  have hI1 : I O [] W1 := hI _ _ _ _ _ h0 (hk1 _) (fun k hk => .inr (by rw [hO] at hk; omega))
  refine ⟨w.heap.size + 1, [{ target := .collected w.heap.size, args := #[] }], W1, { target := .fn (.func gf) lb, args := #[.func (.yield (w.heap.size + 1)) #[] #[]] }, W1, gf,
    #[.func (.yield (w.heap.size + 1)) #[] #[]] ++ lb, W1, ?_, ?_, fun _ _ => trivial, ?_, (fun h => by cases h), ?_⟩
  · rw [← hW1, hrec]; exact run_enterLoop_outer _ _ _ _ _
  · simp only [resolve, hg]
    simp [go_sem]
  · simp [invoke, go_sem, eg]
  · obtain ⟨M, hM⟩ : ∃ M : (Nat → Prop) → Nat → Prop, M = fun X k => X k ∨ O k := ⟨_, rfl⟩
    have mono : ∀ {X X' : Nat → Prop} {A A' : World}, w.heap.size + 1 < A.heap.size → (∀ k, X' k → X k ∨ (A.heap.size ≤ k ∧ k < A'.heap.size)) → (∀ k, M X' k → M X k ∨ (A.heap.size ≤ k ∧ k < A'.heap.size)) := fun {X X' A A'} _ hX k hk => by
      rw [hM] at hk ⊢
      rcases hk with h | h
      · rcases hX k h with h | h
        · exact .inl (.inl h)
        · exact .inr h
      · exact .inl (.inr h)
    refine (callsIn_wide (n := 0 - 1)).2 ((hseq (w.heap.size + 1)
      (fun X pre W => I (M X) pre W ∧ (∀ k, X k → w.heap.size + 2 ≤ k) ∧ W.heap[w.heap.size + 1]? = some (.loop (rec .ready none)) ∧ W.heap[w.heap.size]? = some (.deferred (some [])))
      (fun X pre W => ∃ c, Ix c (M X) pre W ∧ (∀ k, X k → w.heap.size + 2 ≤ k) ∧ W.heap[w.heap.size + 1]? = some (.loop (rec .done (some c))) ∧ W.heap[w.heap.size]? = some (.deferred (some [])))
      (fun _ => False) W1 ((hk1 (fun _ => False)).keeps (fun _ _ _ h => h)) (fun _ h => h.elim) ?_ ?_ ?_ ?_).mono ?_)
    · rintro X X' s A A' ⟨i, hX, hl, hd⟩ hk hX'
      have hlt := (Array.getElem?_eq_some_iff.1 hl).1
      exact ⟨hI _ _ _ _ _ i (hk.mono (fun k _ h => by rw [hM]; exact .inl h)) (mono hlt hX'), fun k h => by rcases hX' k h with h | h; exact hX k h; omega,
        hk.heap hl (fun h => by have := hX _ h; omega), hk.heap hd (fun h => by have := hX _ h; omega)⟩
    · rintro X X' s A A' ⟨c, i, hX, hl, hd⟩ hk hX'
      have hlt := (Array.getElem?_eq_some_iff.1 hl).1
      exact ⟨c, hIx c _ _ _ _ _ i (hk.mono (fun k _ h => by rw [hM]; exact .inl h)) (mono hlt hX'), fun k h => by rcases hX' k h with h | h; exact hX k h; omega,
        hk.heap hl (fun h => by have := hX _ h; omega), hk.heap hd (fun h => by have := hX _ h; omega)⟩
    · rintro X Xp pre x W ⟨hi, hX, hl, hd⟩ hXXp hXW hpx A hEA
      have hlt : w.heap.size + 1 < W.heap.size := (Array.getElem?_eq_some_iff.1 hl).1
      have hMb : ∀ V : World, W.heap.size ≤ V.heap.size → ∀ k, M Xp k → w.heap.size ≤ k ∧ k < V.heap.size := fun V hV k hk => by
        rw [hM, hO] at hk
        rcases hk with h | h | h
        · have := hX k h; have := hXW k h; omega
        · omega
        · omega
      have hMO : ∀ k, O k → M X k := fun k h => by rw [hM]; exact .inr h
      have hMOp : ∀ k, O k → M Xp k := fun k h => by rw [hM]; exact .inr h
      have hMM : ∀ k, M X k → M Xp k := fun k h => by rw [hM] at h ⊢; exact h.imp (hXXp k) id
      have hOD : O w.heap.size := by rw [hO]; exact .inl rfl
      have hOL : O (w.heap.size + 1) := by rw [hO]; exact .inr rfl
      have hy := run_yield (P := P) (args := A) hl (by rw [hrec]; exact hps _ _ _ x A W hEA)
      rw [hrec] at hy
      refine ⟨fn, _, assign, body, hy, roundIn_of_wpIn hfn (hassign _ (M X) (M Xp) pre x A W _ hi hMM (hE _ _ _ _ _ _ _ _ (hs1 ▸ hEA) (fun k hk => by rw [hM, hO] at hk; rcases hk with h | h | h; exact .inl h; exact .inr (by omega); exact .inr (by omega)) (fun k hk => by rw [hM]; exact .inl hk)) (hMb W (Nat.le_refl _)) hpx (by omega) ?_)⟩
      clear hy
      intro a' Wa hka hia hax
      have hla := hka.heap hl (.inr (hMO _ hOL))
      have hda := hka.heap hd (.inr (hMO _ hOD))
      refine ⟨_, run_beginRound hla (by rw [hrec]), ?_⟩
      have hlta : w.heap.size + 1 < Wa.heap.size := (Array.getElem?_eq_some_iff.1 hla).1
      obtain ⟨Wb, hWb⟩ : ∃ Wb, Wa.putObj (w.heap.size + 1) (.loop { rec .ready none with state := .busy }) = Wb := ⟨_, rfl⟩
      rw [hWb]
      have hlb : Wb.heap[w.heap.size + 1]? = some (.loop { rec .ready none with state := .busy }) := by rw [← hWb]; exact World.putObj_heap_same hlta
      have hdb : Wb.heap[w.heap.size]? = some (.deferred (some [])) := by rw [← hWb]; exact (World.putObj_heap_other (by omega)).trans hda
      have hkb : Kept O Wa Wb := by rw [← hWb]; exact kept_putObj (Kept.refl _ _) (fun _ => hOL) hlta _
      have hsb : Wb.heap.size = Wa.heap.size := by rw [← hWb]; simp [World.putObj]
      have hib : I (M Xp) pre Wb := hI _ _ _ _ _ hia (hkb.mono (fun k _ h => hMOp k h)) (fun k h => .inl h)
      have hab : Ax (M X) (M Xp) (pre, x, a') Wb := hAx _ _ _ _ _ _ _ hax (hkb.mono (fun k _ h => hMO k h)) (fun k h => .inl h) (fun _ h => h)
      refine wpIn_mono (hbody _ (M X) (M Xp) pre x a' Wb hib hMM hab (hMb Wb (by rw [hsb]; exact hka.1)) hpx (by rw [hsb]; omega)) ?_
      have hXWx : ∀ k, X k → k < W.heap.size := fun k h => hXW k (hXXp k h)
      have hXb : ∀ k, X k → w.heap.size + 2 ≤ k := fun k h => hX k (hXXp k h)
      have hKab : Keeps (fun k => R k ∨ X k) W Wb := by
        refine (hka.mono (fun k h => h.imp id (fun h => by rw [hM]; exact .inl h))).trans (hkb.keeps (fun k hk h ho => ?_))
        rw [hO] at ho
        rcases h with h | h
        · have := hR k h; omega
        · have := hXb k h; omega
      have fin : ∀ (jump : Option Code) (W3 : World), Keeps (fun k => R k ∨ M X k) Wb W3 →
          (Instr.endRound (w.heap.size + 1) jump).run P W3 = .ok (.bool jump.isNone) (W3.putObj (w.heap.size + 1) (.loop (rec (if jump.isNone then .ready else .done) jump))) ∧
          (W3.putObj (w.heap.size + 1) (.loop (rec (if jump.isNone then .ready else .done) jump))).heap[w.heap.size + 1]? = some (.loop (rec (if jump.isNone then .ready else .done) jump)) ∧
          (W3.putObj (w.heap.size + 1) (.loop (rec (if jump.isNone then .ready else .done) jump))).heap[w.heap.size]? = some (.deferred (some [])) ∧
          Kept O W3 (W3.putObj (w.heap.size + 1) (.loop (rec (if jump.isNone then .ready else .done) jump))) ∧
          Keeps (fun k => R k ∨ X k) W (W3.putObj (w.heap.size + 1) (.loop (rec (if jump.isNone then .ready else .done) jump))) := fun jump W3 hk3 => by
        have hl3 := hk3.heap hlb (.inr (hMO _ hOL))
        have hd3 := hk3.heap hdb (.inr (hMO _ hOD))
        have hlt3 := (Array.getElem?_eq_some_iff.1 hl3).1
        have := run_endRound (P := P) jump hl3
        have hkp : Kept O W3 (W3.putObj (w.heap.size + 1) (.loop (rec (if jump.isNone then .ready else .done) jump))) := kept_putObj (Kept.refl _ _) (fun _ => hOL) hlt3 _
        refine ⟨by rw [hrec] at this ⊢; exact this, World.putObj_heap_same hlt3, (World.putObj_heap_other (by omega)).trans hd3, hkp, ?_⟩
        refine hKab.trans ((hk3.mono (fun k h => h.imp id (fun h => by rw [hM]; exact .inl h))).trans (hkp.keeps (fun k hk h ho => ?_)))
        rw [hO] at ho
        rcases h with h | h
        · have := hR k h; omega
        · have := hXb k h; omega
      rintro e a3 W3 hp
      cases e with
      | normal =>
        obtain ⟨hk3, hi3⟩ := hp
        obtain ⟨hr, hl4, hd4, hk4, hKs⟩ := fin none W3 hk3
        exact ⟨_, _, hr, .inl ⟨rfl, ⟨hI _ _ _ _ _ hi3 (hk4.mono (fun k _ h => hMO k h)) (fun k h => .inl h), hXb, hl4, hd4⟩, hKs⟩⟩
      | ret =>
        obtain ⟨hk3, hi3⟩ := hp
        obtain ⟨hr, hl4, hd4, hk4, hKs⟩ := fin (some .ret) W3 hk3
        exact ⟨_, _, hr, .inr ⟨rfl, ⟨.ret, hIx _ _ _ _ _ _ hi3 (hk4.mono (fun k _ h => hMO k h)) (fun k h => .inl h), hXb, hl4, hd4⟩, hKs⟩⟩
      | exit id =>
        obtain ⟨hk3, hi3⟩ := hp
        obtain ⟨hr, hl4, hd4, hk4, hKs⟩ := fin (some (.exit id)) W3 hk3
        exact ⟨_, _, hr, .inr ⟨rfl, ⟨.exit id, hIx _ _ _ _ _ _ hi3 (hk4.mono (fun k _ h => hMO k h)) (fun k h => .inl h), hXb, hl4, hd4⟩, hKs⟩⟩
      | goto t =>
        obtain ⟨hk3, hi3⟩ := hp
        obtain ⟨hr, hl4, hd4, hk4, hKs⟩ := fin (some (.goto t)) W3 hk3
        exact ⟨_, _, hr, .inr ⟨rfl, ⟨.goto t, hIx _ _ _ _ _ _ hi3 (hk4.mono (fun k _ h => hMO k h)) (fun k h => .inl h), hXb, hl4, hd4⟩, hKs⟩⟩
      | panic ch => exact hp.elim
      | outgrown => exact hp.elim
    · refine ⟨?_, fun _ h => h.elim, hL1, hK1⟩
      exact hI _ _ _ _ _ hI1 (Kept.refl _ _) (fun k h => .inl (by rw [hM] at h; exact h.elim (fun h => h.elim) id))
    · have hb : ∀ {X : Nat → Prop} {W2 : World}, (∀ k, X k → k < W2.heap.size) → (∀ k, X k → w.heap.size + 2 ≤ k) → w.heap.size + 1 < W2.heap.size → ∀ (o : Obj) k, M X k → w.heap.size ≤ k ∧ k < (W2.putObj (w.heap.size + 1) o).heap.size := fun {X W2} h1 h2 h3 o k hk => by
        have hs : (W2.putObj (w.heap.size + 1) o).heap.size = W2.heap.size := by simp [World.putObj]
        rw [hs]
        rw [hM, hO] at hk
        rcases hk with h | h | h
        · have := h1 k h; have := h2 k h; omega
        · omega
        · omega
      have hMD : ∀ X, M X w.heap.size := fun X => by rw [hM, hO]; exact .inr (.inl rfl)
      have hML : ∀ X, M X (w.heap.size + 1) := fun X => by rw [hM, hO]; exact .inr (.inr rfl)
      rintro e W2 ⟨⟨v, rfl⟩, (⟨X, hXW, _, hi, hX, hl, hd⟩ | ⟨X, pre, hXW, _, hp, hne, c, hi, hX, hl, hd⟩)⟩
      · have hlt := (Array.getElem?_eq_some_iff.1 hl).1
        refine ⟨none, _, by have := run_endLoop (P := P) hl (by rw [hrec]; simp); rw [hrec] at this; exact this, ?_⟩
        exact hdone (M X) w.heap.size _ (Nat.le_refl _) (hMD X) (hb hXW hX hlt _) (hI _ _ _ _ _ hi (kept_putObj (Kept.refl _ _) (fun _ => hML X) hlt _) (fun k h => .inl h)) ((World.putObj_heap_other (by omega)).trans hd)
      · have hlt := (Array.getElem?_eq_some_iff.1 hl).1
        refine ⟨some c, _, by have := run_endLoop (P := P) hl (by rw [hrec]; simp); rw [hrec] at this; exact this, ?_⟩
        exact (wpIn_wide (n := 0)).2 (hstop (M X) c pre w.heap.size _ (Nat.le_refl _) (hMD X) (hb hXW hX hlt _) hp hne (hIx c _ _ _ _ _ hi (kept_putObj (Kept.refl _ _) (fun _ => hML X) hlt _) (fun k h => .inl h)) ((World.putObj_heap_other (by omega)).trans hd))
section
variable {F : Fence} {nn : Nat} {P : Program} {w : World} {ops : Array Oper} {rest : List Oper} {o : Oper} {a : Act} {Q : Exit → Act → World → Prop}
theorem wpListIn_slice_l (hw : Region.wanted o (yielded ops a.tmps) = true) (t : TypeId) (x lo : Operand) (ho : o.op = .slice t x (some lo) none none)
    {e : TypeId} {size bytes : Nat} (E : ElemT P t e size bytes) (v : Value) (n : Nat) (xs : List Value) (kl : IntKind) (L : Int) (l : Nat) (hx : a.eval x = v) (hl : a.eval lo = .int kl L) (hr : Rd w size v n xs)
    (hL : L = (l : Int)) (h1 : l ≤ n)
    (hk : ∀ ad c, Rd w size (.slice ad (n - l) c) (n - l) (xs.drop (l * size)) → (∀ k, blk (.slice ad (n - l) c) k → blk v k) → wpListIn F nn P ops Q rest (a.put o.dst (.slice ad (n - l) c)) w) : wpListIn F nn P ops Q (o :: rest) a w := by
  refine wpListIn_step fun K hK => ?_
  rw [if_pos hw]
  obtain ⟨h0, ad, cap, rfl, hnc, hcm, hc⟩ := id hr
  subst hL
  have ee : P.elem t = e := by simp [Program.elem, E.und]
  have hrun := run_slice_l (P := P) w t ad n cap (elem_of E.und) kl (l : Int) (by omega) (by omega)
  rw [ee, run_sizeOf E] at hrun
  simp only [Result.andThen_ok, Int.toNat_natCast] at hrun
  unfold Oper.wpIn
  refine ⟨?_, ?_⟩
  · simp [Oper.about, ho]
  rw [Oper.semAt_plain F _ _ (by rw [ho]; intro c hc'; cases hc')]
  unfold execOp
  simp only [ho, hx, hl, Option.map_some, Option.map_none, run_sliceAt_slice (P := P) w t _ _ _ _ (elem_of E.und), hrun, Sem.run_bind, Sem.run_pure, Result.andThen_ok]
  have hrd := Rd.sliced hr l n h1 (Nat.le_refl _)
  rw [List.take_of_length_le (by rw [List.length_drop, h0, ← Nat.sub_mul]; exact Nat.le_refl _)] at hrd
  exact hK _ _ (hk _ _ hrd (fun k hb => blk_sliced hb))
end
end Go.Lw
