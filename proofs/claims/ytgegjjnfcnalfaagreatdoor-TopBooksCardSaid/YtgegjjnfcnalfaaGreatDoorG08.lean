/- Of the proof of TopBooks: Iter. -/
import Derived.Test.YtgegjjnfcnalfaaGreatDoorG00
import Derived.RangeFuncNested
import Derived.RangeFuncBound
import Derived.RangeFuncCalls
import Derived.RangeFuncLeaves
import Derived.OwnWalkIn
import Derived.TacticsInMore
import Derived.LoopNIn
import Derived.LoopIn
import Derived.Shelf.Abstract
namespace Go.Lw
open Go Go.RowKit
def Keeps (R : Nat → Prop) (W W' : World) : Prop := W.heap.size ≤ W'.heap.size ∧ ∀ k, k < W.heap.size → R k → W'.heap[k]? = W.heap[k]?
theorem Keeps.refl (R : Nat → Prop) (W : World) : Keeps R W W := ⟨Nat.le_refl _, fun _ _ _ => rfl⟩
theorem Keeps.trans {R : Nat → Prop} {A B C : World} (h : Keeps R A B) (k : Keeps R B C) : Keeps R A C :=
  ⟨Nat.le_trans h.1 k.1, fun i hi hr => (k.2 i (Nat.lt_of_lt_of_le hi h.1) hr).trans (h.2 i hi hr)⟩
theorem Keeps.mono {R R' : Nat → Prop} {A B : World} (h : Keeps R A B) (hr : ∀ k, R' k → R k) : Keeps R' A B := ⟨h.1, fun i hi hk => h.2 i hi (hr i hk)⟩
theorem Kept.keeps {S R : Nat → Prop} {A B : World} (h : Kept S A B) (hr : ∀ k, k < A.heap.size → R k → ¬ S k) : Keeps R A B := ⟨h.size, fun k hk hR => h.block k hk (hr k hk hR)⟩
theorem Keeps.heap {R : Nat → Prop} {A B : World} (h : Keeps R A B) {k : Nat} {o : Obj} (hk : A.heap[k]? = some o) (hr : R k) : B.heap[k]? = some o :=
  (h.2 k (Array.getElem?_eq_some_iff.1 hk).1 hr).trans hk
theorem Keeps.cell {R : Nat → Prop} {A B : World} (h : Keeps R A B) {p : Addr} {v : Value} (hc : A.cell? p = some v) (hr : R p.block) : B.cell? p = some v := by
  rw [World.cell?_of_block (w := A) (h.2 p.block (World.block_lt_of_cell? A p hc) hr)]; exact hc
theorem kept_putObj {S : Nat → Prop} {A B : World} (h : Kept S A B) {l : Nat} (hl : l < A.heap.size → S l) (_ : l < B.heap.size) (o : Obj) : Kept S A (B.putObj l o) :=
  h.grown (grownBy_putObj' B l o) (fun k e hk => by cases e; exact hl hk)
def Ab {σ : Type} (J : (Nat → Prop) → σ → World → Prop) : Prop :=
  ∀ X X' s A A', J X s A → Kept X A A' → (∀ k, X' k → X k ∨ (A.heap.size ≤ k ∧ k < A'.heap.size)) → J X' s A'
abbrev YAt (P : Program) (l : Nat) (args : Array Value) (W : World) (R : Ending → World → Prop) : Prop := YieldAt Fence.wide 0 P l args W R
theorem roundAny {n m : Nat} {P : Program} {l : Nat} {f : FuncId} {tmps : Array Value} {assign body : Code} {w : World} {R : Ending → World → Prop}
    (h : RoundIn Fence.wide n P l f tmps assign body w R) : RoundIn Fence.wide m P l f tmps assign body w R :=
  ⟨h.1, fun c cs _ => h.2 c cs (room_wide _)⟩
def Iter {α : Type} (P : Program) (gf : Nat) (lb : Array Value) (encs : α → Array Value) (R : Nat → Prop) (xs : List α) (w : World) : Prop :=
  ∀ (l : Nat) (J Jx : (Nat → Prop) → List α → World → Prop) (X : Nat → Prop) (W : World), Keeps R w W → (∀ k, X k → k < W.heap.size) → Ab J → Ab Jx →
    (∀ X pre x W1, J X pre W1 → (∀ k, X k → k < W1.heap.size) → pre ++ [x] <+: xs → YAt P l (encs x) W1 fun e W' =>
      (e = .returned (.bool true) ∧ J X (pre ++ [x]) W' ∧ Keeps (fun k => R k ∨ X k) W1 W') ∨ (e = .returned (.bool false) ∧ Jx X (pre ++ [x]) W' ∧ Keeps (fun k => R k ∨ X k) W1 W')) →
    J X [] W →
    Calls P gf (#[.func (.yield l) #[] #[]] ++ lb) W fun e W' => (∃ v, e = .returned v) ∧
      ((∃ X', (∀ k, X' k → k < W'.heap.size) ∧ (∀ k, X k → X' k) ∧ J X' xs W') ∨ (∃ X' pre, (∀ k, X' k → k < W'.heap.size) ∧ (∀ k, X k → X' k) ∧ pre <+: xs ∧ pre ≠ [] ∧ Jx X' pre W'))
def postX {α : Type} (R : Nat → Prop) (I : (Nat → Prop) → List α → World → Prop) (Ix : Code → (Nat → Prop) → List α → World → Prop) (X : Nat → Prop) (xs : List α) (W : World) : Exit → Act → World → Prop
  | .normal, _, W' => Keeps (fun k => R k ∨ X k) W W' ∧ I X xs W'
  | .ret, _, W' => Keeps (fun k => R k ∨ X k) W W' ∧ Ix .ret X xs W'
  | .exit id, _, W' => Keeps (fun k => R k ∨ X k) W W' ∧ Ix (.exit id) X xs W'
  | .goto t, _, W' => Keeps (fun k => R k ∨ X k) W W' ∧ Ix (.goto t) X xs W'
  | .panic _, _, _ => False
  | .outgrown, _, _ => False
theorem wp_range {α : Type} {P : Program} {g : Operand} {ps : Array Tmp} {assign body : Code} {Q : Exit → Act → World → Prop} {a : Act} {w : World}
    {gf : Nat} {lb : Array Value} (hg : a.eval g = .func (.func gf) #[] lb) (eg : ∀ args w, (callFunc gf args).run P w = .ok (.enter gf args) w)
    {encs : α → Array Value} {R : Nat → Prop} {xs : List α} (hseq : Iter P gf lb encs R xs w) (hR : ∀ k, R k → k < w.heap.size) (hps : ∀ x, (encs x).size = ps.size)
    (I : (Nat → Prop) → List α → World → Prop) (Ix : Code → (Nat → Prop) → List α → World → Prop) (hI : Ab I) (hIx : ∀ c, Ab (Ix c)) (h0 : I (fun _ => False) [] w)
    (Ax : (Nat → Prop) → List α × α × Act → World → Prop) (hAx : Ab Ax)
    (hassign : ∀ (l : Nat) X (pre : List α) (x : α) (W : World) (K : Act → World → Prop), I X pre W → (∀ k, X k → w.heap.size ≤ k ∧ k < W.heap.size) → pre ++ [x] <+: xs → w.heap.size ≤ W.heap.size →
      (∀ a' W', Keeps (fun k => R k ∨ X k) W W' → I X pre W' → Ax X (pre, x, a') W' → K a' W') →
      assign.wpIn (Fence.wide.inRound l) 0 P (Exit.then K (fun _ _ _ => False)) { tmps := (ps.zip (encs x)).foldl (fun t (p, v) => t.setIfInBounds p v) a.tmps, defers := [] } W)
    (hbody : ∀ (l : Nat) X (pre : List α) (x : α) (a' : Act) (W : World), I X pre W → Ax X (pre, x, a') W → (∀ k, X k → w.heap.size ≤ k ∧ k < W.heap.size) → pre ++ [x] <+: xs → w.heap.size ≤ W.heap.size →
      body.wpIn (Fence.wide.inRound l) 0 P (postX R I Ix X (pre ++ [x]) W) a' W)
    (hdone : ∀ X (D : Nat) (W : World), w.heap.size ≤ D → X D → (∀ k, X k → w.heap.size ≤ k ∧ k < W.heap.size) → I X xs W → W.heap[D]? = some (.deferred (some [])) →
      Q .normal { a with defers := { target := .collected D, args := #[] } :: a.defers } W)
    (hstop : ∀ X (c : Code) (pre : List α) (D : Nat) (W : World), w.heap.size ≤ D → X D → (∀ k, X k → w.heap.size ≤ k ∧ k < W.heap.size) → pre <+: xs → pre ≠ [] → Ix c X pre W → W.heap[D]? = some (.deferred (some [])) →
      c.wp P Q { a with defers := { target := .collected D, args := #[] } :: a.defers } W) :
    (Code.rangeFunc g ps assign body).wp P Q a w := by
  refine (wpIn_wide (n := 0)).1 (wpIn_rangeFunc ?_)
  intro fn hfn
  show ∃ (l : Nat) (mark : List Deferred) (w₁ : World) (d : Deferred) (w₁' : World) (f : FuncId) (args : Array Value) (w₂ : World), (Instr.enterLoop fn a.tmps ps assign body none).run P w = .ok (l, mark) w₁ ∧ _
  obtain ⟨rec, hrec⟩ : ∃ rec : LoopState → Option Code → Loop, rec = fun st pe => { state := st, pending := pe, fn, tmps := a.tmps, params := ps, assign, body, defers := w.heap.size } := ⟨_, rfl⟩
  obtain ⟨W1, hW1⟩ : ∃ W1, (w.alloc (.deferred (some []))).alloc (.loop (rec .ready none)) = W1 := ⟨_, rfl⟩
  have hs1 : W1.heap.size = w.heap.size + 2 := by rw [← hW1]; simp
  have hL1 : W1.heap[w.heap.size + 1]? = some (.loop (rec .ready none)) := by
    rw [← hW1]; have := World.alloc_heap_new (w.alloc (.deferred (some []))) (.loop (rec .ready none)); rwa [World.size_alloc] at this
  have hK1 : W1.heap[w.heap.size]? = some (.deferred (some [])) := by
    rw [← hW1]; exact (Below.heap_alloc _ _ _ (by simp)).trans (World.alloc_heap_new w _)
  have hk1 : ∀ S, Kept S w W1 := fun S => by rw [← hW1]; exact ((Kept.refl S w).alloc _).alloc _
  obtain ⟨O, hO⟩ : ∃ O : Nat → Prop, O = fun k => k = w.heap.size ∨ k = w.heap.size + 1 := ⟨_, rfl⟩
  have hI1 : I O [] W1 := hI _ _ _ _ _ h0 (hk1 _) (fun k hk => .inr (by rw [hO] at hk; omega))
  refine ⟨w.heap.size + 1, [{ target := .collected w.heap.size, args := #[] }], W1, { target := .fn (.func gf) lb, args := #[.func (.yield (w.heap.size + 1)) #[] #[]] }, W1, gf,
    #[.func (.yield (w.heap.size + 1)) #[] #[]] ++ lb, W1, ?_, ?_, fun _ _ => trivial, ?_, (fun h => by cases h), ?_⟩
  · rw [← hW1, hrec]; exact run_enterLoop_outer _ _ _ _ _
  · simp only [resolve, hg]
    simp [go_sem]
  · simp [invoke, go_sem, eg]
  · obtain ⟨M, hM⟩ : ∃ M : (Nat → Prop) → Nat → Prop, M = fun X k => X k ∨ O k := ⟨_, rfl⟩
    have mono : ∀ {X X' : Nat → Prop} {A A' : World}, w.heap.size + 1 < A.heap.size → (∀ k, X' k → X k ∨ (A.heap.size ≤ k ∧ k < A'.heap.size)) → (∀ k, M X' k → M X k ∨ (A.heap.size ≤ k ∧ k < A'.heap.size)) := fun {X X' A A'} _ hX k hk => by
      rw [hM] at hk ⊢
      rcases hk with h | h
      · rcases hX k h with h | h
        · exact .inl (.inl h)
        · exact .inr h
      · exact .inl (.inr h)
    refine (callsIn_wide (n := 0 - 1)).2 ((hseq (w.heap.size + 1)
      (fun X pre W => I (M X) pre W ∧ (∀ k, X k → w.heap.size + 2 ≤ k) ∧ W.heap[w.heap.size + 1]? = some (.loop (rec .ready none)) ∧ W.heap[w.heap.size]? = some (.deferred (some [])))
      (fun X pre W => ∃ c, Ix c (M X) pre W ∧ (∀ k, X k → w.heap.size + 2 ≤ k) ∧ W.heap[w.heap.size + 1]? = some (.loop (rec .done (some c))) ∧ W.heap[w.heap.size]? = some (.deferred (some [])))
      (fun _ => False) W1 ((hk1 (fun _ => False)).keeps (fun _ _ _ h => h)) (fun _ h => h.elim) ?_ ?_ ?_ ?_).mono ?_)
    · rintro X X' s A A' ⟨i, hX, hl, hd⟩ hk hX'
      have hlt := (Array.getElem?_eq_some_iff.1 hl).1
      exact ⟨hI _ _ _ _ _ i (hk.mono (fun k _ h => by rw [hM]; exact .inl h)) (mono hlt hX'), fun k h => by rcases hX' k h with h | h; exact hX k h; omega,
        hk.heap hl (fun h => by have := hX _ h; omega), hk.heap hd (fun h => by have := hX _ h; omega)⟩
    · rintro X X' s A A' ⟨c, i, hX, hl, hd⟩ hk hX'
      have hlt := (Array.getElem?_eq_some_iff.1 hl).1
      exact ⟨c, hIx c _ _ _ _ _ i (hk.mono (fun k _ h => by rw [hM]; exact .inl h)) (mono hlt hX'), fun k h => by rcases hX' k h with h | h; exact hX k h; omega,
        hk.heap hl (fun h => by have := hX _ h; omega), hk.heap hd (fun h => by have := hX _ h; omega)⟩
    · rintro X pre x W ⟨hi, hX, hl, hd⟩ hXW hpx
      have hlt : w.heap.size + 1 < W.heap.size := (Array.getElem?_eq_some_iff.1 hl).1
      have hMb : ∀ V : World, W.heap.size ≤ V.heap.size → ∀ k, M X k → w.heap.size ≤ k ∧ k < V.heap.size := fun V hV k hk => by
        rw [hM, hO] at hk
        rcases hk with h | h | h
        · have := hX k h; have := hXW k h; omega
        · omega
        · omega
      have hMO : ∀ k, O k → M X k := fun k h => by rw [hM]; exact .inr h
      have hOD : O w.heap.size := by rw [hO]; exact .inl rfl
      have hOL : O (w.heap.size + 1) := by rw [hO]; exact .inr rfl
      have hy := run_yield (P := P) (args := encs x) hl (by rw [hrec]; exact hps x)
      rw [hrec] at hy
      refine ⟨fn, _, assign, body, hy, roundIn_of_wpIn hfn (hassign _ (M X) pre x W _ hi (hMb W (Nat.le_refl _)) hpx (by omega) ?_)⟩
      clear hy
      intro a' Wa hka hia hax
      have hla := hka.heap hl (.inr (hMO _ hOL))
      have hda := hka.heap hd (.inr (hMO _ hOD))
      refine ⟨_, run_beginRound hla (by rw [hrec]), ?_⟩
      have hlta : w.heap.size + 1 < Wa.heap.size := (Array.getElem?_eq_some_iff.1 hla).1
      obtain ⟨Wb, hWb⟩ : ∃ Wb, Wa.putObj (w.heap.size + 1) (.loop { rec .ready none with state := .busy }) = Wb := ⟨_, rfl⟩
      rw [hWb]
      have hlb : Wb.heap[w.heap.size + 1]? = some (.loop { rec .ready none with state := .busy }) := by rw [← hWb]; exact World.putObj_heap_same hlta
      have hdb : Wb.heap[w.heap.size]? = some (.deferred (some [])) := by rw [← hWb]; exact (World.putObj_heap_other (by omega)).trans hda
      have hkb : Kept O Wa Wb := by rw [← hWb]; exact kept_putObj (Kept.refl _ _) (fun _ => hOL) hlta _
      have hsb : Wb.heap.size = Wa.heap.size := by rw [← hWb]; simp [World.putObj]
      have hib : I (M X) pre Wb := hI _ _ _ _ _ hia (hkb.mono (fun k _ h => hMO k h)) (fun k h => .inl h)
      have hab : Ax (M X) (pre, x, a') Wb := hAx _ _ _ _ _ hax (hkb.mono (fun k _ h => hMO k h)) (fun k h => .inl h)
      refine wpIn_mono (hbody _ (M X) pre x a' Wb hib hab (hMb Wb (by rw [hsb]; exact hka.1)) hpx (by rw [hsb]; omega)) ?_
      have hKab : Keeps (fun k => R k ∨ X k) W Wb := by
        refine (hka.mono (fun k h => h.imp id (fun h => by rw [hM]; exact .inl h))).trans (hkb.keeps (fun k hk h ho => ?_))
        rw [hO] at ho
        rcases h with h | h
        · have := hR k h; omega
        · have := hX k h; omega
      have fin : ∀ (jump : Option Code) (W3 : World), Keeps (fun k => R k ∨ M X k) Wb W3 →
          (Instr.endRound (w.heap.size + 1) jump).run P W3 = .ok (.bool jump.isNone) (W3.putObj (w.heap.size + 1) (.loop (rec (if jump.isNone then .ready else .done) jump))) ∧
          (W3.putObj (w.heap.size + 1) (.loop (rec (if jump.isNone then .ready else .done) jump))).heap[w.heap.size + 1]? = some (.loop (rec (if jump.isNone then .ready else .done) jump)) ∧
          (W3.putObj (w.heap.size + 1) (.loop (rec (if jump.isNone then .ready else .done) jump))).heap[w.heap.size]? = some (.deferred (some [])) ∧
          Kept O W3 (W3.putObj (w.heap.size + 1) (.loop (rec (if jump.isNone then .ready else .done) jump))) ∧
          Keeps (fun k => R k ∨ X k) W (W3.putObj (w.heap.size + 1) (.loop (rec (if jump.isNone then .ready else .done) jump))) := fun jump W3 hk3 => by
        have hl3 := hk3.heap hlb (.inr (hMO _ hOL))
        have hd3 := hk3.heap hdb (.inr (hMO _ hOD))
        have hlt3 := (Array.getElem?_eq_some_iff.1 hl3).1
        have := run_endRound (P := P) jump hl3
        have hkp : Kept O W3 (W3.putObj (w.heap.size + 1) (.loop (rec (if jump.isNone then .ready else .done) jump))) := kept_putObj (Kept.refl _ _) (fun _ => hOL) hlt3 _
        refine ⟨by rw [hrec] at this ⊢; exact this, World.putObj_heap_same hlt3, (World.putObj_heap_other (by omega)).trans hd3, hkp, ?_⟩
        refine hKab.trans ((hk3.mono (fun k h => h.imp id (fun h => by rw [hM]; exact .inl h))).trans (hkp.keeps (fun k hk h ho => ?_)))
        rw [hO] at ho
        rcases h with h | h
        · have := hR k h; omega
        · have := hX k h; omega
      rintro e a3 W3 hp
      cases e with
      | normal =>
        obtain ⟨hk3, hi3⟩ := hp
        obtain ⟨hr, hl4, hd4, hk4, hKs⟩ := fin none W3 hk3
        exact ⟨_, _, hr, .inl ⟨rfl, ⟨hI _ _ _ _ _ hi3 (hk4.mono (fun k _ h => hMO k h)) (fun k h => .inl h), hX, hl4, hd4⟩, hKs⟩⟩
      | ret =>
        obtain ⟨hk3, hi3⟩ := hp
        obtain ⟨hr, hl4, hd4, hk4, hKs⟩ := fin (some .ret) W3 hk3
        exact ⟨_, _, hr, .inr ⟨rfl, ⟨.ret, hIx _ _ _ _ _ _ hi3 (hk4.mono (fun k _ h => hMO k h)) (fun k h => .inl h), hX, hl4, hd4⟩, hKs⟩⟩
      | exit id =>
        obtain ⟨hk3, hi3⟩ := hp
        obtain ⟨hr, hl4, hd4, hk4, hKs⟩ := fin (some (.exit id)) W3 hk3
        exact ⟨_, _, hr, .inr ⟨rfl, ⟨.exit id, hIx _ _ _ _ _ _ hi3 (hk4.mono (fun k _ h => hMO k h)) (fun k h => .inl h), hX, hl4, hd4⟩, hKs⟩⟩
      | goto t =>
        obtain ⟨hk3, hi3⟩ := hp
        obtain ⟨hr, hl4, hd4, hk4, hKs⟩ := fin (some (.goto t)) W3 hk3
        exact ⟨_, _, hr, .inr ⟨rfl, ⟨.goto t, hIx _ _ _ _ _ _ hi3 (hk4.mono (fun k _ h => hMO k h)) (fun k h => .inl h), hX, hl4, hd4⟩, hKs⟩⟩
      | panic ch => exact hp.elim
      | outgrown => exact hp.elim
    · refine ⟨?_, fun _ h => h.elim, hL1, hK1⟩
      exact hI _ _ _ _ _ hI1 (Kept.refl _ _) (fun k h => .inl (by rw [hM] at h; exact h.elim (fun h => h.elim) id))
    · have hb : ∀ {X : Nat → Prop} {W2 : World}, (∀ k, X k → k < W2.heap.size) → (∀ k, X k → w.heap.size + 2 ≤ k) → w.heap.size + 1 < W2.heap.size → ∀ (o : Obj) k, M X k → w.heap.size ≤ k ∧ k < (W2.putObj (w.heap.size + 1) o).heap.size := fun {X W2} h1 h2 h3 o k hk => by
        have hs : (W2.putObj (w.heap.size + 1) o).heap.size = W2.heap.size := by simp [World.putObj]
        rw [hs]
        rw [hM, hO] at hk
        rcases hk with h | h | h
        · have := h1 k h; have := h2 k h; omega
        · omega
        · omega
      have hMD : ∀ X, M X w.heap.size := fun X => by rw [hM, hO]; exact .inr (.inl rfl)
      have hML : ∀ X, M X (w.heap.size + 1) := fun X => by rw [hM, hO]; exact .inr (.inr rfl)
      rintro e W2 ⟨⟨v, rfl⟩, (⟨X, hXW, _, hi, hX, hl, hd⟩ | ⟨X, pre, hXW, _, hp, hne, c, hi, hX, hl, hd⟩)⟩
      · have hlt := (Array.getElem?_eq_some_iff.1 hl).1
        refine ⟨none, _, by have := run_endLoop (P := P) hl (by rw [hrec]; simp); rw [hrec] at this; exact this, ?_⟩
        exact hdone (M X) w.heap.size _ (Nat.le_refl _) (hMD X) (hb hXW hX hlt _) (hI _ _ _ _ _ hi (kept_putObj (Kept.refl _ _) (fun _ => hML X) hlt _) (fun k h => .inl h)) ((World.putObj_heap_other (by omega)).trans hd)
      · have hlt := (Array.getElem?_eq_some_iff.1 hl).1
        refine ⟨some c, _, by have := run_endLoop (P := P) hl (by rw [hrec]; simp); rw [hrec] at this; exact this, ?_⟩
        exact (wpIn_wide (n := 0)).2 (hstop (M X) c pre w.heap.size _ (Nat.le_refl _) (hMD X) (hb hXW hX hlt _) hp hne (hIx c _ _ _ _ _ hi (kept_putObj (Kept.refl _ _) (fun _ => hML X) hlt _) (fun k h => .inl h)) ((World.putObj_heap_other (by omega)).trans hd))
theorem calls_of_wp_marks {P : Program} {f : FuncId} {fn : Func} {c : Code} {args : Array Value} {w : World} {R : Ending → World → Prop} (hf : P.funcs[f]? = some fn) (hb : fn.body = some c)
    (h : c.wp P (bodyPostM Fence.wide 0 P fn R) { tmps := args ++ Array.replicate (fn.ntmps - args.size) undef, defers := [] } w) : Calls P f args w R :=
  (callsIn_wide (n := 0)).1 (callsIn_of_wp_marks hf hb trivial ((wpIn_wide (n := 0)).2 h))
theorem leaves_marks {P : Program} {fn : Func} {tmps : Array Value} {R : Ending → World → Prop} : ∀ (rs : List Nat) (W : World), rs.Nodup → (∀ r ∈ rs, W.heap[r]? = some (.deferred (some []))) →
    (∀ W', Kept (fun k => k ∈ rs) W W' → ∃ v, (results fn tmps).run P W' = .ok v W' ∧ R (.returned v) W') →
    LeavesInM Fence.wide 0 P fn tmps R (rs.map fun r => { target := .collected r, args := #[] }) .returning W
  | [], W, _, _, h => by
    obtain ⟨v, h1, h2⟩ := h W (Kept.refl _ _)
    exact ⟨v, h1, h2⟩
  | r :: rs, W, hn, hh, h => by
    have hr := hh r List.mem_cons_self
    have hlt := (Array.getElem?_eq_some_iff.1 hr).1
    refine ⟨by simp, .inl ⟨r, _, rfl, run_takeDeferred hr, ?_⟩⟩
    have hn' := List.nodup_cons.1 hn
    refine leaves_marks rs _ hn'.2 (fun q hq => (World.putObj_heap_other (fun e => hn'.1 (by rw [← e]; exact hq))).trans (hh q (List.mem_cons_of_mem _ hq))) (fun W' hk => h W' ?_)
    have h1 : Kept (fun k => k ∈ r :: rs) W (W.putObj r (.deferred none)) := kept_putObj (Kept.refl _ _) (fun _ => List.mem_cons_self) hlt _
    exact h1.trans hk (fun i _ hi => List.mem_cons_of_mem _ hi)
structure Own1 (w : World) (lo : Nat) (X : Nat → Prop) (V : World) : Prop where
  k : Kept (fun _ => False) w V
  x : ∀ k, X k → lo ≤ k
  le : w.heap.size ≤ lo
  lt : lo ≤ V.heap.size
theorem Own1.ab {w A A' : World} {lo : Nat} {X X' : Nat → Prop} (h : Own1 w lo X A) (hk : Kept X A A') (hx : ∀ k, X' k → X k ∨ (A.heap.size ≤ k ∧ k < A'.heap.size)) : Own1 w lo X' A' :=
  ⟨h.k.trans hk (fun i hi hX => by have := h.x i hX; have := h.le; omega), fun i hi => by
    rcases hx i hi with h' | h'
    · exact h.x i h'
    · have := h.lt; omega, h.le, Nat.le_trans h.lt hk.size⟩
theorem Own1.heap {w A A' : World} {lo : Nat} {X : Nat → Prop} (h : Own1 w lo X A) (hk : Kept X A A') {i : Nat} {o : Obj} (hi : A.heap[i]? = some o) (hl : i < lo) : A'.heap[i]? = some o :=
  hk.heap hi (fun hX => by have := h.x i hX; omega)
theorem Own1.step {w A A' : World} {lo : Nat} {X S : Nat → Prop} (h : Own1 w lo X A) (hk : Kept S A A') (hS : ∀ i, S i → w.heap.size ≤ i) : Own1 w lo X A' :=
  ⟨h.k.trans hk (fun i hi hX => by have := hS i hX; omega), h.x, h.le, Nat.le_trans h.lt hk.size⟩
theorem run_equalIn_func {P : Program} (w : World) (d : Nat) (t : TypeId) {a b : Array TypeId} {c : Bool} (f : Fn) (pre lb : Array Value) (h : P.underlying t = some (.func a b c)) : (Op.equalIn (d + 1) t (.func f pre lb) .nilFunc).run P w = .ok false w := by
  simp [Op.equalIn, run_underlying h]
theorem run_func_nil {P : Program} (w : World) (t : TypeId) {a b : Array TypeId} {c : Bool} (f : Fn) (pre lb : Array Value) (h : P.underlying t = some (.func a b c)) : (binOp .eql t (.func f pre lb) .nilFunc).run P w = .ok (.bool false) w := by
  have he : (Op.equal t (.func f pre lb) .nilFunc).run P w = .ok false w := by
    exact run_equalIn_func w 9999 t f pre lb h
  simp [binOp, go_sem, he]
theorem wpListIn_app {F : Fence} {nn : Nat} {P : Program} {w : World} {ops : Array Oper} {rest : List Oper} {o : Oper} {a : Act} {Q : Exit → Act → World → Prop} (hw : Region.wanted o (yielded ops a.tmps) = true) (s x : Operand) (t : TypeId)
    (ho : o.op = .call { callee := .builtin .append, args := #[s, x], argTypes := #[t, t] })
    {e : TypeId} {size bytes : Nat} (E : ElemT P t e size bytes) (v : Value) (n : Nat) (xs : List Value) (hs : a.eval s = v) (hown : w.ownsRow 0 e size v n xs)
    (y : Value) (m : Nat) (news : List Value) (hx : a.eval x = y) (hr : Rd w size y m news) (h1 : ∀ u ∈ news, u.oneCell' = true)
    (h63 : n + m ≤ maxLen) (hbytes : (n + m) * bytes ≤ 140737488355328)
    (h : ∀ ad cap w', w'.ownsRow 0 e size (.slice ad (n + m) cap) (n + m) (xs ++ news) → w.grownBy w' v.ownBlock → Fresh w v (.slice ad (n + m) cap) → wpListIn F nn P ops Q rest (a.put o.dst (.slice ad (n + m) cap)) w') : wpListIn F nn P ops Q (o :: rest) a w := by
  refine wpListIn_step fun K hK => ?_
  rw [if_pos hw]
  obtain ⟨v', w', hrun, h2, h3, h4⟩ := run_app (P := P) w E o.type v n xs hown y m news hr h1 h63 hbytes
  obtain ⟨ad, cap, rfl⟩ : ∃ ad cap, v' = .slice ad (n + m) cap := by
    rcases h2.2 with ⟨hv, hn⟩ | ⟨g, cap, _, hv, _⟩
    · exact ⟨none, 0, by rw [hv, hn]⟩
    · exact ⟨_, _, hv⟩
  unfold Oper.wpIn
  refine ⟨?_, ?_⟩
  · simp [Oper.about, ho, resolve, Target.leads, Sem.run_pure]
  · rw [Oper.semAt_plain F _ _ (by rw [ho]; intro c hc'; cases hc')]
    simp [execOp, ho, resolve, invoke, builtin, hs, hx, hrun, Result.andThen]
    exact hK _ _ (h _ _ w' h2 h3 h4)
end Go.Lw
