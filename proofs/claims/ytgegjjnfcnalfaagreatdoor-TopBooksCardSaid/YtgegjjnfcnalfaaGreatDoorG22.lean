/- Of the proof of TopBooks: IterP, StG. -/
import Derived.Test.YtgegjjnfcnalfaaGreatDoorG08
import Derived.Test.YtgegjjnfcnalfaaGreatDoorG21
namespace Go.Lw
open Go Go.RowKit
def IterP {α : Type} (P : Program) (gf : Nat) (pr lb : Array Value) (encs : α → Array Value) (R : Nat → Prop) (xs : List α) (w : World) : Prop :=
  ∀ (l : Nat) (J Jx : (Nat → Prop) → List α → World → Prop) (X : Nat → Prop) (W : World), Keeps R w W → (∀ k, X k → k < W.heap.size) → Ab J → Ab Jx →
    (∀ X pre x W1, J X pre W1 → (∀ k, X k → k < W1.heap.size) → pre ++ [x] <+: xs → YAt P l (encs x) W1 fun e W' =>
      (e = .returned (.bool true) ∧ J X (pre ++ [x]) W' ∧ Keeps (fun k => R k ∨ X k) W1 W') ∨ (e = .returned (.bool false) ∧ Jx X (pre ++ [x]) W' ∧ Keeps (fun k => R k ∨ X k) W1 W')) →
    J X [] W →
    Calls P gf (pr ++ #[.func (.yield l) #[] #[]] ++ lb) W fun e W' => (∃ v, e = .returned v) ∧
      ((∃ X', (∀ k, X' k → k < W'.heap.size) ∧ (∀ k, X k → X' k) ∧ J X' xs W') ∨ (∃ X' pre, (∀ k, X' k → k < W'.heap.size) ∧ (∀ k, X k → X' k) ∧ pre <+: xs ∧ pre ≠ [] ∧ Jx X' pre W'))
theorem wp_rangeP {α : Type} {P : Program} {g : Operand} {ps : Array Tmp} {assign body : Code} {Q : Exit → Act → World → Prop} {a : Act} {w : World}
    {gf : Nat} {pr lb : Array Value} (hg : a.eval g = .func (.func gf) pr lb) (eg : ∀ args w, (callFunc gf args).run P w = .ok (.enter gf args) w)
    {encs : α → Array Value} {R : Nat → Prop} {xs : List α} (hseq : IterP P gf pr lb encs R xs w) (hR : ∀ k, R k → k < w.heap.size) (hps : ∀ x, (encs x).size = ps.size)
    (I : (Nat → Prop) → List α → World → Prop) (Ix : Code → (Nat → Prop) → List α → World → Prop) (hI : Ab I) (hIx : ∀ c, Ab (Ix c)) (h0 : I (fun _ => False) [] w)
    (Ax : (Nat → Prop) → List α × α × Act → World → Prop) (hAx : Ab Ax)
    (hassign : ∀ (l : Nat) X (pre : List α) (x : α) (W : World) (K : Act → World → Prop), I X pre W → (∀ k, X k → w.heap.size ≤ k ∧ k < W.heap.size) → pre ++ [x] <+: xs → w.heap.size ≤ W.heap.size →
      (∀ a' W', Keeps (fun k => R k ∨ X k) W W' → I X pre W' → Ax X (pre, x, a') W' → K a' W') →
      assign.wpIn (Fence.wide.inRound l) 0 P (Exit.then K (fun _ _ _ => False)) { tmps := (ps.zip (encs x)).foldl (fun t (p, v) => t.setIfInBounds p v) a.tmps, defers := [] } W)
    (hbody : ∀ (l : Nat) X (pre : List α) (x : α) (a' : Act) (W : World), I X pre W → Ax X (pre, x, a') W → (∀ k, X k → w.heap.size ≤ k ∧ k < W.heap.size) → pre ++ [x] <+: xs → w.heap.size ≤ W.heap.size →
      body.wpIn (Fence.wide.inRound l) 0 P (postX R I Ix X (pre ++ [x]) W) a' W)
    (hdone : ∀ X (D : Nat) (W : World), w.heap.size ≤ D → X D → (∀ k, X k → w.heap.size ≤ k ∧ k < W.heap.size) → I X xs W → W.heap[D]? = some (.deferred (some [])) →
      Q .normal { a with defers := { target := .collected D, args := #[] } :: a.defers } W)
    (hstop : ∀ X (c : Code) (pre : List α) (D : Nat) (W : World), w.heap.size ≤ D → X D → (∀ k, X k → w.heap.size ≤ k ∧ k < W.heap.size) → pre <+: xs → pre ≠ [] → Ix c X pre W → W.heap[D]? = some (.deferred (some [])) →
      c.wp P Q { a with defers := { target := .collected D, args := #[] } :: a.defers } W) :
    (Code.rangeFunc g ps assign body).wp P Q a w := by
  refine (wpIn_wide (n := 0)).1 (wpIn_rangeFunc ?_)
  intro fn hfn
  show ∃ (l : Nat) (mark : List Deferred) (w₁ : World) (d : Deferred) (w₁' : World) (f : FuncId) (args : Array Value) (w₂ : World), (Instr.enterLoop fn a.tmps ps assign body none).run P w = .ok (l, mark) w₁ ∧ _
  obtain ⟨rec, hrec⟩ : ∃ rec : LoopState → Option Code → Loop, rec = fun st pe => { state := st, pending := pe, fn, tmps := a.tmps, params := ps, assign, body, defers := w.heap.size } := ⟨_, rfl⟩
  obtain ⟨W1, hW1⟩ : ∃ W1, (w.alloc (.deferred (some []))).alloc (.loop (rec .ready none)) = W1 := ⟨_, rfl⟩
  have hs1 : W1.heap.size = w.heap.size + 2 := by rw [← hW1]; simp
  have hL1 : W1.heap[w.heap.size + 1]? = some (.loop (rec .ready none)) := by
    rw [← hW1]; have := World.alloc_heap_new (w.alloc (.deferred (some []))) (.loop (rec .ready none)); rwa [World.size_alloc] at this
  have hK1 : W1.heap[w.heap.size]? = some (.deferred (some [])) := by
    rw [← hW1]; exact (Below.heap_alloc _ _ _ (by simp)).trans (World.alloc_heap_new w _)
  have hk1 : ∀ S, Kept S w W1 := fun S => by rw [← hW1]; exact ((Kept.refl S w).alloc _).alloc _
  obtain ⟨O, hO⟩ : ∃ O : Nat → Prop, O = fun k => k = w.heap.size ∨ k = w.heap.size + 1 := ⟨_, rfl⟩
  have hI1 : I O [] W1 := hI _ _ _ _ _ h0 (hk1 _) (fun k hk => .inr (by rw [hO] at hk; omega))
  refine ⟨w.heap.size + 1, [{ target := .collected w.heap.size, args := #[] }], W1, { target := .fn (.func gf) lb, args := pr ++ #[.func (.yield (w.heap.size + 1)) #[] #[]] }, W1, gf,
    pr ++ #[.func (.yield (w.heap.size + 1)) #[] #[]] ++ lb, W1, ?_, ?_, fun _ _ => trivial, ?_, (fun h => by cases h), ?_⟩
  · rw [← hW1, hrec]; exact run_enterLoop_outer _ _ _ _ _
  · simp only [resolve, hg]
    simp [go_sem]
  · simp [invoke, go_sem, eg]
  · obtain ⟨M, hM⟩ : ∃ M : (Nat → Prop) → Nat → Prop, M = fun X k => X k ∨ O k := ⟨_, rfl⟩
    have mono : ∀ {X X' : Nat → Prop} {A A' : World}, w.heap.size + 1 < A.heap.size → (∀ k, X' k → X k ∨ (A.heap.size ≤ k ∧ k < A'.heap.size)) → (∀ k, M X' k → M X k ∨ (A.heap.size ≤ k ∧ k < A'.heap.size)) := fun {X X' A A'} _ hX k hk => by
      rw [hM] at hk ⊢
      rcases hk with h | h
      · rcases hX k h with h | h
        · exact .inl (.inl h)
        · exact .inr h
      · exact .inl (.inr h)
    refine (callsIn_wide (n := 0 - 1)).2 ((hseq (w.heap.size + 1)
      (fun X pre W => I (M X) pre W ∧ (∀ k, X k → w.heap.size + 2 ≤ k) ∧ W.heap[w.heap.size + 1]? = some (.loop (rec .ready none)) ∧ W.heap[w.heap.size]? = some (.deferred (some [])))
      (fun X pre W => ∃ c, Ix c (M X) pre W ∧ (∀ k, X k → w.heap.size + 2 ≤ k) ∧ W.heap[w.heap.size + 1]? = some (.loop (rec .done (some c))) ∧ W.heap[w.heap.size]? = some (.deferred (some [])))
      (fun _ => False) W1 ((hk1 (fun _ => False)).keeps (fun _ _ _ h => h)) (fun _ h => h.elim) ?_ ?_ ?_ ?_).mono ?_)
    · rintro X X' s A A' ⟨i, hX, hl, hd⟩ hk hX'
      have hlt := (Array.getElem?_eq_some_iff.1 hl).1
      exact ⟨hI _ _ _ _ _ i (hk.mono (fun k _ h => by rw [hM]; exact .inl h)) (mono hlt hX'), fun k h => by rcases hX' k h with h | h; exact hX k h; omega,
        hk.heap hl (fun h => by have := hX _ h; omega), hk.heap hd (fun h => by have := hX _ h; omega)⟩
    · rintro X X' s A A' ⟨c, i, hX, hl, hd⟩ hk hX'
      have hlt := (Array.getElem?_eq_some_iff.1 hl).1
      exact ⟨c, hIx c _ _ _ _ _ i (hk.mono (fun k _ h => by rw [hM]; exact .inl h)) (mono hlt hX'), fun k h => by rcases hX' k h with h | h; exact hX k h; omega,
        hk.heap hl (fun h => by have := hX _ h; omega), hk.heap hd (fun h => by have := hX _ h; omega)⟩
    · rintro X pre x W ⟨hi, hX, hl, hd⟩ hXW hpx
      have hlt : w.heap.size + 1 < W.heap.size := (Array.getElem?_eq_some_iff.1 hl).1
      have hMb : ∀ V : World, W.heap.size ≤ V.heap.size → ∀ k, M X k → w.heap.size ≤ k ∧ k < V.heap.size := fun V hV k hk => by
        rw [hM, hO] at hk
        rcases hk with h | h | h
        · have := hX k h; have := hXW k h; omega
        · omega
        · omega
      have hMO : ∀ k, O k → M X k := fun k h => by rw [hM]; exact .inr h
      have hOD : O w.heap.size := by rw [hO]; exact .inl rfl
      have hOL : O (w.heap.size + 1) := by rw [hO]; exact .inr rfl
      have hy := run_yield (P := P) (args := encs x) hl (by rw [hrec]; exact hps x)
      rw [hrec] at hy
      refine ⟨fn, _, assign, body, hy, roundIn_of_wpIn hfn (hassign _ (M X) pre x W _ hi (hMb W (Nat.le_refl _)) hpx (by omega) ?_)⟩
      clear hy
      intro a' Wa hka hia hax
      have hla := hka.heap hl (.inr (hMO _ hOL))
      have hda := hka.heap hd (.inr (hMO _ hOD))
      refine ⟨_, run_beginRound hla (by rw [hrec]), ?_⟩
      have hlta : w.heap.size + 1 < Wa.heap.size := (Array.getElem?_eq_some_iff.1 hla).1
      obtain ⟨Wb, hWb⟩ : ∃ Wb, Wa.putObj (w.heap.size + 1) (.loop { rec .ready none with state := .busy }) = Wb := ⟨_, rfl⟩
      rw [hWb]
      have hlb : Wb.heap[w.heap.size + 1]? = some (.loop { rec .ready none with state := .busy }) := by rw [← hWb]; exact World.putObj_heap_same hlta
      have hdb : Wb.heap[w.heap.size]? = some (.deferred (some [])) := by rw [← hWb]; exact (World.putObj_heap_other (by omega)).trans hda
      have hkb : Kept O Wa Wb := by rw [← hWb]; exact kept_putObj (Kept.refl _ _) (fun _ => hOL) hlta _
      have hsb : Wb.heap.size = Wa.heap.size := by rw [← hWb]; simp [World.putObj]
      have hib : I (M X) pre Wb := hI _ _ _ _ _ hia (hkb.mono (fun k _ h => hMO k h)) (fun k h => .inl h)
      have hab : Ax (M X) (pre, x, a') Wb := hAx _ _ _ _ _ hax (hkb.mono (fun k _ h => hMO k h)) (fun k h => .inl h)
      refine wpIn_mono (hbody _ (M X) pre x a' Wb hib hab (hMb Wb (by rw [hsb]; exact hka.1)) hpx (by rw [hsb]; omega)) ?_
      have hKab : Keeps (fun k => R k ∨ X k) W Wb := by
        refine (hka.mono (fun k h => h.imp id (fun h => by rw [hM]; exact .inl h))).trans (hkb.keeps (fun k hk h ho => ?_))
        rw [hO] at ho
        rcases h with h | h
        · have := hR k h; omega
        · have := hX k h; omega
      have fin : ∀ (jump : Option Code) (W3 : World), Keeps (fun k => R k ∨ M X k) Wb W3 →
          (Instr.endRound (w.heap.size + 1) jump).run P W3 = .ok (.bool jump.isNone) (W3.putObj (w.heap.size + 1) (.loop (rec (if jump.isNone then .ready else .done) jump))) ∧
          (W3.putObj (w.heap.size + 1) (.loop (rec (if jump.isNone then .ready else .done) jump))).heap[w.heap.size + 1]? = some (.loop (rec (if jump.isNone then .ready else .done) jump)) ∧
          (W3.putObj (w.heap.size + 1) (.loop (rec (if jump.isNone then .ready else .done) jump))).heap[w.heap.size]? = some (.deferred (some [])) ∧
          Kept O W3 (W3.putObj (w.heap.size + 1) (.loop (rec (if jump.isNone then .ready else .done) jump))) ∧
          Keeps (fun k => R k ∨ X k) W (W3.putObj (w.heap.size + 1) (.loop (rec (if jump.isNone then .ready else .done) jump))) := fun jump W3 hk3 => by
        have hl3 := hk3.heap hlb (.inr (hMO _ hOL))
        have hd3 := hk3.heap hdb (.inr (hMO _ hOD))
        have hlt3 := (Array.getElem?_eq_some_iff.1 hl3).1
        have := run_endRound (P := P) jump hl3
        have hkp : Kept O W3 (W3.putObj (w.heap.size + 1) (.loop (rec (if jump.isNone then .ready else .done) jump))) := kept_putObj (Kept.refl _ _) (fun _ => hOL) hlt3 _
        refine ⟨by rw [hrec] at this ⊢; exact this, World.putObj_heap_same hlt3, (World.putObj_heap_other (by omega)).trans hd3, hkp, ?_⟩
        refine hKab.trans ((hk3.mono (fun k h => h.imp id (fun h => by rw [hM]; exact .inl h))).trans (hkp.keeps (fun k hk h ho => ?_)))
        rw [hO] at ho
        rcases h with h | h
        · have := hR k h; omega
        · have := hX k h; omega
      rintro e a3 W3 hp
      cases e with
      | normal =>
        obtain ⟨hk3, hi3⟩ := hp
        obtain ⟨hr, hl4, hd4, hk4, hKs⟩ := fin none W3 hk3
        exact ⟨_, _, hr, .inl ⟨rfl, ⟨hI _ _ _ _ _ hi3 (hk4.mono (fun k _ h => hMO k h)) (fun k h => .inl h), hX, hl4, hd4⟩, hKs⟩⟩
      | ret =>
        obtain ⟨hk3, hi3⟩ := hp
        obtain ⟨hr, hl4, hd4, hk4, hKs⟩ := fin (some .ret) W3 hk3
        exact ⟨_, _, hr, .inr ⟨rfl, ⟨.ret, hIx _ _ _ _ _ _ hi3 (hk4.mono (fun k _ h => hMO k h)) (fun k h => .inl h), hX, hl4, hd4⟩, hKs⟩⟩
      | exit id =>
        obtain ⟨hk3, hi3⟩ := hp
        obtain ⟨hr, hl4, hd4, hk4, hKs⟩ := fin (some (.exit id)) W3 hk3
        exact ⟨_, _, hr, .inr ⟨rfl, ⟨.exit id, hIx _ _ _ _ _ _ hi3 (hk4.mono (fun k _ h => hMO k h)) (fun k h => .inl h), hX, hl4, hd4⟩, hKs⟩⟩
      | goto t =>
        obtain ⟨hk3, hi3⟩ := hp
        obtain ⟨hr, hl4, hd4, hk4, hKs⟩ := fin (some (.goto t)) W3 hk3
        exact ⟨_, _, hr, .inr ⟨rfl, ⟨.goto t, hIx _ _ _ _ _ _ hi3 (hk4.mono (fun k _ h => hMO k h)) (fun k h => .inl h), hX, hl4, hd4⟩, hKs⟩⟩
      | panic ch => exact hp.elim
      | outgrown => exact hp.elim
    · refine ⟨?_, fun _ h => h.elim, hL1, hK1⟩
      exact hI _ _ _ _ _ hI1 (Kept.refl _ _) (fun k h => .inl (by rw [hM] at h; exact h.elim (fun h => h.elim) id))
    · have hb : ∀ {X : Nat → Prop} {W2 : World}, (∀ k, X k → k < W2.heap.size) → (∀ k, X k → w.heap.size + 2 ≤ k) → w.heap.size + 1 < W2.heap.size → ∀ (o : Obj) k, M X k → w.heap.size ≤ k ∧ k < (W2.putObj (w.heap.size + 1) o).heap.size := fun {X W2} h1 h2 h3 o k hk => by
        have hs : (W2.putObj (w.heap.size + 1) o).heap.size = W2.heap.size := by simp [World.putObj]
        rw [hs]
        rw [hM, hO] at hk
        rcases hk with h | h | h
        · have := h1 k h; have := h2 k h; omega
        · omega
        · omega
      have hMD : ∀ X, M X w.heap.size := fun X => by rw [hM, hO]; exact .inr (.inl rfl)
      have hML : ∀ X, M X (w.heap.size + 1) := fun X => by rw [hM, hO]; exact .inr (.inr rfl)
      rintro e W2 ⟨⟨v, rfl⟩, (⟨X, hXW, _, hi, hX, hl, hd⟩ | ⟨X, pre, hXW, _, hp, hne, c, hi, hX, hl, hd⟩)⟩
      · have hlt := (Array.getElem?_eq_some_iff.1 hl).1
        refine ⟨none, _, by have := run_endLoop (P := P) hl (by rw [hrec]; simp); rw [hrec] at this; exact this, ?_⟩
        exact hdone (M X) w.heap.size _ (Nat.le_refl _) (hMD X) (hb hXW hX hlt _) (hI _ _ _ _ _ hi (kept_putObj (Kept.refl _ _) (fun _ => hML X) hlt _) (fun k h => .inl h)) ((World.putObj_heap_other (by omega)).trans hd)
      · have hlt := (Array.getElem?_eq_some_iff.1 hl).1
        refine ⟨some c, _, by have := run_endLoop (P := P) hl (by rw [hrec]; simp); rw [hrec] at this; exact this, ?_⟩
        exact (wpIn_wide (n := 0)).2 (hstop (M X) c pre w.heap.size _ (Nat.le_refl _) (hMD X) (hb hXW hX hlt _) hp hne (hIx c _ _ _ _ _ hi (kept_putObj (Kept.refl _ _) (fun _ => hML X) hlt _) (fun k h => .inl h)) ((World.putObj_heap_other (by omega)).trans hd))
end Go.Lw
namespace Go.Proofs.YtgegjjnfcnalfaaGreatDoor
open Go Go.RowKit Go.Lw
set_option maxRecDepth 100000
set_option linter.unusedVariables false
set_option linter.unusedSimpArgs false
theorem has_nil (kl : Lit) : ¬ Maps.has dE kl = true := by simp [Maps.has]
set_option maxHeartbeats 8000000 in
theorem keys1_iter (w : World) (BX m : Nat) (hb : w.heap[BX]? = some (.cells #[.map (some m)] 136 (0, 0))) (hm : MapAt w m dE) :
    Iter Tryz.prog 118 #[.pointer (some ⟨BX, 0, none⟩)] strE (fun k => k = BX ∨ k = m) [] w := by
  intro y J Jx X W hW hX hJ hJx hY h0
  have hb' := hW.heap hb (.inl rfl)
  have hm' : MapAt W m dE := by
    obtain ⟨es, clock, h1, h2, h3, h4⟩ := hm
    exact ⟨es, clock, hW.heap h1 (.inr rfl), h2, h3, h4⟩
  have HB := Lw.hid hb'; have HM := Lw.hid hm'
  have HJ := Lw.hid hJ; have H0 := Lw.hid h0; have HX := Lw.hid hX
  have b0 := heap_cell hb' 0
  clear hY hJ hJx h0 hW hX hb hm hb' hm'
  refine (callsIn_wide (n := 0)).1 (callsIn_of_wp Tryz.func118 rfl trivial ?_)
  simp only [Tryz.ntmps118, List.size_toArray, List.length_cons, List.length_nil, Nat.reduceAdd, Nat.reduceSub, Array.replicate_succ, Array.replicate_zero, List.push_toArray, List.append_toArray, List.nil_append, List.cons_append]
  gi_wp2_with (gi_at_range; refine wpListIn_range_own _ rfl _ _ rfl 9 142 KS Tryz.underlying136 RV m _ dE rfl HM.out ?_; intro W1 hr1 hg1 hz1; have HR1 := Lw.hid hr1; have HG1 := Lw.hid hg1; clear hr1 hg1)
  have K1 : Hid (Kept (fun _ => False) W W1) := Lw.hid ((Kept.refl _ W).grown HG1.out (fun k e _ => by cases e))
  refine wpIn_loop_rounds 1 ?_
  rw [roundsIn_succ]
  gi_wp2_with (gi_at_next; refine wpListIn_next_ranges _ rfl _ rfl 9 KS RV bS (fun v : Value => v) (fun key kl h => invS h) (fun v y _ => ⟨v, rfl⟩) m W.heap.size 1 _ _ _ rfl HR1.out (fun _ _ => ?_) (fun x c kl y w' cnt' hkey hl => absurd hl (has_nil kl)))
  refine bodyPost_end (results_none rfl _ _ _) rfl ?_
  exact ⟨⟨_, rfl⟩, .inl ⟨X, fun k hk => Nat.lt_of_lt_of_le (HX.out k hk) K1.out.size, fun k h => h, HJ.out _ _ _ _ _ H0.out (K1.out.mono (fun _ _ h => h.elim)) (fun k h => .inl h)⟩⟩
theorem tkeys_any (w : World) (m : Nat) : Calls Tryz.prog 104 #[.map (some m)] w fun e w' => e = .returned (.func (.func 118) #[] #[.pointer (some ⟨w.heap.size, 0, none⟩)]) ∧ w' = w.alloc (.cells #[.map (some m)] 136) := by
  go_enter Tryz.func104, Tryz.ntmps104
  go_wp2_with fail
  go_ret
  exact ⟨rfl, rfl⟩
abbrev unE (_ : Unit) : Array Value := #[undef]
set_option maxHeartbeats 8000000 in
theorem twalk_any (W : World) (F : Nat → Prop) (ft : Nat) (h : TrAt W F ft) (y : Value) : Calls Tryz.prog 87 #[.pointer (some ⟨ft, 0, none⟩), y] W fun e w' => (∃ v, e = .returned v) ∧ Kept (fun _ => False) W w' := by
  have H := Lw.hid h
  clear h
  go_enter Tryz.func87, Tryz.ntmps87
  go_wp2_with fail
  refine (tnone_any W F ft H.out).mono ?_
  rintro e _ ⟨rfl, rfl⟩
  obtain ⟨m, h1, h2, h3, h4, h5⟩ := H.out.mem
  have c0 := heap_cell h1 0
  have HM := Lw.hid h2
  clear h1 h2 h3 h4 h5
  go_wp2_with fail
  refine (tkeys_any W m).mono ?_
  rintro e _ ⟨rfl, rfl⟩
  obtain ⟨w1, hw1⟩ : ∃ w1, W.alloc (.cells #[.map (some m)] 136) = w1 := ⟨_, rfl⟩
  have hb : w1.heap[W.heap.size]? = some (.cells #[.map (some m)] 136 (0, 0)) := by rw [← hw1]; exact heap_alloc _ _
  have k1 : Kept (fun _ => False) W w1 := by rw [← hw1]; exact (Kept.refl _ W).alloc _
  have hm1 := MapAt.kept HM.out k1 (fun h => h)
  have HK := Lw.hid k1; have HB := Lw.hid hb; have HM1 := Lw.hid hm1
  rw [hw1]
  clear hw1 hb k1 hm1 c0
  go_wp2_with fail
  refine (sorted_any w1 _ _ [] (fun k => k = W.heap.size ∨ k = m) (fun w' k => keys1_iter w' _ m (k.heap HB.out (fun h => h)) (MapAt.kept HM1.out k (fun h => h))) (fun k hk => ?_) (Go.Proofs.enters_of Tryz.func118 (by kernel_rfl) rfl) (by decide)).mono ?_
  · rcases hk with rfl | rfl
    · exact heap_lt HB.out
    · exact HM1.out.lt
  rintro e w2 ⟨v, rfl, ho, hf, k2⟩
  obtain ⟨ad, cap, rfl, _, _, _⟩ := own_slice ho
  have K2 := Lw.hid k2
  clear ho hf k2
  simp only [List.length_nil]
  go_wp2_with fail
  refine wp_loop_rounds 1 ?_
  rw [rounds_succ]
  go_wp2_with fail
  refine bodyPost_end (results_none rfl _ _ _) rfl ?_
  exact ⟨⟨_, rfl⟩, HK.out.trans K2.out (fun _ _ h => h)⟩
theorem walk0_iter (w : World) (F : Nat → Prop) (ft m : Nat) (h1 : w.heap[ft]? = some (treeO m)) (h2 : MapAt w m dE) (h3 : m ≠ ft) :
    IterP Tryz.prog 87 #[.pointer (some ⟨ft, 0, none⟩)] #[] unE (fun k => k = ft ∨ k = m) [] w := by
  intro y J Jx X W hW hX hJ hJx hY h0
  have hm' : MapAt W m dE := by
    obtain ⟨es, clock, h1, h2, h3, h4⟩ := h2
    exact ⟨es, clock, hW.heap h1 (.inr rfl), h2, h3, h4⟩
  refine (twalk_any W (fun _ => True) ft ⟨m, hW.heap h1 (.inl rfl), hm', trivial, trivial, h3⟩ _).mono ?_
  rintro e w' ⟨hv, hk⟩
  exact ⟨hv, .inl ⟨X, fun k h => Nat.lt_of_lt_of_le (hX k h) hk.size, fun k h => h, hJ _ _ _ _ _ h0 (hk.mono (fun _ _ h => h.elim)) (fun k h => .inl h)⟩⟩
end Go.Proofs.YtgegjjnfcnalfaaGreatDoor
