/- Of the proof of TopBooks: JL, JM. -/
import Derived.Test.YtgegjjnfcnalfaaGreatDoorG30
namespace Go.Proofs.YtgegjjnfcnalfaaGreatDoor
open Go Go.RowKit Go.Lw
set_option maxRecDepth 100000
set_option linter.unusedVariables false
set_option linter.unusedSimpArgs false
abbrev pays (rs : List Rc) : List (List UInt8) := rs.map Rc.bytes
structure Rdy (K : Nat) (D : Dsk) (rs : List Rc) : Prop where
  hold : Hold D (pays rs) []
  stop : D.stopped = false
  plan : D.is = false
  ok : D.ok
  good : Good rs
  few : rs.length ≤ 100
  puts : D.puts ≤ K
  np : -(K : Int) ≤ D.np
  k : K ≤ 1000000
def App (D : Dsk) (rs : List Rc) (r : Rc) : Dsk := { D with b := encF fz (pays (rs ++ [r])), puts := D.puts + 1, np := D.np - 1 }
theorem pays_snoc (rs : List Rc) (r : Rc) : pays (rs ++ [r]) = pays rs ++ [r.bytes] := by simp [pays]
theorem Rdy.lens {K : Nat} {D : Dsk} {rs : List Rc} (h : Rdy K D rs) : D.b.length ≤ 89 * rs.length := by
  rw [h.hold.b, List.append_nil]
  have := enc_le (pays rs) h.good.len
  simpa [pays] using this
theorem Rdy.app {K : Nat} {D : Dsk} {rs : List Rc} {r : Rc} (h : Rdy K D rs) (hf : r.Fit (runJ rs)) (hr : 89 * rs.length + 89 ≤ D.cap) (hk : K + 1 ≤ 1000000) (hn : rs.length < 100) :
    appF D (endF fz (pays rs)) r.bytes = (App D rs r, endF fz (pays (rs ++ [r])), rs.length + 1, 0) ∧ Rdy (K + 1) (App D rs r) (rs ++ [r]) := by
  have hb := bytes_len hf
  have hl := h.lens
  have hbl : D.b.length = (encF fz (pays rs)).length := by rw [h.hold.b, List.append_nil]
  have h1 := app_fits h.hold (p := r.bytes) (by omega) h.stop (by omega) (by rw [h.plan]; simp)
  have hg := h.good.snoc hf
  have hbb : (encF fz (pays (rs ++ [r]))).length = D.b.length + 10 + r.bytes.length := by rw [pays_snoc, enc_snoc, List.length_append, frm_len, hbl]; omega
  refine ⟨?_, ⟨⟨?_, ?_, h.hold.c, ?_⟩, h.stop, h.plan, ⟨?_, h.ok.cap, ?_, ?_, ?_, ?_, h.ok.nb⟩, hg, by simp; omega, ?_, ?_, hk⟩⟩
  · rw [h1, ← pays_snoc]
    simp only [List.drop_nil, List.append_nil, App]
    simp [pays]
  · simp [App]
  · intro p hp
    have := hg.len p hp
    omega
  · show (encF fz (pays (rs ++ [r]))).length ≤ D.cap
    omega
  · show (encF fz (pays (rs ++ [r]))).length ≤ D.cap
    omega
  · show D.puts + 1 < _
    have := h.puts; omega
  · show _ < D.np - 1
    have := h.np; have := h.k; omega
  · show D.np - 1 ≤ _
    have := h.ok.hi; omega
  · intro hi
    have := h.plan
    change D.is = true at hi
    rw [this] at hi; cases hi
  · show D.puts + 1 ≤ K + 1
    have := h.puts; omega
  · show -((K + 1 : Nat) : Int) ≤ D.np - 1
    have := h.np; omega
structure JL (w : World) (B : Nat → Prop) (j BL g : Nat) (v : Value) (D : Dsk) (rs : List Rc) : Prop where
  m : ∃ F va sp, JAt w F j BL va sp (runJ rs) ∧ (∀ k, F k → k < w.heap.size ∧ k ≠ BL ∧ k ≠ g ∧ ¬ blk v k) ∧ ∀ k, F k → B k
  l : LogAt w BL g v D (endF fz (pays rs))
  b : ∀ k, (k = BL ∨ k = g ∨ blk v k) → B k
theorem JL.kept {w w' : World} {B S : Nat → Prop} {j BL g : Nat} {v : Value} {D : Dsk} {rs : List Rc} (h : JL w B j BL g v D rs) (k : Kept S w w') (hS : ∀ i, B i → ¬ S i) : JL w' B j BL g v D rs := by
  obtain ⟨F, va, sp, h1, h2, h3⟩ := h.m
  exact ⟨⟨F, va, sp, h1.kept k (fun i hi => hS i (h3 i hi)), fun i hi => ⟨Nat.lt_of_lt_of_le (h2 i hi).1 k.size, (h2 i hi).2⟩, h3⟩, h.l.kept k (hS _ (h.b _ (.inl rfl))) (hS _ (h.b _ (.inr (.inl rfl)))) (fun i hi => hS _ (h.b _ (.inr (.inr hi)))), h.b⟩
theorem JL.mono {w : World} {B C : Nat → Prop} {j BL g : Nat} {v : Value} {D : Dsk} {rs : List Rc} (h : JL w B j BL g v D rs) (hC : ∀ i, i < w.heap.size → B i → C i) : JL w C j BL g v D rs := by
  obtain ⟨F, va, sp, h1, h2, h3⟩ := h.m
  refine ⟨⟨F, va, sp, h1, h2, fun k hk => hC k (h2 k hk).1 (h3 k hk)⟩, h.l, fun k hk => hC k ?_ (h.b k hk)⟩
  rcases hk with e | e | e
  · rw [e]; exact heap_lt h.l.box
  · rw [e]; exact heap_lt h.l.d.box
  · exact own_lt h.l.d.own k e
def AOk (w : World) (B : Nat → Prop) (j BL g : Nat) (D : Dsk) (rs : List Rc) (r : Rc) (w' : World) : Prop := ∃ v', JL w' (fun k => B k ∨ w.heap.size ≤ k) j BL g v' (App D rs r) (rs ++ [r]) ∧ Kept B w w'
theorem AOk.of {w w' : World} {B B' : Nat → Prop} {j BL g : Nat} {v : Value} {D : Dsk} {rs : List Rc} {r : Rc} {e : Ending} (h : AJPost w BL g v (App D rs r) (endF fz (pays (rs ++ [r]))) B' j (r.doJ (runJ rs)) e w') (hB : ∀ k, (B' k ∨ k = BL ∨ k = g ∨ blk v k) → B k) : e = .returned (.int .i64 0) ∧ AOk w B j BL g D rs r w' := by
  obtain ⟨he, v', F, va, sp, h1, h2, h3, h4, h5⟩ := h
  refine ⟨he, v', ⟨⟨fun k => F k ∧ k < w'.heap.size, va, sp, ?_, fun k hk => ⟨hk.2, (h4 k hk.1).2⟩, fun k hk => ?_⟩, h1, fun k hk => ?_⟩, h5.mono (fun i _ hi => hB i hi)⟩
  · rw [runJ_snoc]; exact h3.mono (fun b hb hf => ⟨hf, hb⟩)
  · exact (h4 k hk.1).1.imp (fun h => hB k (.inl h)) (fun h => h)
  · rcases hk with e | e | e
    · exact .inl (hB k (.inr (.inl e)))
    · exact .inl (hB k (.inr (.inr (.inl e))))
    · exact (h2 k e).imp (fun h => hB k (.inr (.inr (.inr h)))) (fun h => h)
theorem JPost.mono {w w' : World} {F B C : Nat → Prop} {j BL : Nat} {J : Jr} (h : JPost w w' F B j BL J) (h1 : ∀ k, F k → C k) (h2 : ∀ k, B k → C k) : JPost w w' C C j BL J := by
  obtain ⟨F', va, sp, h3, h4, h5⟩ := h
  exact ⟨F', va, sp, h3, fun k hk => (h4 k hk).imp (h2 k) (fun h => h), h5.mono (fun k _ h => h1 k h)⟩
theorem app_intent (w : World) (B : Nat → Prop) (j BL g : Nat) (v : Value) (D : Dsk) (rs : List Rc) (K : Nat) (h : JL w B j BL g v D rs) (hd : Rdy K D rs) (ht : Tab w) (hr : 89 * rs.length + 89 ≤ D.cap) (hk : K + 1 ≤ 1000000) (hn : rs.length < 100) (id : Nat) (t : List UInt8) (hf : (Rc.intent id t).Fit (runJ rs)) :
    Calls Tryz.prog 30 #[.pointer (some ⟨j, 0, none⟩), rv 1 id t 0 0 0 none 0 0 0] w fun e w' => e = .returned (.int .i64 0) ∧ AOk w B j BL g D rs (.intent id t) w' := by
  obtain ⟨F, va, sp, h1, h2, h3⟩ := h.m
  obtain ⟨hap, -⟩ := hd.app hf hr hk hn
  have hl := runJ_len rs
  have hid : id < 4294967296 := by have := hf.2.1; omega
  refine (jappend1 w F F j BL sp va (runJ rs) _ h1 g v D _ _ _ _ h.l hd.ok ht hd.hold.fin (sum_ok _) (fun _ h => h) h2 id t 0 0 0 none 0 0 0 _ hap
    (fun w' k => fits1_no w' F j BL sp va _ (h1.kept k (fun _ _ h => h)) hf.1 id t 0 0 0 none 0 0 0 hf.2.2 rfl)
    (fun w' k => bytes1_any w' id t 0 0 0 none 0 0 0 hid hf.2.2)
    (fun w' k => begin_any w' F j BL sp va _ (h1.kept k (fun i hi hS => ?_)) (by omega) id t 0 0 0 none 0 0 0)).mono (fun e w' hp => AOk.of hp (fun k hk => hk.elim (h3 k) (h.b k)))
  have := h2 i hi
  rcases hS with e | e | e
  · exact this.2.1 e
  · exact this.2.2.1 e
  · exact this.2.2.2 e
theorem app_mark (w : World) (B : Nat → Prop) (j BL g : Nat) (v : Value) (D : Dsk) (rs : List Rc) (K : Nat) (h : JL w B j BL g v D rs) (hd : Rdy K D rs) (ht : Tab w) (hr : 89 * rs.length + 89 ≤ D.cap) (hk : K + 1 ≤ 1000000) (hn : rs.length < 100) (m : Mk) (id : Nat) (hf : (Rc.mark m).Fit (runJ rs)) :
    Calls Tryz.prog 30 #[.pointer (some ⟨j, 0, none⟩), rv 6 id [] 0 0 0 none m.a m.b m.c] w fun e w' => e = .returned (.int .i64 0) ∧ AOk w B j BL g D rs (.mark m) w' := by
  obtain ⟨F, va, sp, h1, h2, h3⟩ := h.m
  obtain ⟨hap, -⟩ := hd.app hf hr hk hn
  refine (jappend6 w F F j BL sp va (runJ rs) _ h1 g v D _ _ _ _ h.l hd.ok ht hd.hold.fin (sum_ok _) (fun _ h => h) h2 id [] 0 0 0 none m.a m.b m.c _ hap
    (fun w' k => ?_)
    (fun w' k => bytes6_any w' id [] 0 0 0 none m.a m.b m.c hf.1 hf.2.1 hf.2.2)
    (fun w' k => note_any w' F j BL sp va _ (h1.kept k (fun i hi hS => ?_)) id [] 0 0 0 none m.a m.b m.c)).mono (fun e w' hp => AOk.of hp (fun k hk => hk.elim (h3 k) (h.b k)))
  · have h1' := h1.kept k (fun _ _ h => h)
    cases ho : (runJ rs).opn with
    | none => exact fits6_no w' F j BL sp va _ h1' ho id [] 0 0 0 none m.a m.b m.c
    | some c => obtain ⟨cs, hc, hov⟩ := opn_last ho; exact fits6_yes w' F j BL sp va _ h1' cs c hc hov id [] 0 0 0 none m.a m.b m.c
  · have := h2 i hi
    rcases hS with e | e | e
    · exact this.2.1 e
    · exact this.2.2.1 e
    · exact this.2.2.2 e
theorem app_signal (w : World) (B : Nat → Prop) (j BL g : Nat) (v : Value) (D : Dsk) (rs : List Rc) (K : Nat) (h : JL w B j BL g v D rs) (hd : Rdy K D rs) (ht : Tab w) (hr : 89 * rs.length + 89 ≤ D.cap) (hk : K + 1 ≤ 1000000) (hn : rs.length < 100) (id n : Nat) (hf : (Rc.signal id n).Fit (runJ rs)) :
    Calls Tryz.prog 30 #[.pointer (some ⟨j, 0, none⟩), rv 3 id [] 0 0 n none 0 0 0] w fun e w' => e = .returned (.int .i64 0) ∧ AOk w B j BL g D rs (.signal id n) w' := by
  obtain ⟨F, va, sp, h1, h2, h3⟩ := h.m
  obtain ⟨hap, -⟩ := hd.app hf hr hk hn
  obtain ⟨hi, hn2, c, ho, hsg⟩ := hf
  obtain ⟨cs, hc, hov⟩ := opn_last ho
  have hl := runJ_len rs
  have hR : rightB 3 0 (n : Int) = true := by simp [rightB]; omega
  refine (jappend3 w F F j BL sp va (runJ rs) _ h1 g v D _ _ _ _ h.l hd.ok ht hd.hold.fin (sum_ok _) (fun _ h => h) h2 id [] 0 0 n none 0 0 0 _ hap
    (fun w' k => fits3_yesr w' F j BL sp va _ (h1.kept k (fun _ _ h => h)) cs c hc hov id [] 0 0 n none 0 0 0 hR hsg)
    (fun w' k => bytes3_any w' id n [] 0 0 none 0 0 0 (by omega) hn2)
    (fun w' k => (stop_any w' F j BL sp va _ (h1.kept k (fun i hi hS => ?_)) cs c hc hov id [] 0 0 n none 0 0 0).mono (fun e w2 ⟨h5, h6⟩ => ⟨h5, ?_⟩))).mono (fun e w' hp => AOk.of hp (fun k hk => hk.elim (h3 k) (h.b k)))
  · have := h2 i hi
    rcases hS with e | e | e
    · exact this.2.1 e
    · exact this.2.2.1 e
    · exact this.2.2.2 e
  · have e : (Rc.signal id n).doJ (runJ rs) = { runJ rs with cs := cs ++ [{ c with sig := (n : Int) }] } := by
      show ({ runJ rs with cs := modLast (Rc.mod (.signal id n)) (runJ rs).cs } : Jr) = _
      rw [hc, modLast_snoc]; rfl
    rw [e]; exact h6
theorem app_output (w : World) (B : Nat → Prop) (j BL g : Nat) (v : Value) (D : Dsk) (rs : List Rc) (K : Nat) (h : JL w B j BL g v D rs) (hd : Rdy K D rs) (ht : Tab w) (hr : 89 * rs.length + 89 ≤ D.cap) (hk : K + 1 ≤ 1000000) (hn : rs.length < 100) (id : Nat) (two : Bool) (off : Nat) (t : List UInt8) (hf : (Rc.output id two off t).Fit (runJ rs)) :
    Calls Tryz.prog 30 #[.pointer (some ⟨j, 0, none⟩), rv 2 id t (if two then 2 else 3) off 0 none 0 0 0] w fun e w' => e = .returned (.int .i64 0) ∧ AOk w B j BL g D rs (.output id two off t) w' := by
  obtain ⟨F, va, sp, h1, h2, h3⟩ := h.m
  obtain ⟨hap, -⟩ := hd.app hf hr hk hn
  obtain ⟨hi, htn, htl, c, ho, hoff⟩ := hf
  obtain ⟨cs, hc, hov⟩ := opn_last ho
  have hl := runJ_len rs
  have hbn := hd.good.bnd.o c (by rw [hc]; simp)
  have hob : off < 4294967296 := by rw [hoff]; cases two <;> simp <;> omega
  have hkp : ∀ w', Kept (fun k => k = BL ∨ k = g ∨ blk v k) w w' → JAt w' F j BL va sp (runJ rs) := fun w' k => h1.kept k (fun i hi hS => by
    have := h2 i hi
    rcases hS with e | e | e
    · exact this.2.1 e
    · exact this.2.2.1 e
    · exact this.2.2.2 e)
  have he : (Rc.output id two off t).doJ (runJ rs) = { runJ rs with cs := cs ++ [putC c two t] } := by
    show ({ runJ rs with cs := modLast (Rc.mod (.output id two off t)) (runJ rs).cs } : Jr) = _
    rw [hc, modLast_snoc]; rfl
  cases two with
  | true =>
    refine (jappend2 w F F j BL sp va (runJ rs) _ h1 g v D _ _ _ _ h.l hd.ok ht hd.hold.fin (sum_ok _) (fun _ h => h) h2 id t 2 off 0 none 0 0 0 _ hap
      (fun w' k => fits2_yesr w' F j BL sp va _ (h1.kept k (fun _ _ h => h)) cs c hc hov id t 2 off 0 none 0 0 0 rfl htn htl (by omega))
      (fun w' k => bytes22_any w' id off t 0 none 0 0 0 (by omega) hob htl)
      (fun w' k => (more2_any w' F j BL sp va _ (hkp w' k) cs c hc hov id t off 0 none 0 0 0 htl (by omega)).mono (fun e w2 ⟨h5, h6⟩ => ⟨h5, ?_⟩))).mono (fun e w' hp => AOk.of hp (fun k hk => hk.elim (h3 k) (h.b k)))
    rw [he]; exact h6
  | false =>
    refine (jappend2 w F F j BL sp va (runJ rs) _ h1 g v D _ _ _ _ h.l hd.ok ht hd.hold.fin (sum_ok _) (fun _ h => h) h2 id t 3 off 0 none 0 0 0 _ hap
      (fun w' k => fits2_yesr w' F j BL sp va _ (h1.kept k (fun _ _ h => h)) cs c hc hov id t 3 off 0 none 0 0 0 rfl htn htl (by omega))
      (fun w' k => bytes23_any w' id off t 0 none 0 0 0 (by omega) hob htl)
      (fun w' k => (more3_any w' F j BL sp va _ (hkp w' k) cs c hc hov id t off 0 none 0 0 0 htl (by omega)).mono (fun e w2 ⟨h5, h6⟩ => ⟨h5, ?_⟩))).mono (fun e w' hp => AOk.of hp (fun k hk => hk.elim (h3 k) (h.b k)))
    rw [he]; exact h6
theorem app_fin (w : World) (B : Nat → Prop) (j BL g : Nat) (v : Value) (D : Dsk) (rs : List Rc) (K : Nat) (h : JL w B j BL g v D rs) (hd : Rdy K D rs) (ht : Tab w) (hr : 89 * rs.length + 89 ≤ D.cap) (hk : K + 1 ≤ 1000000) (hn : rs.length < 100) (C G : Nat → Prop) (q id n : Nat) (t : List UInt8) (hs : StAt w G q (n : Int) (some t)) (hBC : ∀ k, B k → C k) (hG : ∀ k, G k → k < w.heap.size ∧ C k) (hGB : ∀ k, G k → ¬ B k) (hf : (Rc.fin id n t).Fit (runJ rs)) :
    Calls Tryz.prog 30 #[.pointer (some ⟨j, 0, none⟩), rv 4 id [] 0 0 n (some ⟨q, 0, none⟩) 0 0 0] w fun e w' => e = .returned (.int .i64 0) ∧ AOk w C j BL g D rs (.fin id n t) w' := by
  obtain ⟨F, va, sp, h1, h2, h3⟩ := h.m
  obtain ⟨hap, -⟩ := hd.app hf hr hk hn
  obtain ⟨hi, hn2, htl, c, ho⟩ := hf
  obtain ⟨cs, hc, hov⟩ := opn_last ho
  have hl := runJ_len rs
  have hR : rightB 4 0 (n : Int) = true := by simp [rightB]; omega
  have hGd : ∀ k, G k → k ≠ BL ∧ k ≠ g ∧ ¬ blk v k ∧ k ≠ j := fun k hk => ⟨fun e => hGB k hk (h.b k (.inl e)), fun e => hGB k hk (h.b k (.inr (.inl e))), fun e => hGB k hk (h.b k (.inr (.inr e))), fun e => hGB k hk (h3 k (by rw [e]; exact h1.fj))⟩
  have hG2 : ∀ k, G k → ¬ blk va k := fun k hk e => hGB k hk (h3 k (h1.fr k e).1)
  have hFG : ∀ k, (F k ∨ G k) → k < w.heap.size ∧ k ≠ BL ∧ k ≠ g ∧ ¬ blk v k := fun k hk => hk.elim (h2 k) (fun hg => ⟨(hG k hg).1, (hGd k hg).1, (hGd k hg).2.1, (hGd k hg).2.2.1⟩)
  refine (jappend4 w F (fun k => F k ∨ G k) j BL sp va (runJ rs) _ h1 g v D _ _ _ _ h.l hd.ok ht hd.hold.fin (sum_ok _) (fun _ h => .inl h) hFG id [] 0 0 n (some ⟨q, 0, none⟩) 0 0 0 _ hap
    (fun w' k => fits4_yesr w' F j BL sp va _ (h1.kept k (fun _ _ h => h)) cs c hc hov id [] 0 0 n (some ⟨q, 0, none⟩) 0 0 0 hR)
    (fun w' k => bytes4_any w' G q id n (some t) (hs.kept k (fun _ _ h => h)) [] 0 0 0 0 0 (by omega) hn2 (fun u hu => by cases hu; omega))
    (fun w' k => (end_any w' F G j BL sp q va _ (h1.kept k (fun i hi hS => ?_)) n (some t) (hs.kept k (fun i hi hS => ?_)) (fun k hk => ⟨(hGd k hk).2.2.2, hG2 k hk⟩) cs c hc hov id [] 0 0 n 0 0 0).mono (fun e w2 ⟨h5, h6⟩ => ⟨h5, ?_⟩))).mono (fun e w' hp => AOk.of hp (fun k hk => ?_))
  · have := h2 i hi
    rcases hS with e | e | e
    · exact this.2.1 e
    · exact this.2.2.1 e
    · exact this.2.2.2 e
  · have := hGd i hi
    rcases hS with e | e | e
    · exact this.1 e
    · exact this.2.1 e
    · exact this.2.2.1 e
  · have e : (Rc.fin id n t).doJ (runJ rs) = { runJ rs with cs := cs ++ [{ c with status := (n : Int), over := true }], st := (n : Int), v := some t } := by
      show ({ runJ rs with cs := modLast (Rc.mod (.fin id n t)) (runJ rs).cs, st := (n : Int), v := some t } : Jr) = _
      rw [hc, modLast_snoc]; rfl
    rw [e]; exact h6
  · rcases hk with hk | hk
    · exact hk.elim (fun h => hBC k (h3 k h)) (fun hg => (hG k hg).2)
    · exact hBC k (h.b k hk)
end Go.Proofs.YtgegjjnfcnalfaaGreatDoor
namespace Go.Proofs.YtgegjjnfcnalfaaGreatDoor
open Go Go.RowKit Go.Lw
set_option maxRecDepth 100000
set_option linter.unusedVariables false
set_option linter.unusedSimpArgs false
attribute [local go_sem] BA_toList
def RPost (w : World) (B : Nat → Prop) (j BL g : Nat) (D : Dsk) (rs : List Rc) (e : Ending) (w' : World) : Prop :=
  ∃ er : Int, e = .returned (.int .i64 er) ∧ ((er ≠ 0 ∧ Kept (fun _ => False) w w') ∨ (er = 0 ∧ ∃ r, r.Fit (runJ rs) ∧ AOk w B j BL g D rs r w'))
theorem RPost.no {w : World} {B : Nat → Prop} {j BL g : Nat} {D : Dsk} {rs : List Rc} {e : Ending} {w' : World} (er : Int) (her : er ≠ 0) (h : e = .returned (.int .i64 er) ∧ Kept (fun _ => False) w w') : RPost w B j BL g D rs e w' := ⟨er, h.1, .inl ⟨her, h.2⟩⟩
theorem RPost.yes {w : World} {B : Nat → Prop} {j BL g : Nat} {D : Dsk} {rs : List Rc} {e : Ending} {w' : World} (r : Rc) (hr : r.Fit (runJ rs)) (h : e = .returned (.int .i64 0) ∧ AOk w B j BL g D rs r w') : RPost w B j BL g D rs e w' := ⟨0, h.1, .inr ⟨rfl, r, hr, h.2⟩⟩
theorem RPost.kept {w w1 w' : World} {B : Nat → Prop} {j BL g : Nat} {D : Dsk} {rs : List Rc} {e : Ending} (k : Kept (fun _ => False) w w1) (h : RPost w1 B j BL g D rs e w') : RPost w B j BL g D rs e w' := by
  obtain ⟨er, h1, h2⟩ := h
  refine ⟨er, h1, h2.imp (fun h => ⟨h.1, k.trans h.2 (fun _ _ h => h)⟩) (fun ⟨h3, r, hr, v', h4, h5⟩ => ⟨h3, r, hr, v', h4.mono (fun i _ hi => hi.imp (fun h => h) (fun h => Nat.le_trans k.size h)), (k.mono (fun _ _ h => h.elim)).trans h5 (fun _ _ h => h)⟩)⟩
theorem sig_core (w : World) (B : Nat → Prop) (j BL g : Nat) (v : Value) (D : Dsk) (rs : List Rc) (K : Nat) (h : JL w B j BL g v D rs) (hd : Rdy K D rs) (ht : Tab w) (hr : 89 * rs.length + 89 ≤ D.cap) (hk : K + 1 ≤ 1000000) (hn : rs.length < 100) (n : Int) :
    Calls Tryz.prog 30 #[.pointer (some ⟨j, 0, none⟩), rv 3 ((runJ rs).cs.length : Int) [] 0 0 n none 0 0 0] w (RPost w B j BL g D rs) := by
  obtain ⟨F, va, sp, h1, h2, h3⟩ := h.m
  have hkp : ∀ w', Kept (fun _ => False) w w' → JAt w' F j BL va sp (runJ rs) := fun w' k => h1.kept k (fun _ _ h => h)
  by_cases hR : rightB 3 0 n = true
  · cases ho : (runJ rs).opn with
    | none => exact (jappend_no w j 3 _ [] 0 0 n none 0 0 0 10 (by decide) (fun w' k => fits3_nor w' F j BL sp va _ (hkp w' k) ho _ [] 0 0 n none 0 0 0 hR)).mono (fun e w' hp => RPost.no 10 (by decide) hp)
    | some c =>
      obtain ⟨cs, hc, hov⟩ := opn_last ho
      by_cases hs : c.sig = -1
      · have hb : 0 ≤ n ∧ n ≤ 2147483647 := by simpa [rightB] using hR
        obtain ⟨m, rfl⟩ := Int.eq_ofNat_of_zero_le hb.1
        have hf : (Rc.signal (runJ rs).cs.length m).Fit (runJ rs) := ⟨rfl, by omega, c, ho, hs⟩
        exact (app_signal w B j BL g v D rs K h hd ht hr hk hn _ m hf).mono (fun e w' hp => RPost.yes _ hf hp)
      · exact (jappend_no w j 3 _ [] 0 0 n none 0 0 0 10 (by decide) (fun w' k => fits3_yess w' F j BL sp va _ (hkp w' k) cs c hc hov _ [] 0 0 n none 0 0 0 hR hs)).mono (fun e w' hp => RPost.no 10 (by decide) hp)
  · have hR' : rightB 3 0 n = false := by simpa using hR
    refine (jappend_no w j 3 _ [] 0 0 n none 0 0 0 1 (by decide) (fun w' k => ?_)).mono (fun e w' hp => RPost.no 1 (by decide) hp)
    cases ho : (runJ rs).opn with
    | none => exact fits3_now w' F j BL sp va _ (hkp w' k) ho _ [] 0 0 n none 0 0 0 hR'
    | some c =>
      obtain ⟨cs, hc, hov⟩ := opn_last ho
      exact fits3_yesw w' F j BL sp va _ (hkp w' k) cs c hc hov _ [] 0 0 n none 0 0 0 hR'
theorem put_core (w : World) (B : Nat → Prop) (j BL g : Nat) (v : Value) (D : Dsk) (rs : List Rc) (K : Nat) (h : JL w B j BL g v D rs) (hd : Rdy K D rs) (ht : Tab w) (hr : 89 * rs.length + 89 ≤ D.cap) (hk : K + 1 ≤ 1000000) (hn : rs.length < 100) (ch : Int) (off : Nat) (t : List UInt8) (htl : t.length ≤ 60) (hoff : ∀ c, (runJ rs).opn = some c → off = (if ch = 2 then c.out else c.err).length) :
    Calls Tryz.prog 30 #[.pointer (some ⟨j, 0, none⟩), rv 2 ((runJ rs).cs.length : Int) t ch off 0 none 0 0 0] w (RPost w B j BL g D rs) := by
  obtain ⟨F, va, sp, h1, h2, h3⟩ := h.m
  have hkp : ∀ w', Kept (fun _ => False) w w' → JAt w' F j BL va sp (runJ rs) := fun w' k => h1.kept k (fun _ _ h => h)
  by_cases hR : rightB 2 ch 0 = true
  · cases ho : (runJ rs).opn with
    | none => exact (jappend_no w j 2 _ t ch off 0 none 0 0 0 10 (by decide) (fun w' k => fits2_nor w' F j BL sp va _ (hkp w' k) ho _ t ch off 0 none 0 0 0 hR)).mono (fun e w' hp => RPost.no 10 (by decide) hp)
    | some c =>
      obtain ⟨cs, hc, hov⟩ := opn_last ho
      have hbn := hd.good.bnd.o c (by rw [hc]; simp)
      by_cases ht0 : t = []
      · exact (jappend_no w j 2 _ t ch off 0 none 0 0 0 3 (by decide) (fun w' k => fits2_yese w' F j BL sp va _ (hkp w' k) cs c hc hov _ t ch off 0 none 0 0 0 hR ht0)).mono (fun e w' hp => RPost.no 3 (by decide) hp)
      · have hb : ch = 2 ∨ ch = 3 := by simpa [rightB] using hR
        rcases hb with rfl | rfl
        · have hf : (Rc.output (runJ rs).cs.length true off t).Fit (runJ rs) := ⟨rfl, ht0, htl, c, ho, hoff c ho⟩
          exact (app_output w B j BL g v D rs K h hd ht hr hk hn _ true off t hf).mono (fun e w' hp => RPost.yes _ hf hp)
        · have hf : (Rc.output (runJ rs).cs.length false off t).Fit (runJ rs) := ⟨rfl, ht0, htl, c, ho, hoff c ho⟩
          exact (app_output w B j BL g v D rs K h hd ht hr hk hn _ false off t hf).mono (fun e w' hp => RPost.yes _ hf hp)
  · have hR' : rightB 2 ch 0 = false := by simpa using hR
    refine (jappend_no w j 2 _ t ch off 0 none 0 0 0 1 (by decide) (fun w' k => ?_)).mono (fun e w' hp => RPost.no 1 (by decide) hp)
    cases ho : (runJ rs).opn with
    | none => exact fits2_now w' F j BL sp va _ (hkp w' k) ho _ t ch off 0 none 0 0 0 hR'
    | some c =>
      obtain ⟨cs, hc, hov⟩ := opn_last ho
      exact fits2_yesw w' F j BL sp va _ (hkp w' k) cs c hc hov _ t ch off 0 none 0 0 0 hR'
theorem int_core (w : World) (B : Nat → Prop) (j BL g : Nat) (v : Value) (D : Dsk) (rs : List Rc) (K : Nat) (h : JL w B j BL g v D rs) (hd : Rdy K D rs) (ht : Tab w) (hr : 89 * rs.length + 89 ≤ D.cap) (hk : K + 1 ≤ 1000000) (hn : rs.length < 100) (t : List UInt8) (htl : t.length ≤ 60) :
    Calls Tryz.prog 30 #[.pointer (some ⟨j, 0, none⟩), rv 1 ((runJ rs).cs.length + 1 : Nat) t 0 0 0 none 0 0 0] w (RPost w B j BL g D rs) := by
  obtain ⟨F, va, sp, h1, h2, h3⟩ := h.m
  cases ho : (runJ rs).opn with
  | none =>
    have hf : (Rc.intent ((runJ rs).cs.length + 1) t).Fit (runJ rs) := ⟨ho, rfl, htl⟩
    exact (app_intent w B j BL g v D rs K h hd ht hr hk hn _ t hf).mono (fun e w' hp => RPost.yes _ hf hp)
  | some c =>
    obtain ⟨cs, hc, hov⟩ := opn_last ho
    exact (jappend_no w j 1 _ t 0 0 0 none 0 0 0 10 (by decide) (fun w' k => fits1_yes w' F j BL sp va _ (h1.kept k (fun _ _ h => h)) cs c hc hov _ t 0 0 0 none 0 0 0 rfl)).mono (fun e w' hp => RPost.no 10 (by decide) hp)
theorem fin_core (w : World) (B : Nat → Prop) (j BL g : Nat) (v : Value) (D : Dsk) (rs : List Rc) (K : Nat) (h : JL w B j BL g v D rs) (hd : Rdy K D rs) (ht : Tab w) (hr : 89 * rs.length + 89 ≤ D.cap) (hk : K + 1 ≤ 1000000) (hn : rs.length < 100) (C G : Nat → Prop) (q : Nat) (n : Int) (t : List UInt8) (htl : t.length ≤ 60) (hs : StAt w G q n (some t)) (hBC : ∀ k, B k → C k) (hG : ∀ k, G k → k < w.heap.size ∧ C k) (hGB : ∀ k, G k → ¬ B k) :
    Calls Tryz.prog 30 #[.pointer (some ⟨j, 0, none⟩), rv 4 ((runJ rs).cs.length : Int) [] 0 0 n (some ⟨q, 0, none⟩) 0 0 0] w (RPost w C j BL g D rs) := by
  obtain ⟨F, va, sp, h1, h2, h3⟩ := h.m
  have hkp : ∀ w', Kept (fun _ => False) w w' → JAt w' F j BL va sp (runJ rs) := fun w' k => h1.kept k (fun _ _ h => h)
  by_cases hR : rightB 4 0 n = true
  · cases ho : (runJ rs).opn with
    | none => exact (jappend_no w j 4 _ [] 0 0 n _ 0 0 0 10 (by decide) (fun w' k => fits4_nor w' F j BL sp va _ (hkp w' k) ho _ [] 0 0 n _ 0 0 0 hR)).mono (fun e w' hp => RPost.no 10 (by decide) hp)
    | some c =>
      have hb : 0 ≤ n ∧ n < 256 := by simpa [rightB] using hR
      obtain ⟨m, rfl⟩ := Int.eq_ofNat_of_zero_le hb.1
      have hf : (Rc.fin (runJ rs).cs.length m t).Fit (runJ rs) := ⟨rfl, by omega, htl, c, ho⟩
      exact (app_fin w B j BL g v D rs K h hd ht hr hk hn C G q _ m t hs hBC hG hGB hf).mono (fun e w' hp => RPost.yes _ hf hp)
  · have hR' : rightB 4 0 n = false := by simpa using hR
    refine (jappend_no w j 4 _ [] 0 0 n _ 0 0 0 1 (by decide) (fun w' k => ?_)).mono (fun e w' hp => RPost.no 1 (by decide) hp)
    cases ho : (runJ rs).opn with
    | none => exact fits4_now w' F j BL sp va _ (hkp w' k) ho _ [] 0 0 n _ 0 0 0 hR'
    | some c =>
      obtain ⟨cs, hc, hov⟩ := opn_last ho
      exact fits4_yesw w' F j BL sp va _ (hkp w' k) cs c hc hov _ [] 0 0 n _ 0 0 0 hR'
end Go.Proofs.YtgegjjnfcnalfaaGreatDoor
