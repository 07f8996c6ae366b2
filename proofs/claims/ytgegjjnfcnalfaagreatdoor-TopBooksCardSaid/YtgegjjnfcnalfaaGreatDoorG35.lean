/- Of the proof of TopBooks: RA, RB. -/
import Derived.Test.YtgegjjnfcnalfaaGreatDoorG18
import Derived.Test.YtgegjjnfcnalfaaGreatDoorG21
import Derived.Sort.LoopGhostIn
import Derived.Test.YtgegjjnfcnalfaaGreatDoorG19
namespace Go.Proofs.YtgegjjnfcnalfaaGreatDoor
open Go Go.RowKit Go.Lw
set_option maxRecDepth 100000
set_option linter.unusedVariables false
set_option linter.unusedSimpArgs false
attribute [local go_sem] Oper.semAt_some
attribute [local go_sem] BA_toList
abbrev RowC (w : World) (v : Value) (cs : List Cmd) : Prop := w.ownsRow 0 54 8 v cs.length (cs.flatMap Cmd.cells)
theorem oneCs (cs : List Cmd) : ∀ u ∈ cs.flatMap Cmd.cells, u.oneCell' = true := by
  intro u hu
  obtain ⟨c, _, hc⟩ := List.mem_flatMap.1 hu
  simp only [Cmd.cells, List.mem_cons, List.not_mem_nil, or_false] at hc
  rcases hc with rfl | rfl | rfl | rfl | rfl | rfl | rfl | rfl <;> rfl
set_option maxHeartbeats 4000000 in
theorem cclone_any (w : World) (v : Value) (cs : List Cmd) (h : RowC w v cs) (hl : cs.length ≤ 1000) :
    Calls Tryz.prog 51 #[v] w fun e w' => ∃ v', e = .returned v' ∧ RowC w' v' cs ∧ (∀ k, blk v' k → w.heap.size ≤ k) ∧ Kept (fun _ => False) w w' := by
  obtain ⟨n, hn⟩ : ∃ n, cs.length = n := ⟨_, rfl⟩
  unfold RowC at h ⊢
  rw [hn] at h hl ⊢
  obtain ⟨ad, cap, rfl, h1, h2, h3⟩ := own_slice h
  cases ad with
  | none =>
    obtain rfl : n = 0 := by
      rcases Nat.eq_zero_or_pos n with h | h
      · exact h
      · obtain ⟨g, hg⟩ := h3 h; cases hg
    have hc : cs = [] := List.eq_nil_of_length_eq_zero hn
    subst hc
    have hc0 : cap = 0 := by
      rcases h.2 with ⟨e, _⟩ | ⟨g, c, cur, e, _⟩
      · cases e; rfl
      · cases e
    subst hc0
    clear h h1 h2 h3
    have heq := fun w => Lib.run_eql_slice_nil (P := Tryz.prog) w 34 54 none 0 0 0 0 Tryz.underlying34
    go_enter Tryz.func51, Tryz.ntmps51
    go_wp2_with fail
    go_ret
    exact ⟨_, rfl, World.ownsRow_nil _ _ _ _, fun k hk => (blk_none hk).elim, Kept.refl _ _⟩
  | some a =>
    have HR := Lw.hid (Rd.own h)
    obtain ⟨g, off, pth⟩ := a
    have HO := Lw.hid (World.ownsRow_lit (base := 0) (e := 54) (size := 8) w #[] 0 (Nat.zero_le _) (by decide) rfl)
    clear h h3
    unfold maxLen at h2
    have heq := fun w => Lib.run_eql_slice_nil (P := Tryz.prog) w 34 54 (some ⟨g, off, pth⟩) n cap 0 0 Tryz.underlying34
    go_enter Tryz.func51, Tryz.ntmps51
    go_wp2_with (at_builtin; refine wpList_app rfl _ _ _ rfl EC _ 0 _ rfl HO.out _ n _ rfl (Rd.alloc HR.out _) (oneCs cs) (by unfold maxLen; omega) (by omega) ?_; intro ad' cap' w5 ho hg hf; have HO5 := Lw.hid ho; have HG := Lw.hid hg; have HF := Lw.hid hf; clear ho hg hf)
    go_ret
    refine ⟨_, rfl, ?_, fun k hk => ?_, ?_⟩
    · have := HO5.out
      simp only [List.nil_append, Nat.zero_add] at this
      simpa using this
    · rcases HF.out k (by simpa using hk) with h | h
      · rw [blk_some h]; exact Nat.le_refl _
      · simp at h; omega
    · exact ((Kept.refl (fun _ => False) w).alloc _).grown HG.out (fun k hk hl => by cases hk; exact absurd hl (Nat.lt_irrefl _))
abbrev cmdE (c : Cmd) : Array Value := #[.agg #[.int .u32 (c.id : Int), .string (BA c.text), .string (BA c.out), .string (BA c.err), .int .i64 c.sig, .int .i64 c.status, .bool c.over, .bool c.cut]]
structure CmAt (w : World) (BB j BL sp : Nat) (va : Value) (m : Mk) (cs : List Cmd) : Prop where
  box : w.heap[BB]? = some (.cells #[.pointer (some ⟨j, 0, none⟩)] 27 (0, 0))
  j : w.heap[j]? = some (jbox BL va sp m)
  row : RowC w va cs
def CmR (BB j : Nat) (va : Value) (k : Nat) : Prop := k = BB ∨ k = j ∨ blk va k
theorem CmAt.keeps {R : Nat → Prop} {w w' : World} {BB j BL sp : Nat} {va : Value} {m : Mk} {cs : List Cmd} (h : CmAt w BB j BL sp va m cs) (k : Keeps R w w') (hR : ∀ i, CmR BB j va i → R i) : CmAt w' BB j BL sp va m cs :=
  ⟨k.heap h.box (hR _ (.inl rfl)), k.heap h.j (hR _ (.inr (.inl rfl))), own_of_heap h.row (fun g hg => k.2 g (own_lt h.row g hg) (hR _ (.inr (.inr hg))))⟩
set_option maxHeartbeats 8000000 in
theorem jall_iter (w : World) (BB j BL sp : Nat) (va : Value) (m : Mk) (cs : List Cmd) (h : CmAt w BB j BL sp va m cs) (hl : cs.length ≤ 1000) :
    Iter Tryz.prog 78 #[.pointer (some ⟨BB, 0, none⟩)] cmdE (CmR BB j va) cs w := by
  intro y J Jx X W hW hX hJ hJx hY h0
  have HC := Lw.hid (h.keeps hW (fun k h => h))
  have HY := Lw.hid hY; have HJ := Lw.hid hJ; have HJX := Lw.hid hJx; have H0 := Lw.hid h0; have HX := Lw.hid hX
  have b0 := heap_cell HC.out.box 0
  have j1 := heap_cell HC.out.j 1
  clear hY hJ hJx h0 hW hX h
  refine (callsIn_wide (n := 0)).1 (callsIn_of_wp Tryz.func78 rfl trivial ?_)
  simp only [Tryz.ntmps78, List.size_toArray, List.length_cons, List.length_nil, Nat.reduceAdd, Nat.reduceSub, Array.replicate_succ, Array.replicate_zero, List.push_toArray, List.append_toArray, List.nil_append, List.cons_append]
  gi_wp2_with fail
  refine ⟨trivial, rfl, (callsIn_wide.2 (jnone_any W j BL sp va m HC.out.j)).mono ?_⟩
  rintro e _ ⟨rfl, rfl⟩
  gi_wp2_with fail
  refine ⟨trivial, rfl, (callsIn_wide.2 (cclone_any W va cs HC.out.row hl)).mono ?_⟩
  rintro e W1 ⟨vc, rfl, hrc, hfc, k1⟩
  obtain ⟨n, hn⟩ : ∃ n, cs.length = n := ⟨_, rfl⟩
  have HN := Lw.hid hn
  have hrc' := hrc
  unfold RowC at hrc'
  rw [hn] at hrc' hl
  obtain ⟨ad, cap, rfl, hc1, hc2, hc3⟩ := own_slice hrc'
  have HR1 := Lw.hid hrc'; have HF1 := Lw.hid hfc; have K1 := Lw.hid k1; have HC3 := Lw.hid hc3
  obtain ⟨X2, hX2⟩ : ∃ X2 : Nat → Prop, X2 = fun k => X k ∨ blk (.slice ad n cap) k := ⟨_, rfl⟩
  have HX2 := Lw.hid hX2
  have HJ1 : Hid (J X2 [] W1) := Lw.hid (HJ.out X X2 [] W W1 H0.out (k1.mono (fun _ _ h => h.elim)) (fun k hk => by
    rw [hX2] at hk
    exact hk.imp (fun h => h) (fun h => ⟨hfc k h, own_lt hrc' k h⟩)))
  have HXB : Hid (∀ k, X2 k → k < W1.heap.size) := Lw.hid (fun k hk => by
    rw [hX2] at hk
    rcases hk with h | h
    · exact Nat.lt_of_lt_of_le (HX.out k h) k1.size
    · exact own_lt hrc' k h)
  unfold maxLen at hc2
  clear hrc hfc k1 hn hrc' hc3 hX2
  gi_wp2_with fail
  gi_loopg [13] n (fun gk s8 wr => ∃ k : Nat, gk = n - k ∧ k ≤ n ∧ s8 = .int .i64 (k : Int) ∧ J X2 (cs.take k) wr ∧ Keeps (fun i => CmR BB j va i ∨ X2 i) W1 wr ∧ (∀ i, X2 i → i < wr.heap.size))
  case atStart => exact ⟨0, rfl, Nat.zero_le _, rfl, HJ1.out, Keeps.refl _ _, HXB.out⟩
  case round =>
    obtain ⟨k, rfl, hk, rfl, hjs, hkp, hXr⟩ := hrel
    have HJS := Lw.hid hjs; have HKP := Lw.hid hkp; have HXR := Lw.hid hXr
    have HRr : Hid (wr.ownsRow 0 54 8 (.slice ad n cap) n (cs.flatMap Cmd.cells)) := Lw.hid (own_of_heap HR1.out (fun g hg => hkp.2 g (own_lt HR1.out g hg) (.inr (by rw [HX2.out]; exact .inr hg))))
    clear hjs hkp hXr b0 j1
    by_cases hlt : k < n
    · have hkc : k < cs.length := by rw [HN.out]; exact hlt
      obtain ⟨g, rfl⟩ := HC3.out (by omega)
      obtain ⟨c, hc⟩ : ∃ c, cs[k] = c := ⟨_, rfl⟩
      have HCC := Lw.hid hc
      have q : ∀ i, i < 8 → wr.cell? ⟨g, k * 8 + i, none⟩ = c.cells[i]? := fun i hi => by
        rw [HRr.out.cellAt _ (by omega), cc_get cs k hkc i hi, hc]
      have q0 := q 0 (by decide); have q1 := q 1 (by decide); have q2 := q 2 (by decide); have q3 := q 3 (by decide); have q4 := q 4 (by decide); have q5 := q 5 (by decide); have q6 := q 6 (by decide); have q7 := q 7 (by decide)
      simp only [Cmd.cells, List.getElem?_cons_zero, List.getElem?_cons_succ, Nat.add_zero] at q0 q1 q2 q3 q4 q5 q6 q7
      have i0 : (0 : Int) ≤ (k : Int) := by omega
      have i1 : (k : Int) < (n : Int) := by omega
      have hkn : k + 1 ≤ n := hlt
      have HTK : Hid (cs.take (k + 1) = cs.take k ++ [c]) := Lw.hid (by rw [take_snoc cs k hkc, hc])
      clear hc q
      gi_wp2_with fail
      obtain ⟨w6, hw6⟩ : ∃ w6, wr.alloc (.cells #[.int .u32 (c.id : Int), .string (BA c.text), .string (BA c.out), .string (BA c.err), .int .i64 c.sig, .int .i64 c.status, .bool c.over, .bool c.cut] 54) = w6 := ⟨_, rfl⟩
      have K6 : Hid (Kept (fun _ => False) wr w6) := Lw.hid (by rw [← hw6]; exact (Kept.refl _ wr).alloc _)
      have HJ6 := Lw.hid (HJ.out X2 X2 _ _ _ HJS.out (K6.out.mono (fun i _ e => e.elim)) (fun _ h => .inl h))
      have HX6 : Hid (∀ i, X2 i → i < w6.heap.size) := Lw.hid (fun i hi => Nat.lt_of_lt_of_le (HXR.out i hi) K6.out.size)
      have HKP6 : Hid (Keeps (fun i => CmR BB j va i ∨ X2 i) W1 w6) := Lw.hid (HKP.out.trans (K6.out.keeps (fun i _ _ e => e)))
      rw [hw6]
      clear hw6 q0 q1 q2 q3 q4 q5 q6 q7
      obtain ⟨fn, tmps, assign, body, hy, hR⟩ := HY.out X2 (cs.take k) c w6 HJ6.out HX6.out (by rw [← HTK.out]; exact List.take_prefix _ _)
      dsimp only [cmdE] at hy
      gi_wp2_with fail
      rw [hy]
      refine ⟨fun h => (by cases h), (roundAny hR).mono ?_⟩
      rintro e W3 (⟨rfl, hj3, hk3⟩ | ⟨rfl, hx3, hk3⟩)
      · have HJ3 := Lw.hid hj3; have HK3 := Lw.hid hk3
        clear hj3 hk3
        gi_wp2_with fail
        gi_roundg (n - (k + 1))
        case measure => omega
        case rel => exact ⟨k + 1, rfl, hkn, by go_num, by rw [HTK.out]; exact HJ3.out, HKP6.out.trans HK3.out, fun i hi => Nat.lt_of_lt_of_le (HX6.out i hi) HK3.out.1⟩
      · gi_wp2_with fail
        refine bodyPost_ret (results_none rfl _ _ _) rfl ?_
        exact ⟨⟨_, rfl⟩, .inr ⟨X2, _, fun i hi => Nat.lt_of_lt_of_le (HX6.out i hi) hk3.1, fun _ h => by rw [HX2.out]; exact .inl h, by rw [← HTK.out]; exact List.take_prefix _ _, by simp, hx3⟩⟩
    · obtain rfl : k = n := by omega
      gi_wp2_with fail
      go_end0
      refine ⟨⟨_, rfl⟩, .inl ⟨X2, HXR.out, fun _ h => by rw [HX2.out]; exact .inl h, ?_⟩⟩
      have := HJS.out
      rwa [List.take_of_length_le (by rw [HN.out]; exact Nat.le_refl _)] at this
theorem jall_any (w : World) (p : Option Addr) :
    Calls Tryz.prog 35 #[.pointer p] w fun x w' => ∃ BB, x = .returned (.func (.func 78) #[] #[.pointer (some ⟨BB, 0, none⟩)]) ∧ w'.heap[BB]? = some (.cells #[.pointer p] 27 (0, 0)) ∧ Kept (fun _ => False) w w' ∧ w.heap.size ≤ BB := by
  go_enter Tryz.func35, Tryz.ntmps35
  go_wp2_with fail
  go_ret
  exact ⟨w.heap.size, rfl, heap_alloc _ _, (Kept.refl _ w).alloc _, Nat.le_refl _⟩
theorem safe_any (w : World) (f : Nat) (pre lb : Array Value) :
    Calls Tryz.prog 34 #[.func (.func f) pre lb] w fun x w' => x = .returned (.func (.func f) pre lb) ∧ w' = w := by
  have he := run_func_nil (P := Tryz.prog) w 81 (.func f) pre lb Tryz.underlying81
  go_enter Tryz.func34, Tryz.ntmps34
  go_wp2_with fail
  go_ret
  exact ⟨rfl, rfl⟩
structure CwAt (w0 : World) (C : Nat) (X : Nat → Prop) (xs : List Cmd) (V : World) : Prop where
  k : Kept (fun k => k = C) w0 V
  lo : C < w0.heap.size
  x : ∀ k, X k → w0.heap.size ≤ k
  out : ∃ v, V.heap[C]? = some (.cells #[v] 34 (0, 0)) ∧ RowC V v xs ∧ ∀ k, blk v k → w0.heap.size ≤ k ∧ ¬ X k ∧ k < V.heap.size
theorem CwAt.ab {w0 A A' : World} {C : Nat} {X X' : Nat → Prop} {xs : List Cmd} (h : CwAt w0 C X xs A) (hk : Kept X A A') (hx : ∀ k, X' k → X k ∨ (A.heap.size ≤ k ∧ k < A'.heap.size)) : CwAt w0 C X' xs A' := by
  obtain ⟨v, h1, h2, h3⟩ := h.out
  have hl := h.lo; have hz := h.k.size
  have hxx := h.x
  refine ⟨h.k.trans hk (fun i hi hX => by have := hxx i hX; omega), hl, fun k hk' => ?_, v, hk.heap h1 (fun hX => by have := hxx _ hX; omega), own_kept hk h2 (fun k hb hX => (h3 k hb).2.1 hX), fun k hb => ⟨(h3 k hb).1, fun hX => ?_, Nat.lt_of_lt_of_le (h3 k hb).2.2 hk.size⟩⟩
  · rcases hx k hk' with h4 | h4
    · exact hxx k h4
    · omega
  · rcases hx k hX with h4 | h4
    · exact (h3 k hb).2.1 h4
    · have := (h3 k hb).2.2; omega
theorem CwAt.add {w0 V V1 w5 : World} {C : Nat} {X : Nat → Prop} {xs : List Cmd} {c : Cmd} {v v' : Value} (h : CwAt w0 C X xs V) (hX : ∀ k, X k → k < V.heap.size)
    (h1 : V.heap[C]? = some (.cells #[v] 34 (0, 0))) (h3 : ∀ k, blk v k → w0.heap.size ≤ k ∧ ¬ X k ∧ k < V.heap.size) (k1 : Kept (fun _ => False) V V1)
    (ho : RowC w5 v' (xs ++ [c])) (hg : V1.grownBy w5 v.ownBlock) (hf : Fresh V1 v v') :
    w5.heap[C]? = some (.cells #[v] 34 (0, 0)) ∧ CwAt w0 C X (xs ++ [c]) (w5.setCell ⟨C, 0, none⟩ v') ∧ (∀ R : Nat → Prop, (∀ k, R k → k < w0.heap.size ∧ k ≠ C) → Keeps (fun k => R k ∨ X k) V (w5.setCell ⟨C, 0, none⟩ v')) := by
  have hl := h.lo; have hz := h.k.size; have hxx := h.x
  have k2 : Kept (blk v) V w5 := (k1.mono (fun _ _ h => h.elim)).grown hg (fun k e _ => e)
  have hC : ¬ blk v C := fun e => by have := (h3 C e).1; omega
  have g1 := k2.heap h1 hC
  have ks : Kept (fun k => k = C) w5 (w5.setCell ⟨C, 0, none⟩ v') := (Kept.refl (fun k => k = C) w5).set C 0 (fun _ => rfl) _
  have k3 : Kept (fun k => blk v k ∨ k = C) V (w5.setCell ⟨C, 0, none⟩ v') := (k2.mono (fun _ _ h => .inl h)).trans ks (fun _ _ h => .inr h)
  have hv' : ∀ k, blk v' k → w0.heap.size ≤ k ∧ ¬ X k ∧ k < w5.heap.size := fun k hk => by
    have hlt := own_lt ho k hk
    rcases hf k hk with h4 | h4
    · exact ⟨(h3 k h4).1, (h3 k h4).2.1, hlt⟩
    · have := k1.size
      exact ⟨by omega, fun hx => by have := hX k hx; omega, hlt⟩
  refine ⟨g1, ⟨h.k.trans k3 (fun i hi hS => ?_), hl, hxx, v', heap_set g1 0 v', own_kept ks ho (fun k hk e => by have := (hv' k hk).1; omega), fun k hk => ⟨(hv' k hk).1, (hv' k hk).2.1, Nat.lt_of_lt_of_le (hv' k hk).2.2 ks.size⟩⟩, fun R hR => k3.keeps (fun k hk hr hs => ?_)⟩
  · rcases hS with e | e
    · have := (h3 i e).1; omega
    · exact e
  · rcases hr with h4 | h4
    · have := hR k h4
      rcases hs with h5 | h5
      · have := (h3 k h5).1; omega
      · exact this.2 h5
    · rcases hs with h5 | h5
      · exact (h3 k h5).2.1 h4
      · have := hxx k h4; omega
set_option maxHeartbeats 8000000 in
theorem commands_any (w : World) (F : Nat → Prop) (j BL sp : Nat) (va : Value) (J : Jr) (h : JAt w F j BL va sp J) (hl : J.cs.length ≤ 1000) :
    Calls Tryz.prog 8 #[.pointer (some ⟨j, 0, none⟩)] w fun e w' => ∃ v, e = .returned v ∧ RowC w' v J.cs ∧ (∀ k, blk v k → w.heap.size ≤ k) ∧ Kept (fun _ => False) w w' := by
  have H := Lw.hid h
  have hjl := heap_lt h.box; have hvl := own_lt h.row
  have HVL := Lw.hid hvl
  clear h hvl
  refine calls_of_wp_marks Tryz.func8 rfl ?_
  simp only [Tryz.ntmps8, List.size_toArray, List.length_cons, List.length_nil, Nat.reduceAdd, Nat.reduceSub, Array.replicate_succ, Array.replicate_zero, List.push_toArray, List.append_toArray, List.nil_append, List.cons_append]
  go_wp2_with fail
  obtain ⟨wa, hwa⟩ : ∃ wa, w.alloc (.cells #[.slice none 0 0] 34) = wa := ⟨_, rfl⟩
  obtain ⟨C, hC⟩ : ∃ C, w.heap.size = C := ⟨_, rfl⟩
  have KA : Hid (Kept (fun _ => False) w wa) := Lw.hid (by rw [← hwa]; exact (Kept.refl _ w).alloc _)
  have hca : wa.heap[C]? = some (.cells #[.slice none 0 0] 34 (0, 0)) := by rw [← hwa, ← hC]; exact heap_alloc w _
  rw [hwa, hC]
  have HC := Lw.hid hC
  clear hwa hC
  refine (jall_any wa _).mono ?_
  rintro e wb ⟨BB, rfl, hbb, kb, hlb⟩
  have HBB := Lw.hid hbb; have KB := Lw.hid (KA.out.trans kb (fun _ _ h => h)); have HCB := Lw.hid (kb.heap hca (fun h => h))
  have hlca := heap_lt hca; have hlbb := heap_lt hbb; have hszb := kb.size
  clear hbb kb hca
  go_wp2_with fail
  refine (safe_any wb _ _ _).mono ?_
  rintro e w0 ⟨rfl, rfl⟩
  have HJ := H.out.kept KB.out (fun _ _ h => h)
  have HIT : Hid (Iter Tryz.prog 78 #[.pointer (some ⟨BB, 0, none⟩)] cmdE (CmR BB j va) J.cs w0) := Lw.hid (jall_iter w0 BB j BL sp va J.mark J.cs ⟨HBB.out, HJ.box, HJ.row⟩ hl)
  have HRB : Hid (∀ k, CmR BB j va k → k < w0.heap.size ∧ k ≠ C) := Lw.hid (fun k hk => by
    have := HC.out
    rcases hk with e | e | e
    · omega
    · have := KB.out.size; omega
    · have := HVL.out k e; have := KB.out.size; omega)
  clear HJ
  go_wp2_with fail
  refine wp_nm (fun ac hac => ?_)
  refine wp_range (gf := 78) (lb := #[.pointer (some ⟨BB, 0, none⟩)]) (by rw [hac.out]; rfl) (Go.Proofs.enters_of Tryz.func78 (by kernel_rfl) rfl) HIT.out (fun k h => (HRB.out k h).1) (fun _ => rfl)
    (fun X pre V => CwAt w0 C X pre V ∧ pre.length ≤ J.cs.length)
    (fun c X pre V => False)
    ?_ ?_ ?_ (fun X q V => ∃ kf, (V.heap[kf]? = some (.cells #[.int .u32 (q.2.1.id : Int), .string (BA q.2.1.text), .string (BA q.2.1.out), .string (BA q.2.1.err), .int .i64 q.2.1.sig, .int .i64 q.2.1.status, .bool q.2.1.over, .bool q.2.1.cut] 54 (0, 0)) ∧ ¬ X kf ∧ kf < V.heap.size) ∧ q.2.2 = { tmps := (ac.tmps.setIfInBounds 8 (.agg #[.int .u32 (q.2.1.id : Int), .string (BA q.2.1.text), .string (BA q.2.1.out), .string (BA q.2.1.err), .int .i64 q.2.1.sig, .int .i64 q.2.1.status, .bool q.2.1.over, .bool q.2.1.cut])).setIfInBounds 4 (.pointer (some ⟨kf, 0, none⟩)), defers := [] }) ?_ ?assign ?body ?done ?stop
  · rintro X X' s V V' ⟨h1, h2⟩ hk hx
    exact ⟨h1.ab hk hx, h2⟩
  · rintro c X X' s V V' h hk hx
    exact h
  · exact ⟨⟨Kept.refl _ _, by omega, fun _ h => h.elim, _, HCB.out, World.ownsRow_nil _ _ _ _, fun k h => (blk_none h).elim⟩, Nat.zero_le _⟩
  · rintro X X' q V V' ⟨kf, ⟨h1, h2, h3⟩, h4⟩ hk hx
    exact ⟨kf, ⟨hk.heap h1 h2, fun hX => by
      rcases hx kf hX with h | h
      · exact h2 h
      · omega, Nat.lt_of_lt_of_le h3 hk.size⟩, h4⟩
  case assign =>
    rintro y X pre x V K hi hXb hpx hsz hK
    have hac' := hac.out
    rw [hac'] at hK ⊢
    have HI := Lw.hid hi; have HXB := Lw.hid hXb
    clear hi hXb
    gi_wp2
    have k1 : Kept (fun _ => False) V (V.alloc (.cells #[.int .u32 (x.id : Int), .string (BA x.text), .string (BA x.out), .string (BA x.err), .int .i64 x.sig, .int .i64 x.status, .bool x.over, .bool x.cut] 54)) := (Kept.refl _ V).alloc _
    refine hK _ _ (k1.keeps (fun _ _ _ h => h)) ⟨HI.out.1.ab (k1.mono (fun _ _ h => h.elim)) (fun _ h => .inl h), HI.out.2⟩ ⟨V.heap.size, ⟨heap_alloc V _, fun h => by have := (HXB.out _ h).2; omega, by simp⟩, rfl⟩
  case body =>
    rintro y X pre x a' V ⟨h1, h2⟩ ⟨kf, ⟨hb1, hb2, hb3⟩, hax⟩ hXb hpx hsz
    dsimp only at hax hb1
    subst hax
    rw [hac.out]
    simp only [List.setIfInBounds_toArray, List.set_cons_zero, List.set_cons_succ]
    obtain ⟨v, hv1, hv2, hv3⟩ := h1.out
    have hpl : pre.length + 1 ≤ J.cs.length := by have := hpx.length_le; simpa using this
    obtain ⟨n, hn⟩ : ∃ n, pre.length = n := ⟨_, rfl⟩
    have hv2' := hv2
    unfold RowC at hv2'
    rw [hn] at hv2' hpl
    obtain ⟨ad, cap, rfl, hc1, hc2, _⟩ := own_slice hv2'
    have H1 := Lw.hid h1; have HV1 := Lw.hid hv1; have HV2 := Lw.hid hv2'; have HV3 := Lw.hid hv3; have HXB := Lw.hid hXb; have HN := Lw.hid hn
    have o0 := heap_cell hv1 0; have f0 := heap_free hv1 0
    have q0 := heap_cell hb1 0; have q1 := heap_cell hb1 1; have q2 := heap_cell hb1 2; have q3 := heap_cell hb1 3; have q4 := heap_cell hb1 4; have q5 := heap_cell hb1 5; have q6 := heap_cell hb1 6; have q7 := heap_cell hb1 7
    unfold maxLen at hc2
    have e1 : Hid ((V.alloc (.cells #[.int .u32 (x.id : Int), .string (BA x.text), .string (BA x.out), .string (BA x.err), .int .i64 x.sig, .int .i64 x.status, .bool x.over, .bool x.cut] 54)).ownsRow 0 54 8 (.slice ad n cap) n (pre.flatMap Cmd.cells)) := Lw.hid (own_kept ((Kept.refl (fun _ => False) V).alloc _) HV2.out (fun _ _ h => h))
    have RL : Hid (Rd (V.alloc (.cells #[.int .u32 (x.id : Int), .string (BA x.text), .string (BA x.out), .string (BA x.err), .int .i64 x.sig, .int .i64 x.status, .bool x.over, .bool x.cut] 54)) 8 (.slice (some ⟨V.heap.size, 0, none⟩) 1 1) 1 x.cells) := Lw.hid (Rd.lit V x.cells 54 8 V.heap.size 1 rfl rfl (by decide))
    clear h1 hv1 hv2 hv2' hv3 hXb hn h2 hb1 hac
    gi_wp2_with (gi_at_builtin; refine wpListIn_app rfl _ _ _ rfl EC _ n _ rfl e1.out _ 1 _ rfl RL.out (oneC x) (by unfold maxLen; omega) (by omega) ?_; intro ad' cap' w5 ho hg hf; obtain ⟨g1, hfi, hke⟩ := H1.out.add (fun k h => (HXB.out k h).2) HV1.out HV3.out ((Kept.refl _ V).alloc _) (by unfold RowC; rw [List.length_append, HN.out, List.flatMap_append]; simpa using ho) hg hf; have HFI := Lw.hid hfi; have HKE := Lw.hid hke; have o5 := heap_cell g1 0; have f5 := heap_free g1 0; clear ho hg hf hfi hke g1)
    exact ⟨HKE.out _ HRB.out, HFI.out, by simp; have := HN.out; omega⟩
  case done =>
    rintro X D V hD hXD hXb ⟨h1, h2⟩ hdf
    rw [hac.out]
    obtain ⟨v, hv1, hv2, hv3⟩ := h1.out
    obtain ⟨n, hn⟩ : ∃ n, J.cs.length = n := ⟨_, rfl⟩
    have hv2' := hv2
    unfold RowC at hv2'
    rw [hn] at hv2'
    obtain ⟨ad, cap, rfl, hc1, hc2, _⟩ := own_slice hv2'
    have o0 := heap_cell hv1 0
    have H1 := Lw.hid h1; have HV2 := Lw.hid hv2; have HV3 := Lw.hid hv3; have HDF := Lw.hid hdf
    clear hv1 hv2 hv2' hv3 h1 hdf hn
    go_wp2_with fail
    refine leaves_marks [D] V (by simp) (fun r hr => by rw [List.mem_singleton.1 hr]; exact HDF.out) (fun V' hk => ⟨_, results_tmp rfl _ _ _, _, rfl, ?_, fun k hk' => ?_, ?_⟩)
    · exact own_kept hk HV2.out (fun k hb hd => (HV3.out k hb).2.1 (by rw [List.mem_singleton.1 hd]; exact hXD))
    · have := (HV3.out k hk').1; have := KB.out.size; omega
    · exact (KB.out.trans H1.out.k (fun i hi e => by have := HC.out; omega)).trans hk (fun i hi e => by rw [List.mem_singleton.1 e] at hi; have := KB.out.size; omega)
  case stop =>
    rintro X c pre D V hD hXD hXb hpre hne h hdf
    exact h.elim
end Go.Proofs.YtgegjjnfcnalfaaGreatDoor
