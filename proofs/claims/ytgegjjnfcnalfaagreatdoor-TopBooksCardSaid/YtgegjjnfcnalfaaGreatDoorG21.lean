/- Of the proof of TopBooks: StD, StE, StF. -/
import Derived.Test.YtgegjjnfcnalfaaGreatDoorG19
import Derived.Test.YtgegjjnfcnalfaaGreatDoorG20
import Derived.Sort.MapsRangeIn
namespace Go.Proofs.YtgegjjnfcnalfaaGreatDoor
open Go Go.RowKit Go.Lw
set_option maxRecDepth 100000
set_option linter.unusedVariables false
set_option linter.unusedSimpArgs false
attribute [local go_sem] Oper.semAt_some
abbrev bS (s : List UInt8) : Value := .string (BA s)
theorem ES : ElemT Tryz.prog 92 9 1 16 := ElemT.of (z := .string ⟨#[]⟩) Tryz.underlying92 (by kernel_rfl) rfl (by decide)
theorem bS_one (s : List UInt8) : ∀ u ∈ [bS s], u.oneCell' = true := by
  intro u hu
  rw [List.mem_singleton.1 hu]
  rfl
abbrev strE (s : List UInt8) : Array Value := #[bS s]
structure ClAt (w : World) (ty el sz : Nat) (X : Nat → Prop) (xs : List Value) (n : Nat) (V : World) : Prop where
  own : Own1 w (w.heap.size + 1) X V
  out : ∃ v, V.heap[w.heap.size]? = some (.cells #[v] ty (0, 0)) ∧ V.ownsRow 0 el sz v n xs ∧ ∀ k, blk v k → w.heap.size + 1 ≤ k ∧ ¬ X k ∧ k < V.heap.size
theorem ClAt.ab {w A A' : World} {ty el sz n : Nat} {X X' : Nat → Prop} {xs : List Value} (h : ClAt w ty el sz X xs n A) (hk : Kept X A A') (hx : ∀ k, X' k → X k ∨ (A.heap.size ≤ k ∧ k < A'.heap.size)) : ClAt w ty el sz X' xs n A' := by
  obtain ⟨v, h1, h2, h3⟩ := h.out
  exact ⟨h.own.ab hk hx, v, h.own.heap hk h1 (by omega), own_kept hk h2 (fun k hb hX => (h3 k hb).2.1 hX), fun k hb => ⟨(h3 k hb).1, fun hX => by
    rcases hx k hX with h4 | h4
    · exact (h3 k hb).2.1 h4
    · have := (h3 k hb).2.2; omega, Nat.lt_of_lt_of_le (h3 k hb).2.2 hk.size⟩⟩
theorem ClAt.add {w V w5 : World} {ty el sz n n' : Nat} {X : Nat → Prop} {xs xs' : List Value} {v v' : Value} {ob : Obj} (h : ClAt w ty el sz X xs n V) (hX : ∀ k, X k → k < V.heap.size)
    (h1 : V.heap[w.heap.size]? = some (.cells #[v] ty (0, 0))) (h3 : ∀ k, blk v k → w.heap.size + 1 ≤ k ∧ ¬ X k ∧ k < V.heap.size)
    (ho : w5.ownsRow 0 el sz v' n' xs') (hg : (V.alloc ob).grownBy w5 v.ownBlock) (hf : Fresh (V.alloc ob) v v') :
    w5.heap[w.heap.size]? = some (.cells #[v] ty (0, 0)) ∧ ClAt w ty el sz X xs' n' (w5.setCell ⟨w.heap.size, 0, none⟩ v') ∧ (∀ R : Nat → Prop, (∀ k, R k → k < w.heap.size) → Keeps (fun k => R k ∨ X k) V (w5.setCell ⟨w.heap.size, 0, none⟩ v')) := by
  have hle := h.own.le; have hlt := h.own.lt
  have k1 : Kept (blk v) V w5 := (Kept.refl _ V).alloc ob |>.grown hg (fun k e _ => e)
  have hO : ∀ k, blk v k → k ≠ w.heap.size := fun k hk => by have := (h3 k hk).1; omega
  have g1 := k1.heap h1 (fun hb => hO _ hb rfl)
  have k2 : Kept (fun k => blk v k ∨ k = w.heap.size) V (w5.setCell ⟨w.heap.size, 0, none⟩ v') := (k1.mono (fun _ _ h => .inl h)).set _ _ (fun _ => .inr rfl) _
  have hv' : ∀ k, blk v' k → w.heap.size + 1 ≤ k ∧ ¬ X k ∧ (blk v k ∨ V.heap.size ≤ k) := fun k hk => by
    rcases hf k hk with h4 | h4
    · exact ⟨(h3 k h4).1, (h3 k h4).2.1, .inl h4⟩
    · have h5 : V.heap.size ≤ k := by simp at h4; omega
      exact ⟨by omega, fun hx => by have := hX k hx; omega, .inr h5⟩
  have hown : (w5.setCell ⟨w.heap.size, 0, none⟩ v').ownsRow 0 el sz v' n' xs' := own_kept ((Kept.refl (fun k => k = w.heap.size) w5).set _ _ (fun _ => rfl) _) ho (fun k hb e => by have := (hv' k hb).1; omega)
  refine ⟨g1, ⟨⟨h.own.k.trans k2 (fun i hi hX' => by rcases hX' with h4 | h4; have := (h3 i h4).1; omega; omega), h.own.x, hle, Nat.le_trans hlt k2.size⟩, v', Boxed.set v' g1, hown, fun k hk => ⟨(hv' k hk).1, (hv' k hk).2.1, own_lt hown k hk⟩⟩, fun R hR => k2.keeps (fun k hk hr hs => ?_)⟩
  rcases hr with h4 | h4
  · have := hR k h4
    rcases hs with h5 | h5
    · have := (h3 k h5).1; omega
    · omega
  · rcases hs with h5 | h5
    · exact (h3 k h5).2.1 h4
    · have := h.own.x k h4; omega
set_option maxHeartbeats 4000000 in
theorem aseq_any (w : World) (gf : Nat) (lb : Array Value) (xs : List (List UInt8)) (R : Nat → Prop) (hit : ∀ w', Kept (fun _ => False) w w' → Iter Tryz.prog gf lb strE R xs w') (hR : ∀ k, R k → k < w.heap.size)
    (eg : ∀ args w, (callFunc gf args).run Tryz.prog w = .ok (.enter gf args) w) (hxs : xs.length ≤ 1000) :
    Calls Tryz.prog 115 #[.slice none 0 0, .func (.func gf) #[] lb] w fun x w' => ∃ v, x = .returned v ∧ w'.ownsRow 0 9 1 v xs.length (xs.map bS) ∧ (∀ k, blk v k → w.heap.size ≤ k) ∧ Kept (fun _ => False) w w' := by
  refine calls_of_wp_marks Tryz.func115 rfl ?_
  simp only [Tryz.ntmps115, List.size_toArray, List.length_cons, List.length_nil, Nat.reduceAdd, Nat.reduceSub, Array.replicate_succ, Array.replicate_zero, List.push_toArray, List.append_toArray, List.nil_append, List.cons_append]
  go_wp2_with fail
  have ho : (w.alloc (.cells #[.slice none 0 0] 92)).heap[w.heap.size]? = some (.cells #[.slice none 0 0] 92 (0, 0)) := heap_alloc _ _
  have hk : Kept (fun _ => False) w (w.alloc (.cells #[.slice none 0 0] 92)) := (Kept.refl _ w).alloc _
  have hs : (w.alloc (.cells #[.slice none 0 0] 92)).heap.size = w.heap.size + 1 := by simp
  obtain ⟨wa, hwa⟩ : ∃ wa, w.alloc (.cells #[.slice none 0 0] 92) = wa := ⟨_, rfl⟩
  rw [hwa] at ho hk hs ⊢
  clear hwa
  refine wp_range (gf := gf) (lb := lb) rfl eg (hit wa hk) (fun k h => by have := hR k h; omega) (fun _ => rfl)
    (fun X pre V => ClAt w 92 9 1 X (pre.map bS) pre.length V ∧ pre.length ≤ xs.length)
    (fun c X pre V => False)
    ?_ ?_ ?_ (fun X q V => q.2.2 = { tmps := #[.slice none 0 0, .func (.func gf) #[] lb, .pointer (some ⟨w.heap.size, 0, none⟩), undef, .slice none 0 0, bS q.2.1, .func (.func gf) #[] lb, bS q.2.1, undef, undef, undef, undef, undef], defers := [] })
    (fun _ _ _ _ _ h _ _ => h) ?assign ?body ?done ?stop
  · rintro X X' s V V' ⟨h1, h2⟩ hk hx
    exact ⟨h1.ab hk hx, h2⟩
  · rintro c X X' s V V' h hk hx
    exact h
  · exact ⟨⟨⟨hk, fun k h => h.elim, by omega, by omega⟩, _, ho, World.ownsRow_nil _ _ _ _, fun k h => (blk_none h).elim⟩, Nat.zero_le _⟩
  case assign =>
    rintro y X pre x V K hi _ _ _ hK
    gi_wp2
    exact hK _ _ (Keeps.refl _ _) hi rfl
  case body =>
    rintro y X pre x a' V ⟨h1, h2⟩ hax hX hpx hsz
    dsimp only at hax
    subst hax
    obtain ⟨v, hv1, hv2, hv3⟩ := h1.out
    obtain ⟨ad, cap, rfl, hc1, hc2, _⟩ := own_slice hv2
    have H1 := Lw.hid h1; have HV2 := Lw.hid hv2; have HV3 := Lw.hid hv3; have HV1 := Lw.hid hv1; have HXB := Lw.hid hX
    have o0 := heap_cell hv1 0; have f0 := heap_free hv1 0
    unfold maxLen at hc2
    have hpl : pre.length + 1 ≤ xs.length := by have := hpx.length_le; simpa using this
    have e1 : Hid ((V.alloc (.cells #[bS x] 9)).ownsRow 0 9 1 (.slice ad pre.length cap) pre.length (pre.map bS)) := Lw.hid (own_kept ((Kept.refl (fun _ => False) V).alloc _) HV2.out (fun _ _ h => h))
    obtain ⟨n, hn⟩ : ∃ n, pre.length = n := ⟨_, rfl⟩
    have HN := Lw.hid hn
    rw [hn] at hc1 e1 o0 HV1 HV2 HV3 hpl H1
    clear hv1 hv2 hv3 h1 hX h2 hn
    gi_wp2_with (gi_at_builtin; refine wpListIn_app rfl _ _ _ rfl ES _ n _ rfl e1.out _ 1 _ rfl (Rd.lit V [bS x] 9 1 V.heap.size 1 rfl rfl (by decide)) (bS_one x) (by unfold maxLen; omega) (by omega) ?_; intro ad' cap' w5 ho hg hf; obtain ⟨g1, hfi, hke⟩ := H1.out.add (fun k h => (HXB.out k h).2) HV1.out HV3.out ho hg hf; have HFI := Lw.hid hfi; have HKE := Lw.hid hke; have o5 := heap_cell g1 0; have f5 := heap_free g1 0; clear ho hg hf hfi hke g1)
    refine ⟨HKE.out R hR, ?_, ?_⟩
    · have hn := HN.out
      subst hn
      simpa using HFI.out
    · simp; have := HN.out; omega
  case done =>
    rintro X D V hD hXD hXb ⟨h1, h2⟩ hdf
    obtain ⟨v, hv1, hv2, hv3⟩ := h1.out
    obtain ⟨ad, cap, rfl, hc1, hc2, _⟩ := own_slice hv2
    have o0 := heap_cell hv1 0
    have H1 := Lw.hid h1; have HV2 := Lw.hid hv2; have HV3 := Lw.hid hv3
    clear hv1 hv2 hv3 h1
    go_wp2_with fail
    refine leaves_marks [D] V (by simp) (fun r hr => by rw [List.mem_singleton.1 hr]; exact hdf) (fun V' hk => ⟨_, results_tmp rfl _ _ _, _, rfl, ?_, fun k hk' => by have := (HV3.out k hk').1; omega, H1.out.own.k.trans hk (fun i hi h => by rw [List.mem_singleton.1 h] at hi; omega)⟩)
    exact own_kept hk HV2.out (fun k hb hd => (HV3.out k hb).2.1 (by rw [List.mem_singleton.1 hd]; exact hXD))
  case stop =>
    rintro X c pre D V hD hXD hXb hpre hne h hdf
    exact h.elim
set_option maxHeartbeats 4000000 in
theorem collect_any (w : World) (gf : Nat) (lb : Array Value) (xs : List (List UInt8)) (R : Nat → Prop) (hit : ∀ w', Kept (fun _ => False) w w' → Iter Tryz.prog gf lb strE R xs w') (hR : ∀ k, R k → k < w.heap.size)
    (eg : ∀ args w, (callFunc gf args).run Tryz.prog w = .ok (.enter gf args) w) (hxs : xs.length ≤ 1000) :
    Calls Tryz.prog 101 #[.func (.func gf) #[] lb] w fun x w' => ∃ v, x = .returned v ∧ w'.ownsRow 0 9 1 v xs.length (xs.map bS) ∧ (∀ k, blk v k → w.heap.size ≤ k) ∧ Kept (fun _ => False) w w' := by
  go_enter Tryz.func101, Tryz.ntmps101
  go_wp2_with fail
  refine (aseq_any w gf lb xs R hit hR eg hxs).mono ?_
  rintro e w1 ⟨v, rfl, h1, h2, h3⟩
  have H := Lw.hid (And.intro h1 (And.intro h2 h3))
  clear h1 h2 h3
  go_wp2_with fail
  go_ret
  exact ⟨_, rfl, H.out⟩
def keysO (o : Option (List UInt8)) : List (List UInt8) := if o.isSome then [[118]] else []
theorem KS : Maps.Keyed Tryz.prog 9 := Maps.string_keyed Tryz.underlying9
theorem has_none (kl : Lit) : ¬ Maps.has (dV none) kl = true := by simp [dV, Maps.has]
theorem has_v (t : List UInt8) (kl : Lit) (h : Maps.has (dV (some t)) kl = true) : kl = .string [118] := by
  simp only [dV, Maps.has, List.any_cons, List.any_nil, Bool.or_false] at h
  cases kl <;> simp [Lit.sameKey] at h
  rw [← h]
theorem invS {key : Value} {kl : Lit} (h : keyOf Tryz.prog 9 key = some kl) : ∃ s : List UInt8, key = bS s := by
  obtain ⟨s, rfl, _, _⟩ := WideMaps.string_of_keyOf Tryz.underlying9 h
  exact ⟨s.data.toList, by rw [bS, ← BA_of]⟩
theorem key_v {x : List UInt8} {kl : Lit} (h : keyOf Tryz.prog 9 (bS x) = some kl) (e : kl = .string [118]) : x = [118] := by
  obtain ⟨s, hs, rfl, _⟩ := WideMaps.string_of_keyOf Tryz.underlying9 h
  cases hs
  have e2 : (BA x).data.toList = [118] := by cases e; rfl
  exact e2
theorem ranges_keeps {S : Nat → Prop} {w w' : World} {b r n cnt : Nat} {D : DataW Value} {left : Lit → Bool} (h : w.ranges Tryz.prog 9 RV b r n D left cnt) (hk : Keeps S w w') (hb : S b) (hr : S r) : w'.ranges Tryz.prog 9 RV b r n D left cnt := by
  obtain ⟨es, clock, since, seen, c0, h1, h2, h3, h4, h5, h6⟩ := h
  exact ⟨es, clock, since, seen, c0, hk.heap h1 hb, h2, h3, h4, hk.heap h5 hr, h6⟩
set_option maxHeartbeats 8000000 in
theorem keys2_iter (w : World) (BX m : Nat) (o : Option (List UInt8)) (hb : w.heap[BX]? = some (.cells #[.map (some m)] 89 (0, 0))) (hm : MapAt w m (dV o)) :
    Iter Tryz.prog 103 #[.pointer (some ⟨BX, 0, none⟩)] strE (fun k => k = BX ∨ k = m) (keysO o) w := by
  intro y J Jx X W hW hX hJ hJx hY h0
  have hb' := hW.heap hb (.inl rfl)
  have hm' : MapAt W m (dV o) := by
    obtain ⟨es, clock, h1, h2, h3, h4⟩ := hm
    exact ⟨es, clock, hW.heap h1 (.inr rfl), h2, h3, h4⟩
  have HB := Lw.hid hb'; have HM := Lw.hid hm'
  have HY := Lw.hid hY; have HJ := Lw.hid hJ; have HJX := Lw.hid hJx; have H0 := Lw.hid h0; have HX := Lw.hid hX
  have b0 := heap_cell hb' 0
  have hml := hm'.lt
  clear hY hJ hJx h0 hW hX hb hm hb' hm'
  refine (callsIn_wide (n := 0)).1 (callsIn_of_wp Tryz.func103 rfl trivial ?_)
  simp only [Tryz.ntmps103, List.size_toArray, List.length_cons, List.length_nil, Nat.reduceAdd, Nat.reduceSub, Array.replicate_succ, Array.replicate_zero, List.push_toArray, List.append_toArray, List.nil_append, List.cons_append]
  gi_wp2_with (gi_at_range; refine wpListIn_range_own _ rfl _ _ rfl 9 95 KS Tryz.underlying89 RV m _ (dV o) rfl HM.out ?_; intro W1 hr1 hg1 hz1; have HR1 := Lw.hid hr1; have HG1 := Lw.hid hg1; clear hr1 hg1)
  have K1 : Hid (Kept (fun _ => False) W W1) := Lw.hid ((Kept.refl _ W).grown HG1.out (fun k e _ => by cases e))
  cases o with
  | none =>
    refine wpIn_loop_rounds 1 ?_
    rw [roundsIn_succ]
    gi_wp2_with (gi_at_next; refine wpListIn_next_ranges _ rfl _ rfl 9 KS RV bS (fun v : Value => v) (fun key kl h => invS h) (fun v y _ => ⟨v, rfl⟩) m W.heap.size 1 _ _ _ rfl HR1.out (fun _ _ => ?_) (fun x c kl y w' cnt' hkey hl => absurd hl (has_none kl)))
    refine bodyPost_end (results_none rfl _ _ _) rfl ?_
    exact ⟨⟨_, rfl⟩, .inl ⟨X, fun k hk => Nat.lt_of_lt_of_le (HX.out k hk) K1.out.size, fun k h => h, HJ.out _ _ _ _ _ H0.out (K1.out.mono (fun _ _ h => h.elim)) (fun k h => .inl h)⟩⟩
  | some t =>
    refine wpIn_loop_rounds 2 ?_
    rw [roundsIn_succ]
    gi_wp2_with (gi_at_next; refine wpListIn_next_ranges _ rfl _ rfl 9 KS RV bS (fun v : Value => v) (fun key kl h => invS h) (fun v y _ => ⟨v, rfl⟩) m W.heap.size 1 _ _ _ rfl HR1.out (fun h _ => absurd h (by simp [dV, Maps.size])) ?_; intro x c kl y w' cnt' hkey hl hv hat hrg hlt hg2 hsz hen; have HRG := Lw.hid hrg; have HG2 := Lw.hid hg2; have HKL := Lw.hid (has_v t kl hl); obtain rfl := key_v hkey HKL.out; clear hkey hl hv hat hrg hg2)
    have K2 : Hid (Kept (fun _ => False) W w') := Lw.hid (K1.out.grown HG2.out (fun k e hk => by cases e; omega))
    have HXZ : Hid (∀ k, (X k ∨ k = W.heap.size) → k < w'.heap.size) := Lw.hid (fun k hk => by
      have h1 := HX.out k
      rcases hk with h | h
      · have := h1 h; omega
      · omega)
    have HJ2 := Lw.hid (HJ.out X (fun k => X k ∨ k = W.heap.size) [] W w' H0.out (K2.out.mono (fun _ _ h => h.elim)) (fun k hk => hk.imp id (fun e => by omega)))
    obtain ⟨fn, tmps, assign, body, hyy, hRR⟩ := HY.out (fun k => X k ∨ k = W.heap.size) [] [118] w' HJ2.out HXZ.out (List.prefix_refl _)
    dsimp only [strE] at hyy
    gi_wp2_with fail
    rw [hyy]
    refine ⟨fun h => (by cases h), (roundAny hRR).mono ?_⟩
    rintro e W3 (⟨rfl, hj3, hk3⟩ | ⟨rfl, hx3, hk3⟩)
    · have HJ3 := Lw.hid hj3; have HK3 := Lw.hid hk3
      have HR3 := Lw.hid (ranges_keeps HRG.out hk3 (.inl (.inr rfl)) (.inr (.inr rfl)))
      clear hj3 hk3
      gi_wp2_with fail
      rw [roundsIn_succ]
      gi_wp2_with (gi_at_next; refine wpListIn_next_ranges _ rfl _ rfl 9 KS RV bS (fun v : Value => v) (fun key kl h => invS h) (fun v y _ => ⟨v, rfl⟩) m W.heap.size 1 _ _ _ rfl HR3.out (fun _ _ => ?_) (fun x c kl2 y w' cnt' hkey hl => absurd hl (by
        intro h
        rw [Bool.and_eq_true] at h
        have h2 := has_v t kl2 h.1
        have h3 := h.2
        rw [h2, HKL.out] at h3
        simp [Lit.sameKey] at h3)))
      refine bodyPost_end (results_none rfl _ _ _) rfl ?_
      exact ⟨⟨_, rfl⟩, .inl ⟨fun k => X k ∨ k = W.heap.size, fun i hi => Nat.lt_of_lt_of_le (HXZ.out i hi) HK3.out.1, fun _ h => .inl h, HJ3.out⟩⟩
    · gi_wp2_with fail
      refine bodyPost_ret (results_none rfl _ _ _) rfl ?_
      exact ⟨⟨_, rfl⟩, .inr ⟨fun k => X k ∨ k = W.heap.size, _, fun i hi => Nat.lt_of_lt_of_le (HXZ.out i hi) hk3.1, fun _ h => .inl h, List.prefix_refl _, by simp [keysO], hx3⟩⟩
end Go.Proofs.YtgegjjnfcnalfaaGreatDoor
namespace Go.Proofs.YtgegjjnfcnalfaaGreatDoor
open Go Go.RowKit Go.Lw
set_option maxRecDepth 100000
set_option linter.unusedVariables false
set_option linter.unusedSimpArgs false
set_option maxHeartbeats 4000000 in
theorem isort1_any (w : World) (v : Value) : Calls Tryz.prog 127 #[v, .int .i64 0, .int .i64 1] w fun e w' => e = .returned (.tuple #[]) ∧ w = w' := by
  go_enter Tryz.func127, Tryz.ntmps127
  go_wp2_with fail
  refine wp_loop_rounds 1 ?_
  rw [rounds_succ]
  go_wp2_with fail
  refine bodyPost_end (results_none rfl _ _ _) rfl ?_
  exact ⟨rfl, rfl⟩
set_option maxHeartbeats 4000000 in
theorem pdq1_any (w : World) (v : Value) (k : Int) : Calls Tryz.prog 116 #[v, .int .i64 0, .int .i64 1, .int .i64 k] w fun e w' => e = .returned (.tuple #[]) ∧ w = w' := by
  go_enter Tryz.func116, Tryz.ntmps116
  go_wp2_with fail
  refine wp_loop_rounds 1 ?_
  rw [rounds_succ]
  go_wp2_with fail
  refine (isort1_any w v).mono ?_
  rintro e _ ⟨rfl, rfl⟩
  go_wp2_with fail
  refine bodyPost_ret (results_none rfl _ _ _) rfl ?_
  exact ⟨rfl, rfl⟩
set_option maxHeartbeats 4000000 in
theorem sort1_any (w : World) (ad : Option Addr) (cap : Nat) : Calls Tryz.prog 102 #[.slice ad 1 cap] w fun e w' => e = .returned (.tuple #[]) ∧ w = w' := by
  go_enter Tryz.func102, Tryz.ntmps102
  go_wp2_with fail
  refine (Tryz.bits_Len 1 w (by decide) (by decide)).mono ?_
  rintro e _ ⟨rfl, rfl⟩
  go_wp2_with fail
  refine (pdq1_any _ _ _).mono ?_
  rintro e _ ⟨rfl, rfl⟩
  go_wp2_with fail
  refine bodyPost_end (results_none rfl _ _ _) rfl ?_
  exact ⟨rfl, rfl⟩
theorem sortF_any (w : World) (ad : Option Addr) (n cap : Nat) (hn : n ≤ 1) : Calls Tryz.prog 102 #[.slice ad n cap] w fun e w' => e = .returned (.tuple #[]) ∧ w = w' := by
  rcases Nat.lt_or_ge n 1 with h | h
  · obtain rfl : n = 0 := by omega
    exact (Tryz.slices_Sort_string_none ad cap w).mono (fun e w' ⟨h1, h2⟩ => ⟨h1, h2.symm⟩)
  · obtain rfl : n = 1 := by omega
    exact sort1_any w ad cap
set_option maxHeartbeats 4000000 in
theorem sorted_any (w : World) (gf : Nat) (lb : Array Value) (xs : List (List UInt8)) (R : Nat → Prop) (hit : ∀ w', Kept (fun _ => False) w w' → Iter Tryz.prog gf lb strE R xs w') (hR : ∀ k, R k → k < w.heap.size)
    (eg : ∀ args w, (callFunc gf args).run Tryz.prog w = .ok (.enter gf args) w) (hxs : xs.length ≤ 1) :
    Calls Tryz.prog 81 #[.func (.func gf) #[] lb] w fun x w' => ∃ v, x = .returned v ∧ w'.ownsRow 0 9 1 v xs.length (xs.map bS) ∧ (∀ k, blk v k → w.heap.size ≤ k) ∧ Kept (fun _ => False) w w' := by
  go_enter Tryz.func81, Tryz.ntmps81
  go_wp2_with fail
  refine (collect_any w gf lb xs R hit hR eg (by omega)).mono ?_
  rintro e w1 ⟨v, rfl, h1, h2, h3⟩
  obtain ⟨ad, cap, rfl, _, _, _⟩ := own_slice h1
  have H := Lw.hid (And.intro h1 (And.intro h2 h3))
  clear h1 h2 h3
  go_wp2_with fail
  refine (sortF_any w1 ad xs.length cap hxs).mono ?_
  rintro e _ ⟨rfl, rfl⟩
  go_wp2_with fail
  go_ret
  exact ⟨_, rfl, H.out⟩
theorem skeys_any (w : World) (m : Nat) : Calls Tryz.prog 82 #[.map (some m)] w fun e w' => e = .returned (.func (.func 103) #[] #[.pointer (some ⟨w.heap.size, 0, none⟩)]) ∧ w' = w.alloc (.cells #[.map (some m)] 89) := by
  go_enter Tryz.func82, Tryz.ntmps82
  go_wp2_with fail
  go_ret
  exact ⟨rfl, rfl⟩
set_option maxHeartbeats 4000000 in
theorem snames_any (w : World) (F : Nat → Prop) (g : Nat) (st : Int) (o : Option (List UInt8)) (h : StAt w F g st o) : Calls Tryz.prog 40 #[.pointer (some ⟨g, 0, none⟩)] w fun e w' => ∃ v, e = .returned v ∧ w'.ownsRow 0 9 1 v (keysO o).length ((keysO o).map bS) ∧ (∀ k, blk v k → w.heap.size ≤ k) ∧ Kept (fun _ => False) w w' := by
  have H := Lw.hid h
  clear h
  go_enter Tryz.func40, Tryz.ntmps40
  go_wp2_with fail
  refine (snone_any w F g st o H.out).mono ?_
  rintro e _ ⟨rfl, rfl⟩
  obtain ⟨ft, m, h1, h2, h3, h4, h5, h6⟩ := H.out.mem
  have c2 := heap_cell h1 2
  have HM := Lw.hid h3
  clear h1 h2 h3 h4 h5 h6
  go_wp2_with fail
  refine (skeys_any w m).mono ?_
  rintro e _ ⟨rfl, rfl⟩
  obtain ⟨w1, hw1⟩ : ∃ w1, w.alloc (.cells #[.map (some m)] 89) = w1 := ⟨_, rfl⟩
  have hb : w1.heap[w.heap.size]? = some (.cells #[.map (some m)] 89 (0, 0)) := by rw [← hw1]; exact heap_alloc _ _
  have k1 : Kept (fun _ => False) w w1 := by rw [← hw1]; exact (Kept.refl _ w).alloc _
  have hm1 := MapAt.kept HM.out k1 (fun h => h)
  have HK := Lw.hid k1; have HB := Lw.hid hb; have HM1 := Lw.hid hm1
  rw [hw1]
  clear hw1 hb k1 hm1 c2
  go_wp2_with fail
  refine (sorted_any w1 _ _ (keysO o) (fun k => k = w.heap.size ∨ k = m) (fun w' k => keys2_iter w' _ m o (k.heap HB.out (fun h => h)) (MapAt.kept HM1.out k (fun h => h))) (fun k hk => ?_) (Go.Proofs.enters_of Tryz.func103 (by kernel_rfl) rfl) ?_).mono ?_
  · rcases hk with rfl | rfl
    · exact heap_lt HB.out
    · exact HM1.out.lt
  · unfold keysO; split <;> decide
  rintro e w2 ⟨v, rfl, ho, hf, k2⟩
  have HO := Lw.hid ho; have HF := Lw.hid hf; have K2 := Lw.hid k2
  clear ho hf k2
  go_wp2_with fail
  go_ret
  exact ⟨_, rfl, HO.out, fun k hk => Nat.le_trans HK.out.size (HF.out k hk), HK.out.trans K2.out (fun _ _ h => h)⟩
end Go.Proofs.YtgegjjnfcnalfaaGreatDoor
