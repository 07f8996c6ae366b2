/- first: the first so many of what an iterator goes through. -/
import Derived.Test.YtbmfnepbdfnlaaaAgain
namespace Go.Proofs.Ytbmfnepbdfnlaaa
open Go Go.RowKit Go.Lw
set_option maxRecDepth 100000
set_option linter.unusedVariables false
set_option linter.unusedSimpArgs false
attribute [local go_sem] Oper.semAt_some
theorem EU32 : ElemT Try.prog 46 24 1 4 := ElemT.of (z := .int .u32 0) Try.underlying46 (by kernel_rfl) rfl (by decide)
theorem EHv : ElemT Try.prog 23 35 4 16 := ElemT.of (z := .agg #[.int .u32 0, .int .u32 0, .int .u32 0, .bool false]) Try.underlying23 (by kernel_rfl) rfl (by decide)
/-- What first has collected. -/
structure FiAt (w : World) (ty el sz : Nat) (X : Nat → Prop) (xs : List Value) (n most : Nat) (V : World) : Prop where
  own : Own1 w (w.heap.size + 2) X V
  most : V.heap[w.heap.size]? = some (.cells #[.int .i64 (most : Int)] 3 (0, 0))
  out : ∃ v, V.heap[w.heap.size + 1]? = some (.cells #[v] ty (0, 0)) ∧ V.ownsRow 0 el sz v n xs ∧ ∀ k, blk v k → w.heap.size + 2 ≤ k ∧ ¬ X k ∧ k < V.heap.size
theorem FiAt.ab {w A A' : World} {ty el sz n most : Nat} {X X' : Nat → Prop} {xs : List Value} (h : FiAt w ty el sz X xs n most A) (hk : Kept X A A') (hx : ∀ k, X' k → X k ∨ (A.heap.size ≤ k ∧ k < A'.heap.size)) : FiAt w ty el sz X' xs n most A' := by
  obtain ⟨v, h1, h2, h3⟩ := h.out
  exact ⟨h.own.ab hk hx, h.own.heap hk h.most (by omega), v, h.own.heap hk h1 (by omega), own_kept hk h2 (fun k hb hX => (h3 k hb).2.1 hX), fun k hb => ⟨(h3 k hb).1, fun hX => by
    rcases hx k hX with h4 | h4
    · exact (h3 k hb).2.1 h4
    · have := (h3 k hb).2.2; omega, Nat.lt_of_lt_of_le (h3 k hb).2.2 hk.size⟩⟩
theorem FiAt.add {w V w5 : World} {ty el sz n n' most : Nat} {X : Nat → Prop} {xs xs' : List Value} {v v' : Value} {ob : Obj} (h : FiAt w ty el sz X xs n most V) (hX : ∀ k, X k → k < V.heap.size)
    (h1 : V.heap[w.heap.size + 1]? = some (.cells #[v] ty (0, 0))) (h3 : ∀ k, blk v k → w.heap.size + 2 ≤ k ∧ ¬ X k ∧ k < V.heap.size)
    (ho : w5.ownsRow 0 el sz v' n' xs') (hg : (V.alloc ob).grownBy w5 v.ownBlock) (hf : Fresh (V.alloc ob) v v') :
    w5.heap[w.heap.size + 1]? = some (.cells #[v] ty (0, 0)) ∧ FiAt w ty el sz X xs' n' most (w5.setCell ⟨w.heap.size + 1, 0, none⟩ v') ∧ (∀ R : Nat → Prop, (∀ k, R k → k < w.heap.size) → Keeps (fun k => R k ∨ X k) V (w5.setCell ⟨w.heap.size + 1, 0, none⟩ v')) := by
  have hle := h.own.le; have hlt := h.own.lt
  have k1 : Kept (blk v) V w5 := (Kept.refl _ V).alloc ob |>.grown hg (fun k e _ => e)
  have hO : ∀ k, blk v k → k ≠ w.heap.size + 1 := fun k hk => by have := (h3 k hk).1; omega
  have g1 := k1.heap h1 (fun hb => hO _ hb rfl)
  have k2 : Kept (fun k => blk v k ∨ k = w.heap.size + 1) V (w5.setCell ⟨w.heap.size + 1, 0, none⟩ v') := (k1.mono (fun _ _ h => .inl h)).set _ _ (fun _ => .inr rfl) _
  have hv' : ∀ k, blk v' k → w.heap.size + 2 ≤ k ∧ ¬ X k ∧ (blk v k ∨ V.heap.size ≤ k) := fun k hk => by
    rcases hf k hk with h4 | h4
    · exact ⟨(h3 k h4).1, (h3 k h4).2.1, .inl h4⟩
    · have h5 : V.heap.size ≤ k := by simp at h4; omega
      exact ⟨by omega, fun hx => by have := hX k hx; omega, .inr h5⟩
  have hown : (w5.setCell ⟨w.heap.size + 1, 0, none⟩ v').ownsRow 0 el sz v' n' xs' := own_kept ((Kept.refl (fun k => k = w.heap.size + 1) w5).set _ _ (fun _ => rfl) _) ho (fun k hb e => by have := (hv' k hb).1; omega)
  refine ⟨g1, ⟨⟨h.own.k.trans k2 (fun i hi hX' => by rcases hX' with h4 | h4; have := (h3 i h4).1; omega; omega), h.own.x, hle, Nat.le_trans hlt k2.size⟩, k2.heap h.most (fun hb => by rcases hb with h4 | h4; have := (h3 _ h4).1; omega; omega), v', Boxed.set v' g1, hown, fun k hk => ⟨(hv' k hk).1, (hv' k hk).2.1, own_lt hown k hk⟩⟩, fun R hR => k2.keeps (fun k hk hr hs => ?_)⟩
  rcases hr with h4 | h4
  · have := hR k h4
    rcases hs with h5 | h5
    · have := (h3 k h5).1; omega
    · omega
  · rcases hs with h5 | h5
    · exact (h3 k h5).2.1 h4
    · have := h.own.x k h4; omega
set_option maxHeartbeats 4000000 in
theorem first_any (w : World) (gf : Nat) (lb : Array Value) (most : Nat) (xs : List Nat) (R : Nat → Prop) (hit : ∀ w', Kept (fun _ => False) w w' → Iter Try.prog gf lb u32e R xs w') (hR : ∀ k, R k → k < w.heap.size)
    (eg : ∀ args w, (callFunc gf args).run Try.prog w = .ok (.enter gf args) w) (hmost : most ≤ 1000) :
    Calls Try.prog 24 #[.func (.func gf) #[] lb, .int .i64 (most : Int)] w fun x w' => ∃ v, x = .returned v ∧ w'.ownsRow 0 24 1 v (xs.take most).length ((xs.take most).map u32v) ∧ (∀ k, blk v k → w.heap.size ≤ k) ∧ Kept (fun _ => False) w w' := by
  refine calls_of_wp_marks Try.func24 rfl ?_
  simp only [Try.ntmps24, List.size_toArray, List.length_cons, List.length_nil, Nat.reduceAdd, Nat.reduceSub, Array.replicate_succ, Array.replicate_zero, List.push_toArray, List.append_toArray, List.nil_append, List.cons_append]
  go_wp2_with fail
  refine (safe_any _ gf #[] lb).mono ?_
  rintro e w1 ⟨rfl, rfl⟩
  go_wp2_with fail
  have hm : ((w.alloc (.cells #[.int .i64 (most : Int)] 3)).alloc (.cells #[.slice none 0 0] 46)).heap[w.heap.size]? = some (.cells #[.int .i64 (most : Int)] 3 (0, 0)) := heap_alloc_lt (heap_at _ _ rfl)
  have ho : ((w.alloc (.cells #[.int .i64 (most : Int)] 3)).alloc (.cells #[.slice none 0 0] 46)).heap[w.heap.size + 1]? = some (.cells #[.slice none 0 0] 46 (0, 0)) := heap_at _ _ (by simp)
  have hk : Kept (fun _ => False) w ((w.alloc (.cells #[.int .i64 (most : Int)] 3)).alloc (.cells #[.slice none 0 0] 46)) := ((Kept.refl _ w).alloc _).alloc _
  have hs : ((w.alloc (.cells #[.int .i64 (most : Int)] 3)).alloc (.cells #[.slice none 0 0] 46)).heap.size = w.heap.size + 2 := by simp
  obtain ⟨wa, hwa⟩ : ∃ wa, (w.alloc (.cells #[.int .i64 (most : Int)] 3)).alloc (.cells #[.slice none 0 0] 46) = wa := ⟨_, rfl⟩
  rw [hwa] at hm ho hk hs ⊢
  clear hwa
  refine wp_range (gf := gf) (lb := lb) rfl eg (hit wa hk) (fun k h => by have := hR k h; omega) (fun _ => rfl)
    (fun X pre V => FiAt w 46 24 1 X (pre.map u32v) pre.length most V ∧ pre.length ≤ most)
    (fun c X pre V => c = .exit 0 ∧ ∃ pre' x, pre = pre' ++ [x] ∧ FiAt w 46 24 1 X (pre'.map u32v) pre'.length most V ∧ pre'.length = most)
    ?_ ?_ ?_ (fun X q V => q.2.2 = { tmps := #[.func (.func gf) #[] lb, .int .i64 (most : Int), undef, .pointer (some ⟨w.heap.size, 0, none⟩), .slice none 0 0, .pointer (some ⟨w.heap.size + 1, 0, none⟩), u32v q.2.1, .func (.func gf) #[] lb, .func (.func gf) #[] lb, u32v q.2.1, undef, undef, undef, undef, undef, undef, undef, undef, undef], defers := [] })
    (fun _ _ _ _ _ h _ _ => h) ?assign ?body ?done ?stop
  · rintro X X' s V V' ⟨h1, h2⟩ hk hx
    exact ⟨h1.ab hk hx, h2⟩
  · rintro c X X' s V V' ⟨h1, pre', x, h2, h3, h4⟩ hk hx
    exact ⟨h1, pre', x, h2, h3.ab hk hx, h4⟩
  · exact ⟨⟨⟨hk, fun k h => h.elim, by omega, by omega⟩, hm, _, ho, World.ownsRow_nil _ _ _ _, fun k h => (blk_none h).elim⟩, Nat.zero_le _⟩
  case assign =>
    rintro y X pre x V K hi _ _ _ hK
    gi_wp2
    exact hK _ _ (Keeps.refl _ _) hi rfl
  case body =>
    rintro y X pre x a' V ⟨h1, h2⟩ hax hX hpx hsz
    dsimp only at hax
    subst hax
    obtain ⟨v, hv1, hv2, hv3⟩ := h1.out
    obtain ⟨ad, cap, rfl, hc1, hc2, _⟩ := own_slice hv2
    have H1 := Lw.hid h1; have HV2 := Lw.hid hv2; have HV3 := Lw.hid hv3; have HV1 := Lw.hid hv1; have HXB := Lw.hid hX
    have m0 := heap_cell h1.most 0; have o0 := heap_cell hv1 0; have f0 := heap_free hv1 0
    unfold maxLen at hc2
    rcases Nat.lt_or_ge pre.length most with hlt | hge
    · have e1 : Hid ((V.alloc (.cells #[u32v x] 24)).ownsRow 0 24 1 (.slice ad pre.length cap) pre.length (pre.map u32v)) := Lw.hid (own_kept ((Kept.refl (fun _ => False) V).alloc _) HV2.out (fun _ _ h => h))
      have hgd : decide ((most : Int) ≤ (pre.length : Int)) = false := by simp; omega
      obtain ⟨n, hn⟩ : ∃ n, pre.length = n := ⟨_, rfl⟩
      have HN := Lw.hid hn
      rw [hn] at hc1 hgd e1 o0 HV1 HV2 HV3 hlt H1
      clear hv1 hv2 hv3 h1 hX h2 hn
      gi_wp2_with (gi_at_builtin; refine wpListIn_app rfl _ _ _ rfl EU32 _ n _ rfl e1.out _ 1 _ rfl (Rd.lit V [u32v x] 24 1 V.heap.size 1 rfl rfl (by decide)) (fun u hu => by rw [List.mem_singleton.1 hu]; rfl) (by unfold maxLen; omega) (by omega) ?_; intro ad' cap' w5 ho hg hf; obtain ⟨g1, hfi, hke⟩ := H1.out.add (fun k h => (HXB.out k h).2) HV1.out HV3.out ho hg hf; have HFI := Lw.hid hfi; have HKE := Lw.hid hke; have o5 := heap_cell g1 0; have f5 := heap_free g1 0; clear ho hg hf hfi hke g1)
      refine ⟨HKE.out R hR, ?_, ?_⟩
      · have hn := HN.out
        subst hn
        simpa using HFI.out
      · simp; have := HN.out; omega
    · have hgd : decide ((most : Int) ≤ (pre.length : Int)) = true := by simp; omega
      have hme : pre.length = most := by omega
      have HME := Lw.hid hme
      clear hv1 hv2 hv3 h1 hX h2 hme
      gi_wp2
      exact ⟨Keeps.refl _ _, rfl, pre, x, rfl, H1.out, HME.out⟩
  case done =>
    rintro X D V hD hXD hXb ⟨h1, h2⟩ hdf
    obtain ⟨v, hv1, hv2, hv3⟩ := h1.out
    obtain ⟨ad, cap, rfl, hc1, hc2, _⟩ := own_slice hv2
    have o0 := heap_cell hv1 0
    have H1 := Lw.hid h1; have HV2 := Lw.hid hv2; have HV3 := Lw.hid hv3
    have HTK : Hid (xs.take most = xs) := Lw.hid (List.take_of_length_le h2)
    clear hv1 hv2 hv3 h1
    go_wp2_with fail
    refine leaves_marks [D] V (by simp) (fun r hr => by rw [List.mem_singleton.1 hr]; exact hdf) (fun V' hk => ⟨_, results_tmp rfl _ _ _, _, rfl, ?_, fun k hk' => by have := (HV3.out k hk').1; omega, H1.out.own.k.trans hk (fun i hi h => by rw [List.mem_singleton.1 h] at hi; omega)⟩)
    rw [HTK.out]
    exact own_kept hk HV2.out (fun k hb hd => (HV3.out k hb).2.1 (by rw [List.mem_singleton.1 hd]; exact hXD))
  case stop =>
    rintro X c pre D V hD hXD hXb hpre hne ⟨rfl, pre', x, rfl, h1, h2⟩ hdf
    subst h2
    obtain ⟨v, hv1, hv2, hv3⟩ := h1.out
    obtain ⟨ad, cap, rfl, hc1, hc2, _⟩ := own_slice hv2
    have o0 := heap_cell hv1 0
    have H1 := Lw.hid h1; have HV2 := Lw.hid hv2; have HV3 := Lw.hid hv3
    have HTK : Hid (xs.take pre'.length = pre') := Lw.hid (by
      obtain ⟨t, rfl⟩ := hpre
      rw [List.append_assoc, List.take_left'] <;> rfl)
    clear hv1 hv2 hv3 h1
    go_wp2_with fail
    refine leaves_marks [D] V (by simp) (fun r hr => by rw [List.mem_singleton.1 hr]; exact hdf) (fun V' hk => ⟨_, results_tmp rfl _ _ _, _, rfl, ?_, fun k hk' => by have := (HV3.out k hk').1; omega, H1.out.own.k.trans hk (fun i hi h => by rw [List.mem_singleton.1 h] at hi; omega)⟩)
    rw [HTK.out]
    exact own_kept hk HV2.out (fun k hb hd => (HV3.out k hb).2.1 (by rw [List.mem_singleton.1 hd]; exact hXD))
theorem Hv.one (h : Hv) : ∀ u ∈ h.cells, u.oneCell' = true := by
  intro u hu
  simp only [Hv.cells, List.mem_cons, List.not_mem_nil, or_false] at hu
  rcases hu with rfl | rfl | rfl | rfl <;> rfl
set_option maxHeartbeats 4000000 in
theorem firstH_any (w : World) (gf : Nat) (lb : Array Value) (most : Nat) (xs : List Hv) (R : Nat → Prop) (hit : ∀ w', Kept (fun _ => False) w w' → Iter Try.prog gf lb hve R xs w') (hR : ∀ k, R k → k < w.heap.size)
    (eg : ∀ args w, (callFunc gf args).run Try.prog w = .ok (.enter gf args) w) (hmost : most ≤ 1000) :
    Calls Try.prog 21 #[.func (.func gf) #[] lb, .int .i64 (most : Int)] w fun x w' => ∃ v, x = .returned v ∧ w'.ownsRow 0 35 4 v (xs.take most).length ((xs.take most).flatMap Hv.cells) ∧ (∀ k, blk v k → w.heap.size ≤ k) ∧ Kept (fun _ => False) w w' := by
  refine calls_of_wp_marks Try.func21 rfl ?_
  simp only [Try.ntmps21, List.size_toArray, List.length_cons, List.length_nil, Nat.reduceAdd, Nat.reduceSub, Array.replicate_succ, Array.replicate_zero, List.push_toArray, List.append_toArray, List.nil_append, List.cons_append]
  go_wp2_with fail
  refine (safeH_any _ gf #[] lb).mono ?_
  rintro e w1 ⟨rfl, rfl⟩
  go_wp2_with fail
  have hm : ((w.alloc (.cells #[.int .i64 (most : Int)] 3)).alloc (.cells #[.slice none 0 0] 23)).heap[w.heap.size]? = some (.cells #[.int .i64 (most : Int)] 3 (0, 0)) := heap_alloc_lt (heap_at _ _ rfl)
  have ho : ((w.alloc (.cells #[.int .i64 (most : Int)] 3)).alloc (.cells #[.slice none 0 0] 23)).heap[w.heap.size + 1]? = some (.cells #[.slice none 0 0] 23 (0, 0)) := heap_at _ _ (by simp)
  have hk : Kept (fun _ => False) w ((w.alloc (.cells #[.int .i64 (most : Int)] 3)).alloc (.cells #[.slice none 0 0] 23)) := ((Kept.refl _ w).alloc _).alloc _
  have hs : ((w.alloc (.cells #[.int .i64 (most : Int)] 3)).alloc (.cells #[.slice none 0 0] 23)).heap.size = w.heap.size + 2 := by simp
  obtain ⟨wa, hwa⟩ : ∃ wa, (w.alloc (.cells #[.int .i64 (most : Int)] 3)).alloc (.cells #[.slice none 0 0] 23) = wa := ⟨_, rfl⟩
  rw [hwa] at hm ho hk hs ⊢
  clear hwa
  refine wp_range (gf := gf) (lb := lb) rfl eg (hit wa hk) (fun k h => by have := hR k h; omega) (fun _ => rfl)
    (fun X pre V => FiAt w 23 35 4 X (pre.flatMap Hv.cells) pre.length most V ∧ pre.length ≤ most)
    (fun c X pre V => c = .exit 0 ∧ ∃ pre' x, pre = pre' ++ [x] ∧ FiAt w 23 35 4 X (pre'.flatMap Hv.cells) pre'.length most V ∧ pre'.length = most)
    ?_ ?_ ?_ (fun X q V => ∃ Bx, ¬ X Bx ∧ V.heap[Bx]? = some (.cells #[u32v q.2.1.id, u32v q.2.1.out, u32v q.2.1.er, .bool q.2.1.st] 35 (0, 0)) ∧ q.2.2 = { tmps := #[.func (.func gf) #[] lb, .int .i64 (most : Int), undef, .pointer (some ⟨w.heap.size, 0, none⟩), .slice none 0 0, .pointer (some ⟨w.heap.size + 1, 0, none⟩), .pointer (some ⟨Bx, 0, none⟩), .func (.func gf) #[] lb, .func (.func gf) #[] lb, .agg #[u32v q.2.1.id, u32v q.2.1.out, u32v q.2.1.er, .bool q.2.1.st], undef, undef, undef, undef, undef, undef, undef, undef, undef], defers := [] })
    (fun X X' q A A' h hk hx => by
      obtain ⟨Bx, h1, h2, h3⟩ := h
      have hlt := (Array.getElem?_eq_some_iff.1 h2).1
      exact ⟨Bx, fun hb => by rcases hx Bx hb with h4 | h4; exact h1 h4; omega, hk.heap h2 h1, h3⟩) ?assign ?body ?done ?stop
  · rintro X X' s V V' ⟨h1, h2⟩ hk hx
    exact ⟨h1.ab hk hx, h2⟩
  · rintro c X X' s V V' ⟨h1, pre', x, h2, h3, h4⟩ hk hx
    exact ⟨h1, pre', x, h2, h3.ab hk hx, h4⟩
  · exact ⟨⟨⟨hk, fun k h => h.elim, by omega, by omega⟩, hm, _, ho, World.ownsRow_nil _ _ _ _, fun k h => (blk_none h).elim⟩, Nat.zero_le _⟩
  case assign =>
    rintro y X pre x V K hi hxb _ _ hK
    have HI := Lw.hid hi
    have kv : Kept (fun _ => False) V (V.alloc (.cells #[u32v x.id, u32v x.out, u32v x.er, .bool x.st] 35)) := (Kept.refl _ V).alloc _
    clear hi
    gi_wp2
    exact hK _ _ (kv.keeps (fun _ _ _ h => h)) ⟨HI.out.1.ab (kv.mono (fun _ _ h => h.elim)) (fun _ h => .inl h), HI.out.2⟩ ⟨V.heap.size, fun h => by have := (hxb _ h).2; omega, heap_alloc _ _, rfl⟩
  case body =>
    rintro y X pre x a' V ⟨h1, h2⟩ hax hX hpx hsz
    obtain ⟨Bx, hx1, hx2, hax⟩ := hax
    dsimp only at hax hx2
    subst hax
    have b0 := heap_cell hx2 0; have b1 := heap_cell hx2 1; have b2 := heap_cell hx2 2; have b3 := heap_cell hx2 3
    obtain ⟨v, hv1, hv2, hv3⟩ := h1.out
    obtain ⟨ad, cap, rfl, hc1, hc2, _⟩ := own_slice hv2
    have H1 := Lw.hid h1; have HV2 := Lw.hid hv2; have HV3 := Lw.hid hv3; have HV1 := Lw.hid hv1; have HXB := Lw.hid hX
    have m0 := heap_cell h1.most 0; have o0 := heap_cell hv1 0; have f0 := heap_free hv1 0
    unfold maxLen at hc2
    rcases Nat.lt_or_ge pre.length most with hlt | hge
    · have e1 : Hid ((V.alloc (.cells #[u32v x.id, u32v x.out, u32v x.er, .bool x.st] 35)).ownsRow 0 35 4 (.slice ad pre.length cap) pre.length (pre.flatMap Hv.cells)) := Lw.hid (own_kept ((Kept.refl (fun _ => False) V).alloc _) HV2.out (fun _ _ h => h))
      have hgd : decide ((most : Int) ≤ (pre.length : Int)) = false := by simp; omega
      obtain ⟨n, hn⟩ : ∃ n, pre.length = n := ⟨_, rfl⟩
      have HN := Lw.hid hn
      rw [hn] at hc1 hgd e1 o0 HV1 HV2 HV3 hlt H1
      clear hv1 hv2 hv3 h1 hX h2 hn
      gi_wp2_with (gi_at_builtin; refine wpListIn_app rfl _ _ _ rfl EHv _ n _ rfl e1.out _ 1 _ rfl (Rd.lit V [u32v x.id, u32v x.out, u32v x.er, .bool x.st] 35 4 V.heap.size 1 rfl rfl (by decide)) (Hv.one x) (by unfold maxLen; omega) (by omega) ?_; intro ad' cap' w5 ho hg hf; obtain ⟨g1, hfi, hke⟩ := H1.out.add (fun k h => (HXB.out k h).2) HV1.out HV3.out ho hg hf; have HFI := Lw.hid hfi; have HKE := Lw.hid hke; have o5 := heap_cell g1 0; have f5 := heap_free g1 0; clear ho hg hf hfi hke g1)
      refine ⟨HKE.out R hR, ?_, ?_⟩
      · have hn := HN.out
        subst hn
        simpa [Hv.cells] using HFI.out
      · simp; have := HN.out; omega
    · have hgd : decide ((most : Int) ≤ (pre.length : Int)) = true := by simp; omega
      have hme : pre.length = most := by omega
      have HME := Lw.hid hme
      clear hv1 hv2 hv3 h1 hX h2 hme
      gi_wp2
      exact ⟨Keeps.refl _ _, rfl, pre, x, rfl, H1.out, HME.out⟩
  case done =>
    rintro X D V hD hXD hXb ⟨h1, h2⟩ hdf
    obtain ⟨v, hv1, hv2, hv3⟩ := h1.out
    obtain ⟨ad, cap, rfl, hc1, hc2, _⟩ := own_slice hv2
    have o0 := heap_cell hv1 0
    have H1 := Lw.hid h1; have HV2 := Lw.hid hv2; have HV3 := Lw.hid hv3
    have HTK : Hid (xs.take most = xs) := Lw.hid (List.take_of_length_le h2)
    clear hv1 hv2 hv3 h1
    go_wp2_with fail
    refine leaves_marks [D] V (by simp) (fun r hr => by rw [List.mem_singleton.1 hr]; exact hdf) (fun V' hk => ⟨_, results_tmp rfl _ _ _, _, rfl, ?_, fun k hk' => by have := (HV3.out k hk').1; omega, H1.out.own.k.trans hk (fun i hi h => by rw [List.mem_singleton.1 h] at hi; omega)⟩)
    rw [HTK.out]
    exact own_kept hk HV2.out (fun k hb hd => (HV3.out k hb).2.1 (by rw [List.mem_singleton.1 hd]; exact hXD))
  case stop =>
    rintro X c pre D V hD hXD hXb hpre hne ⟨rfl, pre', x, rfl, h1, h2⟩ hdf
    subst h2
    obtain ⟨v, hv1, hv2, hv3⟩ := h1.out
    obtain ⟨ad, cap, rfl, hc1, hc2, _⟩ := own_slice hv2
    have o0 := heap_cell hv1 0
    have H1 := Lw.hid h1; have HV2 := Lw.hid hv2; have HV3 := Lw.hid hv3
    have HTK : Hid (xs.take pre'.length = pre') := Lw.hid (by
      obtain ⟨t, rfl⟩ := hpre
      rw [List.append_assoc, List.take_left'] <;> rfl)
    clear hv1 hv2 hv3 h1
    go_wp2_with fail
    refine leaves_marks [D] V (by simp) (fun r hr => by rw [List.mem_singleton.1 hr]; exact hdf) (fun V' hk => ⟨_, results_tmp rfl _ _ _, _, rfl, ?_, fun k hk' => by have := (HV3.out k hk').1; omega, H1.out.own.k.trans hk (fun i hi h => by rw [List.mem_singleton.1 h] at hi; omega)⟩)
    rw [HTK.out]
    exact own_kept hk HV2.out (fun k hb hd => (HV3.out k hb).2.1 (by rw [List.mem_singleton.1 hd]; exact hXD))
end Go.Proofs.Ytbmfnepbdfnlaaa
