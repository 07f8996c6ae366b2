/- PatternNames, walked. -/
import Derived.Test.YtkfoinphkjmlmaaNamesA
import Derived.WalkLawsBesides
import Derived.Lib.MinMax
namespace Go.Proofs.Ytkfoinphkjmlmaa
open Go Go.RowKit Go.Lw
set_option maxRecDepth 100000
set_option linter.unusedVariables false
set_option linter.unusedSimpArgs false
attribute [local go_sem] Oper.semAt_some
attribute [local go_sem] BA_toList
theorem ES : ElemT Try.prog 22 9 1 16 := ElemT.of (z := .string ⟨#[]⟩) Try.underlying22 (by kernel_rfl) rfl (by decide)
theorem wp_nm {P : Program} {c : Code} {Q : Exit → Act → World → Prop} {a : Act} {w : World} (h : ∀ b, Hid (b = a) → c.wp P Q b w) : c.wp P Q a w := h a (Lw.hid rfl)
theorem bS_one (s : List UInt8) : ∀ u ∈ [bS s], u.oneCell' = true := by
  intro u hu
  rw [List.mem_singleton.1 hu]; rfl
theorem heap_at (w : World) (o : Obj) {k : Nat} (h : k = w.heap.size) : (w.alloc o).heap[k]? = some o := by subst h; exact heap_alloc w o
/-- What is got. -/
structure GtAt (w0 : World) (C8 CA : Nat) (X : Nat → Prop) (xs : List (List UInt8)) (V : World) : Prop where
  k : Kept (fun k => k = C8 ∨ k = CA) w0 V
  lo : C8 < w0.heap.size ∧ CA < w0.heap.size ∧ C8 ≠ CA
  x : ∀ k, X k → k = CA ∨ w0.heap.size ≤ k
  out : ∃ v, V.heap[C8]? = some (.cells #[v] 22 (0, 0)) ∧ V.ownsRow 0 9 1 v xs.length (xs.map bS) ∧ ∀ k, blk v k → w0.heap.size ≤ k ∧ ¬ X k ∧ k < V.heap.size
theorem GtAt.ab {w0 A A' : World} {C8 CA : Nat} {X X' : Nat → Prop} {xs : List (List UInt8)} (h : GtAt w0 C8 CA X xs A) (hk : Kept X A A') (hx : ∀ k, X' k → X k ∨ (A.heap.size ≤ k ∧ k < A'.heap.size)) : GtAt w0 C8 CA X' xs A' := by
  obtain ⟨v, h1, h2, h3⟩ := h.out
  have h8 : ¬ X C8 := fun hX => by rcases h.x _ hX with e | e; exact h.lo.2.2 e; have := h.lo.1; omega
  refine ⟨h.k.trans hk (fun i hi hX => by rcases h.x i hX with e | e; exact .inr e; omega), h.lo, fun k hX => ?_, v, hk.heap h1 h8, own_kept hk h2 (fun k hb hX => (h3 k hb).2.1 hX), fun k hb => ⟨(h3 k hb).1, fun hX => ?_, Nat.lt_of_lt_of_le (h3 k hb).2.2 hk.size⟩⟩
  · rcases hx k hX with e | e
    · exact h.x k e
    · have := h.k.size; exact .inr (by omega)
  · rcases hx k hX with e | e
    · exact (h3 k hb).2.1 e
    · have := (h3 k hb).2.2; omega
theorem GtAt.add {w0 V w5 : World} {C8 CA : Nat} {X : Nat → Prop} {xs xs' : List (List UInt8)} {n' : Nat} {v v' : Value} {ob : Obj} (h : GtAt w0 C8 CA X xs V) (hX : ∀ k, X k → k < V.heap.size)
    (h1 : V.heap[C8]? = some (.cells #[v] 22 (0, 0))) (h3 : ∀ k, blk v k → w0.heap.size ≤ k ∧ ¬ X k ∧ k < V.heap.size)
    (ho : w5.ownsRow 0 9 1 v' n' (xs'.map bS)) (hn : n' = xs'.length) (hg : (V.alloc ob).grownBy w5 v.ownBlock) (hf : Fresh (V.alloc ob) v v') :
    w5.heap[C8]? = some (.cells #[v] 22 (0, 0)) ∧ GtAt w0 C8 CA X xs' (w5.setCell ⟨C8, 0, none⟩ v') ∧ (∀ R : Nat → Prop, (∀ k, R k → k < w0.heap.size ∧ k ≠ C8) → Keeps (fun k => R k ∨ X k) V (w5.setCell ⟨C8, 0, none⟩ v')) := by
  subst hn
  have hl := h.lo
  have k1 : Kept (blk v) V w5 := (Kept.refl _ V).alloc ob |>.grown hg (fun k e _ => e)
  have g1 := k1.heap h1 (fun hb => by have := (h3 _ hb).1; omega)
  have k2 : Kept (fun k => blk v k ∨ k = C8) V (w5.setCell ⟨C8, 0, none⟩ v') := (k1.mono (fun _ _ h => .inl h)).set _ _ (fun _ => .inr rfl) _
  have hs0 := h.k.size
  have hv' : ∀ k, blk v' k → w0.heap.size ≤ k ∧ ¬ X k ∧ (blk v k ∨ V.heap.size ≤ k) := fun k hk => by
    rcases hf k hk with h4 | h4
    · exact ⟨(h3 k h4).1, (h3 k h4).2.1, .inl h4⟩
    · have h5 : V.heap.size ≤ k := by simp at h4; omega
      exact ⟨by omega, fun hx => by have := hX k hx; omega, .inr h5⟩
  have hown : (w5.setCell ⟨C8, 0, none⟩ v').ownsRow 0 9 1 v' xs'.length (xs'.map bS) := own_kept ((Kept.refl (fun k => k = C8) w5).set _ _ (fun _ => rfl) _) ho (fun k hb e => by have := (hv' k hb).1; omega)
  refine ⟨g1, ⟨h.k.trans k2 (fun i hi hx => by
    rcases hx with e | e
    · have := (h3 i e).1; omega
    · exact .inl e), hl, h.x, v', Boxed.set v' g1, hown, fun k hk => ⟨(hv' k hk).1, (hv' k hk).2.1, own_lt hown k hk⟩⟩, fun R hR => k2.keeps (fun k hk hr hs => ?_)⟩
  rcases hr with h4 | h4
  · have := hR k h4
    rcases hs with h5 | h5
    · have := (h3 k h5).1; omega
    · exact this.2 h5
  · rcases hs with h5 | h5
    · exact (h3 k h5).2.1 h4
    · rcases h.x k h4 with e | e
      · exact hl.2.2 (h5.symm.trans e)
      · omega
theorem matches_any (w : World) (p : List UInt8) (fv : Value) (h1 : fv.oneCell' = true) :
    Calls Try.prog 8 #[.string (BA p), fv] w fun x w' => ∃ BF BP, x = .returned (.func (.func 14) #[] #[.pointer (some ⟨BF, 0, none⟩), .pointer (some ⟨BP, 0, none⟩)]) ∧ w'.heap[BF]? = some (.cells #[fv] 27 (0, 0)) ∧ w'.heap[BP]? = some (.cells #[.string (BA p)] 9 (0, 0)) ∧ Kept (fun _ => False) w w' ∧ w.heap.size ≤ BF ∧ w.heap.size ≤ BP := by
  go_enter Try.func8, Try.ntmps8
  go_wp2_with fail
  go_ret
  refine ⟨w.heap.size + 1, w.heap.size, rfl, ?_, ?_, ((Kept.refl _ w).alloc _).alloc _, by omega, Nat.le_refl _⟩
  · exact heap_at _ _ (by simp)
  · exact ((Kept.refl (fun _ => False) _).alloc _).heap (heap_at _ _ rfl) (fun h => h)
theorem safeS_any (w : World) (f : Nat) (pre lb : Array Value) :
    Calls Try.prog 7 #[.func (.func f) pre lb] w fun x w' => x = .returned (.func (.func f) pre lb) ∧ w' = w := by
  have he := run_func_nil (P := Try.prog) w 27 (.func f) pre lb Try.underlying27
  go_enter Try.func7, Try.ntmps7
  go_wp2_with fail
  go_ret
  exact ⟨rfl, rfl⟩
set_option maxHeartbeats 16000000 in
theorem pnames_any (w : World) (p0 : List UInt8) (nv : Value) (l0 : List (List UInt8)) (st : Nat) (hp0 : p0.length ≤ 9223372036854775807) (hr : Rd w 1 nv l0.length (l0.map fun s => Value.string (BA s))) (hl0 : ∀ s ∈ l0, s.length ≤ 9223372036854775807) (hst : st < 256) :
    Calls Try.prog 3 #[.string (BA p0), nv, .int .u8 (st : Int)] w fun x w' => x = .returned (.bool true) ∧ Kept (fun _ => False) w w' := by
  obtain ⟨_, ad, cap, rfl, hc1, hc2, _⟩ := id hr
  have HR := Lw.hid hr; have HL0 := Lw.hid hl0
  obtain ⟨n0, hn0⟩ : ∃ n, l0.length = n := ⟨_, rfl⟩
  have HN0 := Lw.hid hn0
  rw [hn0] at hc1 HR ⊢
  unfold maxLen at hc2
  obtain ⟨most, hmost⟩ : ∃ m, 1 + st % 6 = m := ⟨_, rfl⟩
  have em : (1 : Int) + (st : Int) % 6 = (most : Int) := by omega
  have hm6 : 1 ≤ most ∧ most ≤ 6 := by omega
  obtain ⟨n, hn⟩ : ∃ n, min n0 20 = n := ⟨_, rfl⟩
  have en : min (n0 : Int) 20 = (n : Int) := by omega
  have hnn : n ≤ n0 ∧ n ≤ 20 := by omega
  have HMST := Lw.hid hmost
  clear hr hl0 hn0 hmost hn
  refine calls_of_wp_marks Try.func3 rfl ?_
  simp only [Try.ntmps3, List.size_toArray, List.length_cons, List.length_nil, Nat.reduceAdd, Nat.reduceSub, Array.replicate_succ, Array.replicate_zero, List.push_toArray, List.append_toArray, List.nil_append, List.cons_append]
  go_wp2_with fail
  obtain ⟨wa, hwa⟩ : ∃ wa, w.alloc (.cells #[.slice ad n0 cap] 22) = wa := ⟨_, rfl⟩
  have KA : Hid (Kept (fun _ => False) w wa) := Lw.hid (by rw [← hwa]; exact (Kept.refl _ w).alloc _)
  have HBX : Hid (wa.heap[w.heap.size]? = some (.cells #[.slice ad n0 cap] 22 (0, 0))) := Lw.hid (by rw [← hwa]; exact heap_alloc w _)
  rw [hwa]
  clear hwa
  refine (short_any wa p0 [] hp0 (by decide)).mono ?_
  rintro e w1 ⟨p, hp, rfl, k1⟩
  have K1 := Lw.hid (KA.out.trans k1 (fun _ _ h => h))
  have hb1 := k1.heap HBX.out (fun h => h)
  have c0 := heap_cell hb1 0; have f0 := heap_free hb1 0
  have HB1 := Lw.hid hb1
  clear k1 hb1 HBX KA
  go_upto_region 6 with fail
  obtain ⟨b, hb⟩ : ∃ b, w1.heap.size = b := ⟨_, rfl⟩
  obtain ⟨B, hB⟩ : ∃ B, w.heap.size = B := ⟨_, rfl⟩
  have HBb : Hid (B < b) := Lw.hid (by rw [← hb, ← hB]; exact (Array.getElem?_eq_some_iff.1 HB1.out).1)
  obtain ⟨wb, hwb⟩ : ∃ wb, ((((w1.setCell ⟨w.heap.size, 0, none⟩ (.slice ad n cap)).alloc (.cells #[.slice none 0 0] 22)).alloc (.cells #[.int .i64 (most : Int)] 3)).alloc (.cells #[.int .i64 0] 3)) = wb := ⟨_, rfl⟩
  have KB : Hid (Kept (fun _ => False) w wb) := Lw.hid (by rw [← hwb]; exact (((K1.out.set _ _ (fun h => by omega) _).alloc _).alloc _).alloc _)
  have HNB : Hid (wb.heap[B]? = some (.cells #[.slice ad n cap] 22 (0, 0))) := Lw.hid (by
    rw [← hwb, ← hB]
    exact ((((Kept.refl (fun _ => False) _).alloc _).alloc _).alloc _).heap (Boxed.set (.slice ad n cap) HB1.out) (fun h => h))
  have HGB : Hid (wb.heap[b]? = some (.cells #[.slice none 0 0] 22 (0, 0))) := Lw.hid (by
    rw [← hwb, ← hb]
    exact (((Kept.refl (fun _ => False) _).alloc _).alloc _).heap (heap_at _ _ (by simp)) (fun h => h))
  have HMB : Hid (wb.heap[b + 1]? = some (.cells #[.int .i64 (most : Int)] 3 (0, 0))) := Lw.hid (by
    rw [← hwb, ← hb]
    exact ((Kept.refl (fun _ => False) _).alloc _).heap (heap_at _ _ (by simp)) (fun h => h))
  have HAB : Hid (AsK (b + 2) 0 wb) := Lw.hid (by
    rw [← hwb, ← hb]
    exact heap_at _ _ (by simp))
  have HSB : Hid (wb.heap.size = b + 3) := Lw.hid (by rw [← hwb, ← hb]; simp)
  have HRB : Hid (Rd wb 1 (.slice ad n cap) (l0.take n).length ((l0.take n).map fun s => Value.string (BA s))) := Lw.hid (by
    have h1 : (l0.take n).length = n := by rw [List.length_take, HN0.out]; omega
    have h2 := HR.out.take n hnn.1
    rw [Nat.mul_one, ← List.map_take] at h2
    rw [h1]
    exact h2.kept KB.out (fun _ _ h => h))
  rw [hwb]
  simp only [hb, hB, Nat.add_assoc, Nat.reduceAdd]
  have HBw : Hid (w.heap.size = B) := Lw.hid hB
  clear hwb c0 f0 HB1 K1 hb hB
  obtain ⟨l, hl⟩ : ∃ l, l0.take n = l := ⟨_, rfl⟩
  have HLN : Hid (l.length = n) := Lw.hid (by rw [← hl, List.length_take, HN0.out]; omega)
  have HLS : Hid (∀ s ∈ l, s.length ≤ 9223372036854775807) := Lw.hid (fun s hs => HL0.out s (by rw [← hl] at hs; exact List.mem_of_mem_take hs))
  rw [hl] at HRB
  have HFR : Hid (l ≠ [] → ∀ k, blk (.slice ad n cap) k → k < B) := Lw.hid (fun hne k hk => by
    have h1 : n0 ≠ 0 := fun e => by subst e; exact hne (List.eq_nil_of_length_eq_zero (by rw [HLN.out]; omega))
    have hk' : blk (.slice ad n0 cap) k := by
      cases ad with
      | none => exact (blk_none hk).elim
      | some a => exact hk
    have := HR.out.lt (by decide) h1 k hk'
    rw [HBw.out] at this; exact this)
  clear hl
  have c0 := heap_cell HNB.out 0
  go_wp2_with fail
  go_loopg [7, 11, 32] n (fun gk s7 s11 s32 wx => ∃ k nd : Nat, gk = n - k ∧ k ≤ n ∧ s32 = .int .i64 (k : Int) ∧ s11 = .int .i64 (nd : Int) ∧ wx.ownsRow 0 9 1 s7 (wantF (matchF p) most ((cutL l).take k)).length ((wantF (matchF p) most ((cutL l).take k)).map bS) ∧ (∀ i, blk s7 i → wb.heap.size ≤ i) ∧ Kept (fun _ => False) wb wx ∧ NdF (matchF p) most ((cutL l).take k) nd)
  case atStart => exact ⟨0, 0, rfl, Nat.zero_le _, rfl, rfl, by
    have h : wantF (matchF p) most ((cutL l).take 0) = [] := by simp [wantF]
    rw [h]
    exact World.ownsRow_nil _ _ _ _, fun i h => (blk_none h).elim, Kept.refl _ _, .inl ⟨by simp [wantF], rfl⟩⟩
  case round =>
    obtain ⟨k, nd, rfl, hk, rfl, rfl, hwo, hwf, hkk, hnd⟩ := hrel
    have HK := Lw.hid hkk; have HWF := Lw.hid hwf; have HND := Lw.hid hnd
    obtain ⟨adw, cpw, rfl, hw1, hw2, _⟩ := own_slice hwo
    obtain ⟨W, hW⟩ : ∃ W, wantF (matchF p) most ((cutL l).take k) = W := ⟨_, rfl⟩
    rw [hW] at hwo hw1
    obtain ⟨wl, hwl⟩ : ∃ wl, W.length = wl := ⟨_, rfl⟩
    have HWL := Lw.hid hwl; have HWW := Lw.hid hW
    have hwl6 : wl ≤ 6 := by rw [← hwl, ← hW]; unfold wantF; rw [List.length_take]; omega
    rw [hwl] at hwo hw1
    have HWO := Lw.hid hwo
    unfold maxLen at hw2
    clear hwo hwf hkk hnd c0
    rw [hW, hwl] at HWF
    rw [hW, hwl]
    clear hwl hW
    by_cases hlt : k < n
    · obtain ⟨s, hs⟩ : ∃ s, l[k]? = some s := ⟨_, List.getElem?_eq_getElem (by rw [HLN.out]; exact hlt)⟩
      have hs9 := HLS.out s (List.mem_of_getElem? hs)
      obtain ⟨g, off, rfl, q0⟩ := strs_at (HRB.out.kept HK.out (fun _ _ h => h)) hs
      have HCT := Lw.hid (cut_take hs)
      have hkl : ((cutL l).take k).length = k := by
        rw [List.length_take]; unfold cutL; rw [List.length_map, HLN.out]; omega
      have HKL := Lw.hid hkl
      have i0 : (0 : Int) ≤ (k : Int) := by omega
      have i1 : (k : Int) < (n : Int) := by omega
      have hkn : k + 1 ≤ n := hlt
      clear hs hkl
      obtain ⟨wo, rfl⟩ : ∃ wo : World, wo = wr := ⟨_, rfl⟩
      go_wp2_with fail
      refine (short_any wo [] s (by decide) hs9).mono ?_
      rintro e w5 ⟨p', _, rfl, k5⟩
      have K5 := Lw.hid (HK.out.trans k5 (fun _ _ h => h))
      have HWO5 := Lw.hid (own_kept k5 HWO.out (fun _ _ h => h))
      obtain ⟨t, ht⟩ : ∃ t, s.take 24 = t := ⟨_, rfl⟩
      have ht24 : t.length ≤ 24 := by rw [← ht]; exact List.length_take_le _ _
      rw [ht] at HCT ⊢
      have m0 := heap_cell (K5.out.heap HMB.out (fun h => h)) 0
      clear k5 ht q0
      go_wp2_with fail
      refine (rMatch_any w5 p t (by omega) (by omega)).mono ?_
      rintro e w6 ⟨rfl, rfl⟩
      obtain ⟨mt, hmt⟩ : ∃ mt, matchF p t = mt := ⟨_, rfl⟩
      have HMT := Lw.hid hmt
      rw [hmt]
      clear hmt
      by_cases hhit : mt = true ∧ wl < most
      · obtain ⟨rfl, hlm⟩ := hhit
        have hd : decide ((wl : Int) < (most : Int)) = true := decide_eq_true (by omega)
        have hd' : decide (wl < most) = true := decide_eq_true hlm
        have HH := Lw.hid (want_hit (f := matchF p) (most := most) (xs := (cutL l).take k) (x := t) HMT.out (by rw [HWW.out, HWL.out]; exact hlm))
        have e1 : Hid ((w5.alloc (.cells #[.string (BA t)] 9)).ownsRow 0 9 1 (.slice adw wl cpw) wl (W.map bS)) := Lw.hid (own_kept ((Kept.refl (fun _ => False) w5).alloc _) HWO5.out (fun _ _ h => h))
        go_wp2_with (at_builtin; refine wpList_app rfl _ _ _ rfl ES _ wl _ rfl e1.out _ 1 _ rfl (Rd.lit w5 [bS t] 9 1 w5.heap.size 1 rfl rfl (by decide)) (bS_one t) (by unfold maxLen; omega) (by omega) ?_; intro ad' cap' w7 ho hg hf; have HO := Lw.hid ho; have HG := Lw.hid hg; have HF := Lw.hid hf; clear ho hg hf)
        go_roundg (n - (k + 1))
        case measure => omega
        case rel =>
          refine ⟨k + 1, k + 1, rfl, hkn, by go_num, by go_num, ?_, fun i hi => ?_, (K5.out.alloc _).grown HG.out (fun i hi hl => by have := HWF.out i hi; omega), ?_⟩
          · rw [HCT.out, HH.out.1, HWW.out, List.length_append, HWL.out, List.map_append]; exact HO.out
          · rcases HF.out i hi with h | h
            · exact HWF.out i h
            · have := K5.out.size; simp at h; omega
          · rw [HCT.out]
            have h2 := HH.out.2
            rw [HKL.out] at h2; exact h2
      · have hmiss : matchF p t = false ∨ ¬ (wantF (matchF p) most ((cutL l).take k)).length < most := by
          rw [HMT.out, HWW.out, HWL.out]
          cases mt with
          | false => exact .inl rfl
          | true => exact .inr (fun h => hhit ⟨rfl, h⟩)
        have HH := Lw.hid (want_miss hmiss HND.out)
        clear hmiss
        cases mt with
        | false =>
          go_wp2_with fail
          go_roundg (n - (k + 1))
          case measure => omega
          case rel =>
            refine ⟨k + 1, nd, rfl, hkn, by go_num, by go_num, ?_, HWF.out, K5.out, by rw [HCT.out]; exact HH.out.2⟩
            rw [HCT.out, HH.out.1, HWW.out, HWL.out]; exact HWO5.out
        | true =>
          have hd : decide ((wl : Int) < (most : Int)) = false := decide_eq_false (fun h => hhit ⟨rfl, by omega⟩)
          have hd' : decide (wl < most) = false := decide_eq_false (fun h => hhit ⟨rfl, h⟩)
          clear hhit
          go_wp2_with fail
          go_roundg (n - (k + 1))
          case measure => omega
          case rel =>
            refine ⟨k + 1, nd, rfl, hkn, by go_num, by go_num, ?_, HWF.out, K5.out, by rw [HCT.out]; exact HH.out.2⟩
            rw [HCT.out, HH.out.1, HWW.out, HWL.out]; exact HWO5.out
    · obtain rfl : k = n := by omega
      have htk : (cutL l).take k = cutL l := List.take_of_length_le (by unfold cutL; rw [List.length_map, HLN.out]; exact Nat.le_refl _)
      rw [htk] at HND HWW
      have m0 := heap_cell (HK.out.heap HMB.out (fun h => h)) 0; have n0' := heap_cell (HK.out.heap HNB.out (fun h => h)) 0
      clear htk
      obtain ⟨wo, rfl⟩ : ∃ wo : World, wo = wr := ⟨_, rfl⟩
      go_upto_if 61 with fail
      go_cut [11] from 62 to 63 (fun s11 wx => ∃ need : Nat, s11 = .int .i64 (need : Int) ∧ wx = wo ∧ (wl < most → need = k) ∧ (¬ wl < most → need = nd))
      case first =>
        by_cases hlm : wl < most
        · have hd : decide ((wl : Int) < (most : Int)) = true := decide_eq_true (by omega)
          have hd' : decide (wl < most) = true := decide_eq_true hlm
          go_wp2_with fail
          go_meet
          case rel => exact ⟨k, rfl, rfl, fun _ => rfl, fun h => absurd hlm h⟩
        · have hd : decide ((wl : Int) < (most : Int)) = false := decide_eq_false (by omega)
          have hd' : decide (wl < most) = false := decide_eq_false hlm
          go_wp2_with fail
          go_meet
          case rel => exact ⟨nd, rfl, rfl, fun h => absurd h hlm, fun _ => rfl⟩
      case rest =>
        obtain ⟨need, rfl, rfl, hne1, hne2⟩ := hcut
        have HNE := Lw.hid (And.intro hne1 hne2)
        clear hne1 hne2 m0 n0'
        go_wp2_with fail
        refine (matches_any _ p _ rfl).mono ?_
        rintro e w5 ⟨BF, BP, rfl, hbf, hbp, k5, hlf, hlp⟩
        have HBF := Lw.hid hbf; have HBP := Lw.hid hbp; have K5 := Lw.hid (HK.out.trans k5 (fun _ _ h => h))
        have HLO : Hid (wb.heap.size ≤ BF ∧ wb.heap.size ≤ BP) := Lw.hid (by have := HK.out.size; omega)
        have HWO5 := Lw.hid (own_kept k5 HWO.out (fun _ _ h => h))
        have HWL5 : Hid (∀ i, blk (.slice adw wl cpw) i → wb.heap.size ≤ i ∧ i < w5.heap.size) := Lw.hid (fun i hi => ⟨HWF.out i hi, own_lt HWO5.out i hi⟩)
        clear hbf hbp k5 hlf hlp
        go_wp2_with fail
        refine (safeS_any w5 _ _ _).mono ?_
        rintro e w6 ⟨rfl, rfl⟩
        go_wp2_with fail
        have HMT : Hid (MtAt w6 BF BP B (b + 2) p (.slice ad k cap) l) := Lw.hid (by
          have h1 := HLO.out; have h2 := HSB.out; have h3 := HBb.out; have h4 := K5.out.size
          exact ⟨HBF.out, HBP.out, ⟨K5.out.heap HNB.out (fun h => h), HRB.out.kept K5.out (fun _ _ h => h), by omega, fun hne i hi => by have := HFR.out hne i hi; omega, by rw [HLN.out]; exact hnn.2, HLS.out⟩, by omega, by omega⟩)
        have HA6 : Hid (AsK (b + 2) 0 w6) := Lw.hid (K5.out.heap HAB.out (fun h => h))
        have HM6 : Hid (w6.heap[b + 1]? = some (.cells #[.int .i64 (most : Int)] 3 (0, 0))) := Lw.hid (K5.out.heap HMB.out (fun h => h))
        have HG0 : Hid (GtAt w6 b (b + 2) (fun i => i = b + 2) [] w6) := Lw.hid (by
          have h2 := HSB.out; have h4 := K5.out.size
          exact ⟨Kept.refl _ _, ⟨by omega, by omega, by omega⟩, fun i hi => .inl hi, _, K5.out.heap HGB.out (fun h => h), World.ownsRow_nil _ _ _ _, fun i h => (blk_none h).elim⟩)
        have HRN : Hid (∀ i, MtR BF BP B (.slice ad k cap) l i → i < w6.heap.size ∧ i ≠ b) := Lw.hid (fun i hi => ⟨HMT.out.lt i hi, by
          have h1 := HLO.out; have h2 := HSB.out; have h3 := HBb.out
          rcases hi with h | h | h | ⟨h, h'⟩
          · omega
          · omega
          · omega
          · have := HFR.out h i h'; omega⟩)
        refine wp_nm (fun ac hac => ?_)
        refine wp_rangeM (gf := 14) (lb := #[.pointer (some ⟨BF, 0, none⟩), .pointer (some ⟨BP, 0, none⟩)]) (by rw [hac.out]; rfl) (Go.Proofs.enters_of Try.func14 (by kernel_rfl) rfl)
          (match_iter w6 BF BP B (b + 2) p _ l HMT.out HA6.out hp) (fun i hi => by rw [hi]; exact (Array.getElem?_eq_some_iff.1 HA6.out).1) (fun V V' h k => k.heap h rfl) (fun s V V' h k => by
            obtain ⟨pre, h1, h2, h3, h4⟩ := h
            exact ⟨pre, h1, h2, h3, k.heap h4 rfl⟩) (fun i hi => (HRN.out i hi).1) (fun _ => rfl)
          (fun X pre V => GtAt w6 b (b + 2) X pre V ∧ pre.length < most)
          (fun c X pre V => c = .exit 2 ∧ GtAt w6 b (b + 2) X pre V ∧ pre.length = most)
          ?_ ?_ ?_ (fun X q V => q.2.2 = { tmps := (ac.tmps.setIfInBounds 69 (.string (BA q.2.1))).setIfInBounds 15 (.string (BA q.2.1)), defers := [] }) (fun _ _ _ _ _ h _ _ => h) ?assign ?body ?done ?stop
        · rintro X X' s V V' ⟨h1, h2⟩ hk hx
          exact ⟨h1.ab hk hx, h2⟩
        · rintro c X X' s V V' ⟨h0, h1, h2⟩ hk hx
          exact ⟨h0, h1.ab hk hx, h2⟩
        · exact ⟨HG0.out, by simp; omega⟩
        case assign =>
          rintro y X pre x V K hi _ _ _ hK
          rw [hac.out] at hK ⊢
          gi_wp2
          exact hK _ _ (Keeps.refl _ _) hi rfl
        case body =>
          rintro y X pre x a' V ⟨h1, h2⟩ hax hX hpx hsz
          dsimp only at hax
          subst hax
          rw [hac.out]
          simp only [List.setIfInBounds_toArray, List.set_cons_zero, List.set_cons_succ]
          obtain ⟨v, hv1, hv2, hv3⟩ := h1.out
          obtain ⟨ad8, cap8, rfl, hc81, hc82, _⟩ := own_slice hv2
          have H1 := Lw.hid h1; have HV2 := Lw.hid hv2; have HV3 := Lw.hid hv3; have HV1 := Lw.hid hv1; have HXB := Lw.hid hX
          have o0 := heap_cell hv1 0; have f0 := heap_free hv1 0
          unfold maxLen at hc82
          obtain ⟨j, hj⟩ : ∃ j, pre.length = j := ⟨_, rfl⟩
          have HJ := Lw.hid hj
          rw [hj] at hc81 h2 o0 HV1 HV2 HV3
          have e1 : Hid ((V.alloc (.cells #[.string (BA x)] 9)).ownsRow 0 9 1 (.slice ad8 j cap8) j (pre.map bS)) := Lw.hid (own_kept ((Kept.refl (fun _ => False) V).alloc _) HV2.out (fun _ _ h => h))
          clear hv1 hv2 hv3 h1 hX hj hac
          by_cases hjm : j + 1 = most
          · have hq : ((j : Int) + 1 == (most : Int)) = true := by rw [beq_iff_eq]; omega
            have HJM := Lw.hid hjm
            clear hjm
            gi_wp2_with (gi_at_builtin; refine wpListIn_app rfl _ _ _ rfl ES _ j _ rfl e1.out _ 1 _ rfl (Rd.lit V [bS x] 9 1 V.heap.size 1 rfl rfl (by decide)) (bS_one x) (by unfold maxLen; omega) (by omega) ?_; intro ad' cap' w7 ho hg hf; obtain ⟨g1, hfi, hke⟩ := H1.out.add (xs' := pre ++ [x]) (fun i h => (HXB.out i h).2) HV1.out HV3.out (by rw [List.map_append]; exact ho) (by simp [HJ.out]) hg hf; have HFI := Lw.hid hfi; have HKE := Lw.hid hke; have o5 := heap_cell g1 0; have f5 := heap_free g1 0; have m5 := heap_cell (HFI.out.k.heap HM6.out (fun h => by omega)) 0; rw [World.cell?_setCell_other _ _ _ _ (by intro e; have e2 := congrArg Addr.block e; dsimp only at e2; omega)] at m5; clear ho hg hf hfi hke g1)
            exact ⟨HKE.out _ HRN.out, rfl, HFI.out, by rw [List.length_append, HJ.out]; exact HJM.out⟩
          · have hq : ((j : Int) + 1 == (most : Int)) = false := by rw [beq_eq_false_iff_ne]; omega
            have HJM := Lw.hid hjm
            clear hjm
            gi_wp2_with (gi_at_builtin; refine wpListIn_app rfl _ _ _ rfl ES _ j _ rfl e1.out _ 1 _ rfl (Rd.lit V [bS x] 9 1 V.heap.size 1 rfl rfl (by decide)) (bS_one x) (by unfold maxLen; omega) (by omega) ?_; intro ad' cap' w7 ho hg hf; obtain ⟨g1, hfi, hke⟩ := H1.out.add (xs' := pre ++ [x]) (fun i h => (HXB.out i h).2) HV1.out HV3.out (by rw [List.map_append]; exact ho) (by simp [HJ.out]) hg hf; have HFI := Lw.hid hfi; have HKE := Lw.hid hke; have o5 := heap_cell g1 0; have f5 := heap_free g1 0; have m5 := heap_cell (HFI.out.k.heap HM6.out (fun h => by omega)) 0; rw [World.cell?_setCell_other _ _ _ _ (by intro e; have e2 := congrArg Addr.block e; dsimp only at e2; omega)] at m5; clear ho hg hf hfi hke g1)
            exact ⟨HKE.out _ HRN.out, HFI.out, by rw [List.length_append, HJ.out, List.length_singleton]; have := HJM.out; omega⟩
        case done =>
          rintro X D V hD hXD hXb ⟨h1, h2⟩ hsd hdf
          rw [hac.out]
          have hG : (cutL l).filter (matchF p) = W := by
            rw [← HWW.out]; unfold wantF; rw [List.take_of_length_le (by omega)]
          have hask : AsK (b + 2) need V := by
            have h3 : need = k := HNE.out.1 (by rw [← HWL.out, ← hG]; exact h2)
            rw [h3, ← HLN.out]; exact hsd
          obtain ⟨v, hv1, hv2, hv3⟩ := h1.out
          obtain ⟨ad8, cap8, rfl, hc81, hc82, _⟩ := own_slice hv2
          rw [hG] at hv1 hv2 hv3 hc81
          have H1 := Lw.hid h1; have HV3 := Lw.hid hv3; have HDF := Lw.hid hdf
          have hs8 := HSB.out
          have HGR : Hid (RdS V (.slice ad8 W.length cap8) W) := Lw.hid (RdS.own hv2 rfl)
          have HWR : Hid (RdS V (.slice adw wl cpw) W) := Lw.hid (by
            have := own_kept h1.k HWO5.out (fun i hi e => by have := (HWL5.out i hi).1; omega)
            exact RdS.own this HWL.out.symm)
          rw [HWL.out] at HGR hv1
          have o0 := heap_cell hv1 0
          have HAS := Lw.hid hask
          clear hv1 hv2 hv3 h1 hask hac hc81 hG hdf
          go_wp2_with fail
          refine (eqs_any V _ _ W W HGR.out HWR.out rfl).mono ?_
          rintro e x1 ⟨rfl, kx1⟩
          have KX1 := Lw.hid kx1
          have a0 := heap_cell (kx1.heap HAS.out (fun h => h)) 0
          clear kx1 o0
          go_wp2_with fail
          refine (pwakes_any x1).mono ?_
          rintro e x2 ⟨rfl, kx2⟩
          have KX2 := Lw.hid (KX1.out.trans kx2 (fun _ _ h => h))
          clear kx2 a0
          go_wp2_with fail
          refine leaves_marks [D] x2 (by simp) (fun r hr => by rw [List.mem_singleton.1 hr]; exact KX2.out.heap HDF.out (fun h => h)) (fun V' hk => ⟨_, results_tmp rfl _ _ _, rfl, ?_⟩)
          have hB := HBw.out; have hBb := HBb.out; have h6 := K5.out.size; have hsw := KB.out.size
          exact ((((KB.out.trans K5.out (fun _ _ h => h)).trans H1.out.k (fun i hi h => by omega)).trans KX2.out (fun _ _ h => h)).trans hk (fun i hi h => by rw [List.mem_singleton.1 h] at hi; omega))
        case stop =>
          rintro X c pre D V hD hXD hXb hpre hne ⟨rfl, h1, h2⟩ hsx hdf
          rw [hac.out]
          have hG : pre = W := by
            rw [← HWW.out]; unfold wantF
            obtain ⟨t, ht⟩ := hpre
            rw [← ht, ← h2, List.take_left' rfl]
          have hask : AsK (b + 2) need V := by
            have h3 : need = nd := HNE.out.2 (by rw [← HWL.out, ← hG]; omega)
            obtain ⟨pre2, q1, q2, ⟨q, x, rfl, q3⟩, q4⟩ := hsx
            rcases HND.out with ⟨h4, _⟩ | ⟨q', x', r1, r2, r3, r4⟩
            · rw [HWW.out, ← hG] at h4
              rw [h4] at h2; simp at h2; omega
            · have h5 := nd_same q1 r1 q3 r2 (by rw [q2, r4, HWW.out, hG])
              rw [h3, r3, ← h5]
              have h6 : (q ++ [x]).length = q.length + 1 := by simp
              rw [← h6]; exact q4
          obtain ⟨v, hv1, hv2, hv3⟩ := h1.out
          obtain ⟨ad8, cap8, rfl, hc81, hc82, _⟩ := own_slice hv2
          rw [hG] at hv1 hv2 hv3 hc81
          have H1 := Lw.hid h1; have HV3 := Lw.hid hv3; have HDF := Lw.hid hdf
          have hs8 := HSB.out
          have HGR : Hid (RdS V (.slice ad8 W.length cap8) W) := Lw.hid (RdS.own hv2 rfl)
          have HWR : Hid (RdS V (.slice adw wl cpw) W) := Lw.hid (by
            have := own_kept h1.k HWO5.out (fun i hi e => by have := (HWL5.out i hi).1; omega)
            exact RdS.own this HWL.out.symm)
          rw [HWL.out] at HGR hv1
          have o0 := heap_cell hv1 0
          have HAS := Lw.hid hask
          clear hv1 hv2 hv3 h1 hask hac hc81 hG hdf
          go_wp2_with fail
          refine (eqs_any V _ _ W W HGR.out HWR.out rfl).mono ?_
          rintro e x1 ⟨rfl, kx1⟩
          have KX1 := Lw.hid kx1
          have a0 := heap_cell (kx1.heap HAS.out (fun h => h)) 0
          clear kx1 o0
          go_wp2_with fail
          refine (pwakes_any x1).mono ?_
          rintro e x2 ⟨rfl, kx2⟩
          have KX2 := Lw.hid (KX1.out.trans kx2 (fun _ _ h => h))
          clear kx2 a0
          go_wp2_with fail
          refine leaves_marks [D] x2 (by simp) (fun r hr => by rw [List.mem_singleton.1 hr]; exact KX2.out.heap HDF.out (fun h => h)) (fun V' hk => ⟨_, results_tmp rfl _ _ _, rfl, ?_⟩)
          have hB := HBw.out; have hBb := HBb.out; have h6 := K5.out.size; have hsw := KB.out.size
          exact ((((KB.out.trans K5.out (fun _ _ h => h)).trans H1.out.k (fun i hi h => by omega)).trans KX2.out (fun _ _ h => h)).trans hk (fun i hi h => by rw [List.mem_singleton.1 h] at hi; omega))
theorem pnames_below (w : World) (p0 : ByteArray) (nv : Value) (l0 : List (List UInt8)) (st : Nat) (hp0 : p0.size ≤ 9223372036854775807) (hr : Rd w 1 nv l0.length (l0.map fun s => Value.string (BA s))) (hl0 : ∀ s ∈ l0, s.length ≤ 9223372036854775807) (hst : st < 256) :
    Calls Try.prog 3 #[.string p0, nv, .int .u8 (st : Int)] w fun e w' => e = .returned (.bool true) ∧ Below w.heap.size w w' := by
  have h := pnames_any w p0.data.toList nv l0 st (by rw [← BA_size, ← BA_of]; exact hp0) hr hl0 hst
  rw [← BA_of] at h
  exact h.mono fun _ _ ⟨e, k⟩ => ⟨e, Below.of_kept k⟩
end Go.Proofs.Ytkfoinphkjmlmaa
