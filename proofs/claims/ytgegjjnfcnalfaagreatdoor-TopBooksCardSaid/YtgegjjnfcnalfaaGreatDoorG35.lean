/- Of the proof of TopBooks: RB, SlEq. -/
import Derived.Test.YtgegjjnfcnalfaaGreatDoorG34
import Derived.Test.YtgegjjnfcnalfaaGreatDoorG19
import Derived.Test.YtgegjjnfcnalfaaGreatDoorChecked
import Derived.Test.YtgegjjnfcnalfaaGreatDoorG00
import Derived.Laws.BitsAllLaws
import Derived.Deep.QuietTactic
import Derived.BigQuiet
namespace Go.Proofs.YtgegjjnfcnalfaaGreatDoor
open Go Go.RowKit Go.Lw
set_option maxRecDepth 100000
set_option linter.unusedVariables false
set_option linter.unusedSimpArgs false
attribute [local go_sem] Oper.semAt_some
attribute [local go_sem] BA_toList
theorem jall_any (w : World) (p : Option Addr) :
    Calls Tryz.prog 35 #[.pointer p] w fun x w' => ∃ BB, x = .returned (.func (.func 78) #[] #[.pointer (some ⟨BB, 0, none⟩)]) ∧ w'.heap[BB]? = some (.cells #[.pointer p] 27 (0, 0)) ∧ Kept (fun _ => False) w w' ∧ w.heap.size ≤ BB := by
  go_enter Tryz.func35, Tryz.ntmps35
  go_wp2_with fail
  go_ret
  exact ⟨w.heap.size, rfl, heap_alloc _ _, (Kept.refl _ w).alloc _, Nat.le_refl _⟩
theorem safe_any (w : World) (f : Nat) (pre lb : Array Value) :
    Calls Tryz.prog 34 #[.func (.func f) pre lb] w fun x w' => x = .returned (.func (.func f) pre lb) ∧ w' = w := by
  have he := run_func_nil (P := Tryz.prog) w 81 (.func f) pre lb Tryz.underlying81
  go_enter Tryz.func34, Tryz.ntmps34
  go_wp2_with fail
  go_ret
  exact ⟨rfl, rfl⟩
structure CwAt (w0 : World) (C : Nat) (X : Nat → Prop) (xs : List Cmd) (V : World) : Prop where
  k : Kept (fun k => k = C) w0 V
  lo : C < w0.heap.size
  x : ∀ k, X k → w0.heap.size ≤ k
  out : ∃ v, V.heap[C]? = some (.cells #[v] 34 (0, 0)) ∧ RowC V v xs ∧ ∀ k, blk v k → w0.heap.size ≤ k ∧ ¬ X k ∧ k < V.heap.size
theorem CwAt.ab {w0 A A' : World} {C : Nat} {X X' : Nat → Prop} {xs : List Cmd} (h : CwAt w0 C X xs A) (hk : Kept X A A') (hx : ∀ k, X' k → X k ∨ (A.heap.size ≤ k ∧ k < A'.heap.size)) : CwAt w0 C X' xs A' := by
  obtain ⟨v, h1, h2, h3⟩ := h.out
  have hl := h.lo; have hz := h.k.size
  have hxx := h.x
  refine ⟨h.k.trans hk (fun i hi hX => by have := hxx i hX; omega), hl, fun k hk' => ?_, v, hk.heap h1 (fun hX => by have := hxx _ hX; omega), own_kept hk h2 (fun k hb hX => (h3 k hb).2.1 hX), fun k hb => ⟨(h3 k hb).1, fun hX => ?_, Nat.lt_of_lt_of_le (h3 k hb).2.2 hk.size⟩⟩
  · rcases hx k hk' with h4 | h4
    · exact hxx k h4
    · omega
  · rcases hx k hX with h4 | h4
    · exact (h3 k hb).2.1 h4
    · have := (h3 k hb).2.2; omega
theorem CwAt.add {w0 V V1 w5 : World} {C : Nat} {X : Nat → Prop} {xs : List Cmd} {c : Cmd} {v v' : Value} (h : CwAt w0 C X xs V) (hX : ∀ k, X k → k < V.heap.size)
    (h1 : V.heap[C]? = some (.cells #[v] 34 (0, 0))) (h3 : ∀ k, blk v k → w0.heap.size ≤ k ∧ ¬ X k ∧ k < V.heap.size) (k1 : Kept (fun _ => False) V V1)
    (ho : RowC w5 v' (xs ++ [c])) (hg : V1.grownBy w5 v.ownBlock) (hf : Fresh V1 v v') :
    w5.heap[C]? = some (.cells #[v] 34 (0, 0)) ∧ CwAt w0 C X (xs ++ [c]) (w5.setCell ⟨C, 0, none⟩ v') ∧ (∀ R : Nat → Prop, (∀ k, R k → k < w0.heap.size ∧ k ≠ C) → Keeps (fun k => R k ∨ X k) V (w5.setCell ⟨C, 0, none⟩ v')) := by
  have hl := h.lo; have hz := h.k.size; have hxx := h.x
  have k2 : Kept (blk v) V w5 := (k1.mono (fun _ _ h => h.elim)).grown hg (fun k e _ => e)
  have hC : ¬ blk v C := fun e => by have := (h3 C e).1; omega
  have g1 := k2.heap h1 hC
  have ks : Kept (fun k => k = C) w5 (w5.setCell ⟨C, 0, none⟩ v') := (Kept.refl (fun k => k = C) w5).set C 0 (fun _ => rfl) _
  have k3 : Kept (fun k => blk v k ∨ k = C) V (w5.setCell ⟨C, 0, none⟩ v') := (k2.mono (fun _ _ h => .inl h)).trans ks (fun _ _ h => .inr h)
  have hv' : ∀ k, blk v' k → w0.heap.size ≤ k ∧ ¬ X k ∧ k < w5.heap.size := fun k hk => by
    have hlt := own_lt ho k hk
    rcases hf k hk with h4 | h4
    · exact ⟨(h3 k h4).1, (h3 k h4).2.1, hlt⟩
    · have := k1.size
      exact ⟨by omega, fun hx => by have := hX k hx; omega, hlt⟩
  refine ⟨g1, ⟨h.k.trans k3 (fun i hi hS => ?_), hl, hxx, v', heap_set g1 0 v', own_kept ks ho (fun k hk e => by have := (hv' k hk).1; omega), fun k hk => ⟨(hv' k hk).1, (hv' k hk).2.1, Nat.lt_of_lt_of_le (hv' k hk).2.2 ks.size⟩⟩, fun R hR => k3.keeps (fun k hk hr hs => ?_)⟩
  · rcases hS with e | e
    · have := (h3 i e).1; omega
    · exact e
  · rcases hr with h4 | h4
    · have := hR k h4
      rcases hs with h5 | h5
      · have := (h3 k h5).1; omega
      · exact this.2 h5
    · rcases hs with h5 | h5
      · exact (h3 k h5).2.1 h4
      · have := hxx k h4; omega
set_option maxHeartbeats 8000000 in
theorem commands_any (w : World) (F : Nat → Prop) (j BL sp : Nat) (va : Value) (J : Jr) (h : JAt w F j BL va sp J) (hl : J.cs.length ≤ 1000) :
    Calls Tryz.prog 8 #[.pointer (some ⟨j, 0, none⟩)] w fun e w' => ∃ v, e = .returned v ∧ RowC w' v J.cs ∧ (∀ k, blk v k → w.heap.size ≤ k) ∧ Kept (fun _ => False) w w' := by
  have H := Lw.hid h
  have hjl := heap_lt h.box; have hvl := own_lt h.row
  have HVL := Lw.hid hvl
  clear h hvl
  refine calls_of_wp_marks Tryz.func8 rfl ?_
  simp only [Tryz.ntmps8, List.size_toArray, List.length_cons, List.length_nil, Nat.reduceAdd, Nat.reduceSub, Array.replicate_succ, Array.replicate_zero, List.push_toArray, List.append_toArray, List.nil_append, List.cons_append]
  go_wp2_with fail
  obtain ⟨wa, hwa⟩ : ∃ wa, w.alloc (.cells #[.slice none 0 0] 34) = wa := ⟨_, rfl⟩
  obtain ⟨C, hC⟩ : ∃ C, w.heap.size = C := ⟨_, rfl⟩
  have KA : Hid (Kept (fun _ => False) w wa) := Lw.hid (by rw [← hwa]; exact (Kept.refl _ w).alloc _)
  have hca : wa.heap[C]? = some (.cells #[.slice none 0 0] 34 (0, 0)) := by rw [← hwa, ← hC]; exact heap_alloc w _
  rw [hwa, hC]
  have HC := Lw.hid hC
  clear hwa hC
  refine (jall_any wa _).mono ?_
  rintro e wb ⟨BB, rfl, hbb, kb, hlb⟩
  have HBB := Lw.hid hbb; have KB := Lw.hid (KA.out.trans kb (fun _ _ h => h)); have HCB := Lw.hid (kb.heap hca (fun h => h))
  have hlca := heap_lt hca; have hlbb := heap_lt hbb; have hszb := kb.size
  clear hbb kb hca
  go_wp2_with fail
  refine (safe_any wb _ _ _).mono ?_
  rintro e w0 ⟨rfl, rfl⟩
  have HJ := H.out.kept KB.out (fun _ _ h => h)
  have HIT : Hid (Iter Tryz.prog 78 #[.pointer (some ⟨BB, 0, none⟩)] cmdE (CmR BB j va) J.cs w0) := Lw.hid (jall_iter w0 BB j BL sp va J.mark J.cs ⟨HBB.out, HJ.box, HJ.row⟩ hl)
  have HRB : Hid (∀ k, CmR BB j va k → k < w0.heap.size ∧ k ≠ C) := Lw.hid (fun k hk => by
    have := HC.out
    rcases hk with e | e | e
    · omega
    · have := KB.out.size; omega
    · have := HVL.out k e; have := KB.out.size; omega)
  clear HJ
  go_wp2_with fail
  refine wp_nm (fun ac hac => ?_)
  refine wp_range (gf := 78) (lb := #[.pointer (some ⟨BB, 0, none⟩)]) (by rw [hac.out]; rfl) (Go.Proofs.enters_of Tryz.func78 (by kernel_rfl) rfl) HIT.out (fun k h => (HRB.out k h).1) (fun _ => rfl)
    (fun X pre V => CwAt w0 C X pre V ∧ pre.length ≤ J.cs.length)
    (fun c X pre V => False)
    ?_ ?_ ?_ (fun X q V => ∃ kf, (V.heap[kf]? = some (.cells #[.int .u32 (q.2.1.id : Int), .string (BA q.2.1.text), .string (BA q.2.1.out), .string (BA q.2.1.err), .int .i64 q.2.1.sig, .int .i64 q.2.1.status, .bool q.2.1.over, .bool q.2.1.cut] 54 (0, 0)) ∧ ¬ X kf ∧ kf < V.heap.size) ∧ q.2.2 = { tmps := (ac.tmps.setIfInBounds 8 (.agg #[.int .u32 (q.2.1.id : Int), .string (BA q.2.1.text), .string (BA q.2.1.out), .string (BA q.2.1.err), .int .i64 q.2.1.sig, .int .i64 q.2.1.status, .bool q.2.1.over, .bool q.2.1.cut])).setIfInBounds 4 (.pointer (some ⟨kf, 0, none⟩)), defers := [] }) ?_ ?assign ?body ?done ?stop
  · rintro X X' s V V' ⟨h1, h2⟩ hk hx
    exact ⟨h1.ab hk hx, h2⟩
  · rintro c X X' s V V' h hk hx
    exact h
  · exact ⟨⟨Kept.refl _ _, by omega, fun _ h => h.elim, _, HCB.out, World.ownsRow_nil _ _ _ _, fun k h => (blk_none h).elim⟩, Nat.zero_le _⟩
  · rintro X X' q V V' ⟨kf, ⟨h1, h2, h3⟩, h4⟩ hk hx
    exact ⟨kf, ⟨hk.heap h1 h2, fun hX => by
      rcases hx kf hX with h | h
      · exact h2 h
      · omega, Nat.lt_of_lt_of_le h3 hk.size⟩, h4⟩
  case assign =>
    rintro y X pre x V K hi hXb hpx hsz hK
    have hac' := hac.out
    rw [hac'] at hK ⊢
    have HI := Lw.hid hi; have HXB := Lw.hid hXb
    clear hi hXb
    gi_wp2
    have k1 : Kept (fun _ => False) V (V.alloc (.cells #[.int .u32 (x.id : Int), .string (BA x.text), .string (BA x.out), .string (BA x.err), .int .i64 x.sig, .int .i64 x.status, .bool x.over, .bool x.cut] 54)) := (Kept.refl _ V).alloc _
    refine hK _ _ (k1.keeps (fun _ _ _ h => h)) ⟨HI.out.1.ab (k1.mono (fun _ _ h => h.elim)) (fun _ h => .inl h), HI.out.2⟩ ⟨V.heap.size, ⟨heap_alloc V _, fun h => by have := (HXB.out _ h).2; omega, by simp⟩, rfl⟩
  case body =>
    rintro y X pre x a' V ⟨h1, h2⟩ ⟨kf, ⟨hb1, hb2, hb3⟩, hax⟩ hXb hpx hsz
    dsimp only at hax hb1
    subst hax
    rw [hac.out]
    simp only [List.setIfInBounds_toArray, List.set_cons_zero, List.set_cons_succ]
    obtain ⟨v, hv1, hv2, hv3⟩ := h1.out
    have hpl : pre.length + 1 ≤ J.cs.length := by have := hpx.length_le; simpa using this
    obtain ⟨n, hn⟩ : ∃ n, pre.length = n := ⟨_, rfl⟩
    have hv2' := hv2
    unfold RowC at hv2'
    rw [hn] at hv2' hpl
    obtain ⟨ad, cap, rfl, hc1, hc2, _⟩ := own_slice hv2'
    have H1 := Lw.hid h1; have HV1 := Lw.hid hv1; have HV2 := Lw.hid hv2'; have HV3 := Lw.hid hv3; have HXB := Lw.hid hXb; have HN := Lw.hid hn
    have o0 := heap_cell hv1 0; have f0 := heap_free hv1 0
    have q0 := heap_cell hb1 0; have q1 := heap_cell hb1 1; have q2 := heap_cell hb1 2; have q3 := heap_cell hb1 3; have q4 := heap_cell hb1 4; have q5 := heap_cell hb1 5; have q6 := heap_cell hb1 6; have q7 := heap_cell hb1 7
    unfold maxLen at hc2
    have e1 : Hid ((V.alloc (.cells #[.int .u32 (x.id : Int), .string (BA x.text), .string (BA x.out), .string (BA x.err), .int .i64 x.sig, .int .i64 x.status, .bool x.over, .bool x.cut] 54)).ownsRow 0 54 8 (.slice ad n cap) n (pre.flatMap Cmd.cells)) := Lw.hid (own_kept ((Kept.refl (fun _ => False) V).alloc _) HV2.out (fun _ _ h => h))
    have RL : Hid (Rd (V.alloc (.cells #[.int .u32 (x.id : Int), .string (BA x.text), .string (BA x.out), .string (BA x.err), .int .i64 x.sig, .int .i64 x.status, .bool x.over, .bool x.cut] 54)) 8 (.slice (some ⟨V.heap.size, 0, none⟩) 1 1) 1 x.cells) := Lw.hid (Rd.lit V x.cells 54 8 V.heap.size 1 rfl rfl (by decide))
    clear h1 hv1 hv2 hv2' hv3 hXb hn h2 hb1 hac
    gi_wp2_with (gi_at_builtin; refine wpListIn_app rfl _ _ _ rfl EC _ n _ rfl e1.out _ 1 _ rfl RL.out (oneC x) (by unfold maxLen; omega) (by omega) ?_; intro ad' cap' w5 ho hg hf; obtain ⟨g1, hfi, hke⟩ := H1.out.add (fun k h => (HXB.out k h).2) HV1.out HV3.out ((Kept.refl _ V).alloc _) (by unfold RowC; rw [List.length_append, HN.out, List.flatMap_append]; simpa using ho) hg hf; have HFI := Lw.hid hfi; have HKE := Lw.hid hke; have o5 := heap_cell g1 0; have f5 := heap_free g1 0; clear ho hg hf hfi hke g1)
    exact ⟨HKE.out _ HRB.out, HFI.out, by simp; have := HN.out; omega⟩
  case done =>
    rintro X D V hD hXD hXb ⟨h1, h2⟩ hdf
    rw [hac.out]
    obtain ⟨v, hv1, hv2, hv3⟩ := h1.out
    obtain ⟨n, hn⟩ : ∃ n, J.cs.length = n := ⟨_, rfl⟩
    have hv2' := hv2
    unfold RowC at hv2'
    rw [hn] at hv2'
    obtain ⟨ad, cap, rfl, hc1, hc2, _⟩ := own_slice hv2'
    have o0 := heap_cell hv1 0
    have H1 := Lw.hid h1; have HV2 := Lw.hid hv2; have HV3 := Lw.hid hv3; have HDF := Lw.hid hdf
    clear hv1 hv2 hv2' hv3 h1 hdf hn
    go_wp2_with fail
    refine leaves_marks [D] V (by simp) (fun r hr => by rw [List.mem_singleton.1 hr]; exact HDF.out) (fun V' hk => ⟨_, results_tmp rfl _ _ _, _, rfl, ?_, fun k hk' => ?_, ?_⟩)
    · exact own_kept hk HV2.out (fun k hb hd => (HV3.out k hb).2.1 (by rw [List.mem_singleton.1 hd]; exact hXD))
    · have := (HV3.out k hk').1; have := KB.out.size; omega
    · exact (KB.out.trans H1.out.k (fun i hi e => by have := HC.out; omega)).trans hk (fun i hi e => by rw [List.mem_singleton.1 e] at hi; have := KB.out.size; omega)
  case stop =>
    rintro X c pre D V hD hXD hXb hpre hne h hdf
    exact h.elim
end Go.Proofs.YtgegjjnfcnalfaaGreatDoor
namespace Go.Proofs.YtgegjjnfcnalfaaGreatDoor
open Go Go.RowKit Go.Lw
set_option maxRecDepth 100000
theorem kept_drewN (w : World) (n : Nat) : Kept (fun _ => False) w (w.drewN n) := ⟨rfl, rfl, rfl, Nat.le_refl _, fun _ _ _ => rfl⟩
theorem rdb_opened {w : World} {v : Value} {l : List UInt8} (h : RdB w v l) : ∃ a cap, v = .slice a l.length cap ∧ l.length ≤ cap ∧ cap ≤ maxLen ∧
    ∀ j c, l[j]? = some c → ∃ g off, a = some ⟨g, off, Option.none⟩ ∧ w.cell? ⟨g, off + j, Option.none⟩ = some (.int .u8 (c.toNat : Int)) := by
  obtain ⟨_, a, cap, rfl, h1, h2, h3⟩ := h
  exact ⟨a, cap, rfl, h1, h2, fun j c hj => h3 j _ (by rw [List.getElem?_map, hj]; rfl)⟩
theorem at_lt {l : List UInt8} {k : Nat} (h : k < l.length) : ∃ c, l[k]? = some c := ⟨_, List.getElem?_eq_getElem h⟩
theorem take_at {l : List UInt8} {k : Nat} {c : UInt8} (h : l[k]? = some c) : l.take (k + 1) = l.take k ++ [c] := by
  have hl : k < l.length := by
    rcases Nat.lt_or_ge k l.length with h' | h'
    · exact h'
    · rw [List.getElem?_eq_none h'] at h; cases h
  rw [take_snoc l k hl]
  rw [List.getElem?_eq_getElem hl] at h
  rw [Option.some.inj h]
set_option maxHeartbeats 1000000 in
theorem sleq_any (w : World) (x y : Value) (l m : List UInt8) (hx : RdB w x l) (hy : RdB w y m) (b : Bool) (hb : (l == m) = b) :
    Calls Tryz.prog 96 #[x, y] w fun e w' => e = .returned (.bool b) ∧ Kept (fun _ => False) w w' := by
  have HB : Hid ((l == m) = b) := Lw.hid hb
  clear hb
  obtain ⟨ad, cap, rfl, h1, h2, hc⟩ := rdb_opened hx
  obtain ⟨ad', cap', rfl, h1', h2', hc'⟩ := rdb_opened hy
  unfold maxLen at h2 h2'
  have HC := Lw.hid hc; have HC' := Lw.hid hc'
  clear hx hy hc hc'
  have HL : Hid (l.length = l.length) := Lw.hid rfl
  have HM : Hid (m.length = m.length) := Lw.hid rfl
  obtain ⟨L, hL⟩ : ∃ L, l.length = L := ⟨_, rfl⟩
  obtain ⟨M, hM⟩ : ∃ M, m.length = M := ⟨_, rfl⟩
  rw [hL] at h1 ⊢
  rw [hM] at h1' ⊢
  replace HL : Hid (l.length = L) := Lw.hid hL
  replace HM : Hid (m.length = M) := Lw.hid hM
  clear hL hM
  by_cases hne : L = M
  · subst hne
    go_enter Tryz.func96, Tryz.ntmps96
    go_wp2_with fail
    go_loopw [13] (fun i wr => ∃ k : Nat, k ≤ L ∧ i = .int .i64 (k : Int) ∧ l.take k = m.take k ∧ ∃ n, wr = w.drewN n) (fun i _ => L - (intOf i).toNat)
    case atStart => exact ⟨0, Nat.zero_le _, rfl, rfl, 0, rfl⟩
    case round =>
      obtain ⟨k, hk, rfl, he, n, rfl⟩ := hrel
      have HE := Lw.hid he
      clear he
      by_cases hlt : k < L
      · obtain ⟨c, hlc⟩ := at_lt (l := l) (k := k) (by rw [HL.out]; exact hlt)
        obtain ⟨d, hmd⟩ := at_lt (l := m) (k := k) (by rw [HM.out]; exact hlt)
        obtain ⟨g, off, rfl, c1⟩ := HC.out k c hlc
        obtain ⟨g', off', rfl, c2⟩ := HC'.out k d hmd
        have i0 : (0 : Int) ≤ (k : Int) := by omega
        have i1 : (k : Int) < (L : Int) := by omega
        have HLC := Lw.hid hlc; have HMD := Lw.hid hmd
        clear hlc hmd
        by_cases hbb : c = d
        · subst hbb
          go_wp2_with fail
          go_quiet (fail)
          go_wp2_with fail
          go_roundw
          case rel => exact ⟨k + 1, by omega, by go_num, by rw [take_at HLC.out, take_at HMD.out, HE.out], _, rfl⟩
          case measure => simp [intOf]; omega
        · have hnb : ((c.toNat : Int) != (d.toNat : Int)) = true := by
            rw [bne_iff_ne]
            intro e
            exact hbb (UInt8.toNat_inj.1 (by omega))
          have HNB : Hid (l ≠ m) := Lw.hid (fun e => hbb (by have h1 := HLC.out; have h2 := HMD.out; rw [e, h2] at h1; exact (Option.some.inj h1).symm))
          clear hbb
          go_wp2_with fail
          go_quiet (fail)
          go_wp2_with fail
          go_ret
          exact ⟨by rw [← HB.out, beq_eq_false_iff_ne.2 HNB.out]; rfl, (kept_drewN w n).trans (kept_drewN _ nq) (fun _ _ h => h)⟩
      · obtain rfl : k = L := by omega
        go_wp2_with fail
        go_ret
        have e : l = m := by
          have := HE.out
          rwa [List.take_of_length_le (by rw [HL.out]; exact Nat.le_refl _), List.take_of_length_le (by rw [HM.out]; exact Nat.le_refl _)] at this
        exact ⟨by rw [← HB.out, e]; simp, kept_drewN _ _⟩
  · have hbeq : ((L : Int) != (M : Int)) = true := by rw [bne_iff_ne]; omega
    have HNE : Hid (l ≠ m) := Lw.hid (fun e => hne (by rw [← HL.out, ← HM.out, e]))
    clear hne
    go_enter Tryz.func96, Tryz.ntmps96
    go_wp2_with fail
    go_ret
    exact ⟨by rw [← HB.out, beq_eq_false_iff_ne.2 HNE.out]; rfl, Kept.refl _ _⟩
end Go.Proofs.YtgegjjnfcnalfaaGreatDoor
