/- longwirelaw15.Rows: a log's payloads. -/
import Derived.Test.YtfmebmaklakckaaDoorLogL
namespace Go.Proofs.YtfmebmaklakckaaDoor
open Go Go.RowKit Go.Lw
set_option maxRecDepth 100000
set_option linter.unusedVariables false
set_option linter.unusedSimpArgs false
attribute [local go_sem] Oper.semAt_some
theorem EL : ElemT Tryd.prog 34 38 1 24 := ElemT.of (z := .slice none 0 0) Tryd.underlying34 (by kernel_rfl) rfl (by decide)
/-- The numbers of frames. -/
theorem framesF_num {b : List UInt8} : ∀ (n : Nat) (s : Fd) (i : Nat) (f : Fd), (framesF b n s)[i]? = some f → f.num = (s.num + 1 + i) % 4294967296
  | 0, _, _, _, h => by simp [framesF] at h
  | n + 1, s, i, f, h => by
    unfold framesF at h
    cases hst : stepF b s with
    | none => rw [hst] at h; simp at h
    | some f1 =>
      rw [hst] at h
      obtain ⟨_, _, _, _, _, h5, _⟩ := step_some hst
      cases i with
      | zero => simp at h; subst h; rw [h5]
      | succ i =>
        have := framesF_num n f1 i f (by simpa using h)
        rw [this, h5]; omega
theorem framesF_len {b : List UInt8} : ∀ (n : Nat) (s : Fd), s.fin ≤ b.length → s.fin + 10 * (framesF b n s).length ≤ b.length
  | 0, _, h => by simpa [framesF] using h
  | n + 1, s, h => by
    unfold framesF
    cases hst : stepF b s with
    | none => simpa using h
    | some f1 =>
      have h1 := step_fin hst h
      have := framesF_len n f1 h1.1
      simp only [List.length_cons]; omega
/-- Values that read as bytes, in blocks of Q. -/
def Pays (V : World) (Q : Nat → Prop) (vs : List Value) (ls : List (List UInt8)) : Prop := vs.length = ls.length ∧ ∀ (i : Nat) (u : Value) (l : List UInt8), vs[i]? = some u → ls[i]? = some l → RdB V u l ∧ (l.length ≠ 0 → ∀ k, blk u k → Q k)
theorem Pays.kept {V V' : World} {Q Q' S : Nat → Prop} {vs : List Value} {ls : List (List UInt8)} (h : Pays V Q vs ls) (k : Kept S V V') (hS : ∀ i, i < V.heap.size → Q i → ¬ S i) (hQ : ∀ i, i < V.heap.size → Q i → Q' i) : Pays V' Q' vs ls :=
  ⟨h.1, fun i u l hu hl => by
    obtain ⟨h1, h2⟩ := h.2 i u l hu hl
    exact ⟨h1.keptE k (fun hn j hj => hS j (h1.lt hn j hj) (h2 hn j hj)), fun hn j hj => hQ j (h1.lt hn j hj) (h2 hn j hj)⟩⟩
theorem Pays.snoc {V : World} {Q : Nat → Prop} {vs : List Value} {ls : List (List UInt8)} {u : Value} {l : List UInt8} (h : Pays V Q vs ls) (h1 : RdB V u l) (h2 : l.length ≠ 0 → ∀ k, blk u k → Q k) : Pays V Q (vs ++ [u]) (ls ++ [l]) := by
  refine ⟨by simp [h.1], fun i u' l' hu hl => ?_⟩
  by_cases hi : i < vs.length
  · rw [List.getElem?_append_left hi] at hu
    rw [List.getElem?_append_left (by rw [← h.1]; exact hi)] at hl
    exact h.2 i u' l' hu hl
  · rw [List.getElem?_append_right (by omega)] at hu
    rw [List.getElem?_append_right (by rw [← h.1]; omega), ← h.1] at hl
    cases hj : i - vs.length with
    | zero => rw [hj] at hu hl; simp at hu hl; subst hu; subst hl; exact ⟨h1, h2⟩
    | succ j => rw [hj] at hu; simp at hu
theorem Pays.nil (V : World) (Q : Nat → Prop) : Pays V Q [] [] := ⟨rfl, fun i u l h => by simp at h⟩
/-- What is gathered. -/
structure RwAt (w0 : World) (C3 : Nat) (X : Nat → Prop) (ls : List (List UInt8)) (V : World) : Prop where
  k : Kept (fun k => k = C3) w0 V
  lo : C3 < w0.heap.size
  x : ∀ k, X k → w0.heap.size ≤ k
  out : ∃ v vs, V.heap[C3]? = some (.cells #[v] 34 (0, 0)) ∧ V.ownsRow 0 38 1 v ls.length vs ∧ (∀ k, blk v k → w0.heap.size ≤ k ∧ ¬ X k) ∧ Pays V (fun k => w0.heap.size ≤ k ∧ ¬ X k ∧ ¬ blk v k) vs ls
theorem RwAt.ab {w0 A A' : World} {C3 : Nat} {X X' : Nat → Prop} {ls : List (List UInt8)} (h : RwAt w0 C3 X ls A) (hk : Kept X A A') (hx : ∀ k, X' k → X k ∨ (A.heap.size ≤ k ∧ k < A'.heap.size)) : RwAt w0 C3 X' ls A' := by
  obtain ⟨v, vs, h1, h2, h3, h4⟩ := h.out
  have h8 : ¬ X C3 := fun hX => by have := h.x _ hX; have := h.lo; omega
  refine ⟨h.k.trans hk (fun i hi hX => by have := h.x i hX; omega), h.lo, fun k hX => ?_, v, vs, hk.heap h1 h8, own_kept hk h2 (fun k hb => (h3 k hb).2), fun k hb => ⟨(h3 k hb).1, fun hX => ?_⟩, h4.kept hk (fun i _ hq => hq.2.1) (fun i hi hq => ⟨hq.1, fun hX => ?_, hq.2.2⟩)⟩
  · rcases hx k hX with e | e
    · exact h.x k e
    · have := h.k.size; omega
  · have := own_lt h2 k hb
    rcases hx k hX with e | e
    · exact (h3 k hb).2 e
    · omega
  · rcases hx i hX with e | e
    · exact hq.2.1 e
    · omega
/-- The round: a payload. -/
structure RdP (lo : Nat) (vv : Value) (l : List UInt8) (X Xp : Nat → Prop) (V : World) : Prop where
  rd : RdB V vv l
  pl : l.length ≠ 0 → ∀ k, blk vv k → lo ≤ k ∧ ¬ X k ∧ Xp k
theorem RdP.ab {lo : Nat} {vv : Value} {l : List UInt8} {A A' : World} {X X' Xp Xp' : Nat → Prop} (h : RdP lo vv l X Xp A) (hk : Kept X A A') (hx : ∀ k, X' k → X k ∨ (A.heap.size ≤ k ∧ k < A'.heap.size)) (hp : ∀ k, Xp k → Xp' k) : RdP lo vv l X' Xp' A' :=
  ⟨h.rd.keptE hk (fun hn k hb => (h.pl hn k hb).2.1), fun hn k hb => ⟨(h.pl hn k hb).1, fun h' => by
    have := h.rd.lt hn k hb
    rcases hx k h' with h2 | h2
    · exact (h.pl hn k hb).2.1 h2
    · omega, hp k (h.pl hn k hb).2.2⟩⟩
/-- One more is gathered. -/
theorem RwAt.add {w0 V w5 : World} {C3 n' : Nat} {X Xp : Nat → Prop} {ls : List (List UInt8)} {l : List UInt8} {v v' u : Value} {vs : List Value} {o : Obj} (hp : RwAt w0 C3 Xp ls V) (hXX : ∀ k, X k → Xp k) (hu : RdP w0.heap.size u l X Xp V)
    (h1 : V.heap[C3]? = some (.cells #[v] 34 (0, 0))) (h2 : V.ownsRow 0 38 1 v ls.length vs) (h3 : ∀ k, blk v k → w0.heap.size ≤ k ∧ ¬ Xp k) (h4 : Pays V (fun k => w0.heap.size ≤ k ∧ ¬ Xp k ∧ ¬ blk v k) vs ls) (hXl : ∀ k, Xp k → k < V.heap.size)
    (ho : w5.ownsRow 0 38 1 v' n' (vs ++ [u])) (hn : n' = (ls ++ [l]).length) (hg : (V.alloc o).grownBy w5 v.ownBlock) (hf : Fresh (V.alloc o) v v') :
    w5.heap[C3]? = some (.cells #[v] 34 (0, 0)) ∧ RwAt w0 C3 X (ls ++ [l]) (w5.setCell ⟨C3, 0, none⟩ v') ∧ (∀ R : Nat → Prop, (∀ k, R k → k < w0.heap.size ∧ k ≠ C3) → Keeps (fun k => R k ∨ X k) V (w5.setCell ⟨C3, 0, none⟩ v')) := by
  subst hn
  have hl := hp.lo
  have k1 : Kept (blk v) V w5 := (Kept.refl _ V).alloc o |>.grown hg (fun k e _ => e)
  have g1 := k1.heap h1 (fun hb => by have := (h3 _ hb).1; omega)
  have k2 : Kept (fun k => blk v k ∨ k = C3) V (w5.setCell ⟨C3, 0, none⟩ v') := (k1.mono (fun _ _ h => .inl h)).set _ _ (fun _ => .inr rfl) _
  have hs0 := hp.k.size
  have hv' : ∀ k, blk v' k → w0.heap.size ≤ k ∧ ¬ X k ∧ (blk v k ∨ V.heap.size ≤ k) := fun k hk => by
    rcases hf k hk with h4 | h4
    · exact ⟨(h3 k h4).1, fun h => (h3 k h4).2 (hXX k h), .inl h4⟩
    · have h5 : V.heap.size ≤ k := by simp at h4; omega
      exact ⟨by omega, fun hx => by have := hXl k (hXX k hx); omega, .inr h5⟩
  have hown : (w5.setCell ⟨C3, 0, none⟩ v').ownsRow 0 38 1 v' (ls ++ [l]).length (vs ++ [u]) := own_kept ((Kept.refl (fun k => k = C3) w5).set _ _ (fun _ => rfl) _) ho (fun k hb e => by have := (hv' k hb).1; omega)
  have hP1 : Pays V (fun k => (w0.heap.size ≤ k ∧ ¬ X k ∧ ¬ blk v k)) (vs ++ [u]) (ls ++ [l]) :=
    (h4.kept (Kept.refl (fun _ => False) V) (fun _ _ _ h => h) (fun i _ hq => ⟨hq.1, fun h => hq.2.1 (hXX i h), hq.2.2⟩)).snoc hu.rd (fun hn k hb => ⟨(hu.pl hn k hb).1, (hu.pl hn k hb).2.1, fun hv => (h3 k hv).2 (hu.pl hn k hb).2.2⟩)
  refine ⟨g1, ⟨hp.k.trans k2 (fun i hi hx => by
    rcases hx with e | e
    · have := (h3 i e).1; omega
    · exact e), hl, fun k h => hp.x k (hXX k h), v', vs ++ [u], Boxed.set v' g1, hown, fun k hk => ⟨(hv' k hk).1, (hv' k hk).2.1⟩,
    hP1.kept k2 (fun i hi hq hx => by
      rcases hx with e | e
      · exact hq.2.2 e
      · have := hq.1; omega) (fun i hi hq => ⟨hq.1, hq.2.1, fun hb => by
      rcases (hv' i hb).2.2 with h | h
      · exact hq.2.2 h
      · omega⟩)⟩, fun R hR => k2.keeps (fun k hk hr hs => ?_)⟩
  rcases hr with h4 | h4
  · have := hR k h4
    rcases hs with h5 | h5
    · have := (h3 k h5).1; omega
    · exact this.2 h5
  · rcases hs with h5 | h5
    · exact (h3 k h5).2 (hXX k h4)
    · have := hp.x k (hXX k h4); omega
/-- What Rows gives. -/
def RwPost (w : World) (ls : List (List UInt8)) (x : Ending) (w' : World) : Prop :=
  ∃ r vs, x = .returned r ∧ w'.ownsRow 0 38 1 r ls.length vs ∧ (∀ k, blk r k → w.heap.size ≤ k) ∧ Pays w' (fun k => w.heap.size ≤ k ∧ ¬ blk r k) vs ls ∧ Kept (fun _ => False) w w'
theorem oneS {u : Value} {w : World} {l : List UInt8} (h : RdB w u l) : ∀ x ∈ [u], x.oneCell' = true := by
  intro x hx
  rw [List.mem_singleton.1 hx]
  obtain ⟨a, c, rfl, _⟩ := h.open
  rfl
set_option maxHeartbeats 8000000 in
theorem rows_iter (w : World) (p : Option Addr) (R : Nat → Prop) (xs : List Fd) (hit : ∀ w' BB, Kept (fun _ => False) w w' → w.heap.size ≤ BB → w'.heap[BB]? = some (pbox p) → IterE Tryd.prog 48 #[.pointer (some ⟨BB, 0, none⟩)] AlE (fun k => k = BB ∨ R k) xs w') (hR : ∀ k, R k → k < w.heap.size) (hx : ∀ i f, xs[i]? = some f → f.num = i + 1) (hxl : xs.length ≤ 1000000) :
    Calls Tryd.prog 11 #[.pointer p] w (RwPost w (xs.map Fd.p)) := by
  have HIT := Lw.hid hit; have HX := Lw.hid hx; have HR := Lw.hid hR
  clear hit hx hR
  refine calls_of_wp_marks Tryd.func11 rfl ?_
  simp only [Tryd.ntmps11, List.size_toArray, List.length_cons, List.length_nil, Nat.reduceAdd, Nat.reduceSub, Array.replicate_succ, Array.replicate_zero, List.push_toArray, List.append_toArray, List.nil_append, List.cons_append]
  go_wp2_with fail
  obtain ⟨C, hC⟩ : ∃ C, w.heap.size = C := ⟨_, rfl⟩
  obtain ⟨w2, hw2⟩ : ∃ w2, (w.alloc (.cells #[.slice none 0 0] 34)).alloc (.cells #[.slice none 0 0] 34) = w2 := ⟨_, rfl⟩
  have k2 : Kept (fun _ => False) w w2 := by rw [← hw2]; exact ((Kept.refl _ w).alloc _).alloc _
  have h2 : w2.heap[C]? = some (.cells #[.slice none 0 0] 34 (0, 0)) := by
    rw [← hw2, ← hC]; exact heap_alloc_lt (heap_alloc w _)
  have h3 : w2.heap[C + 1]? = some (.cells #[.slice none 0 0] 34 (0, 0)) := by
    have e := heap_alloc (w.alloc (.cells #[.slice none 0 0] 34)) (.cells #[.slice none 0 0] 34)
    rw [hw2, World.size_alloc, hC] at e; exact e
  rw [hw2, hC]
  have K2 := Lw.hid k2; have H2 := Lw.hid h2; have H3 := Lw.hid h3; have HC := Lw.hid hC
  have hl2 := heap_lt h3
  clear hw2 hC k2 h2 h3
  refine (lall_any w2 p).mono ?_
  rintro e w3 ⟨BB, rfl, hbb, k3, hlb⟩
  have K3 := Lw.hid (K2.out.trans k3 (fun _ _ h => h)); have H23 := Lw.hid (k3.heap H2.out (fun h => h)); have H33 := Lw.hid (k3.heap H3.out (fun h => h))
  have hl3 := k3.size
  have IT := Lw.hid (HIT.out w3 BB K3.out (by have := HC.out; omega) hbb)
  have hbl := heap_lt hbb
  clear k3 hbb
  go_wp2_with fail
  refine (safe2_any w3 48 #[] #[.pointer (some ⟨BB, 0, none⟩)]).mono ?_
  rintro e w4 ⟨rfl, rfl⟩
  go_wp2_with fail
  refine wp_nm (fun ac hac => ?_)
  have RW0 : Hid (RwAt w4 (C + 1) (fun _ => False) [] w4) := Lw.hid ⟨Kept.refl _ _, by omega, fun _ h => h.elim, _, [], H33.out, World.ownsRow_nil _ 0 _ 1, fun k hk => (blk_none hk).elim, Pays.nil _ _⟩
  have RL : Hid (∀ k, (k = BB ∨ R k) → k < w4.heap.size ∧ k ≠ C + 1) := Lw.hid (fun k hk => by
    rcases hk with h | h
    · omega
    · have := HR.out k h; have := HC.out; omega)
  refine wp_rangeE (gf := 48) (lb := #[.pointer (some ⟨BB, 0, none⟩)]) (by rw [hac.out]; rfl) (Go.Proofs.enters_of Tryd.func48 (by kernel_rfl) rfl)
    IT.out AlE.mono (fun k hk => (RL.out k hk).1) (fun _ _ _ x A W h => by obtain ⟨v, rfl, _⟩ := h; rfl)
    (fun X pre V => RwAt w4 (C + 1) X (pre.map Fd.p) V)
    (fun c X pre V => False)
    ?_ ?_ ?_ (fun X Xp q V => ∃ vv, RdP w4.heap.size vv q.2.1.p X Xp V ∧ q.2.2 = { tmps := (((ac.tmps.setIfInBounds 9 (.int .u32 (q.2.1.num : Int))).setIfInBounds 10 vv).setIfInBounds 4 (.int .u32 (q.2.1.num : Int))).setIfInBounds 5 vv, defers := [] }) ?_ ?assign ?body ?done ?stop
  · rintro X X' s V V' h hk hx
    exact h.ab hk hx
  · rintro c X X' s V V' h hk hx
    exact h
  · exact RW0.out
  · rintro X X' Xp Xp' s V V' ⟨vv, h1, h2⟩ hk hx hp
    exact ⟨vv, h1.ab hk hx hp, h2⟩
  case assign =>
    rintro y X Xp pre x A V K hi hXX ⟨vv, rfl, hrd, hbv⟩ hXb hpx hsz hK
    have hac' := hac.out
    rw [hac'] at hK ⊢
    have HRD := Lw.hid hrd; have HBV := Lw.hid hbv; have HI := Lw.hid hi
    clear hi hrd hbv
    gi_wp2
    exact hK _ _ (Keeps.refl _ _) HI.out ⟨vv, ⟨HRD.out, fun hn k hk => by have h1 := HBV.out hn k hk; exact ⟨by omega, h1.2⟩⟩, rfl⟩
  case body =>
    rintro y X Xp pre x a' V hi hXX ⟨vv, hrp, hax⟩ hXb hpx hsz
    dsimp only at hax hrp
    subst hax
    rw [hac.out]
    simp only [List.setIfInBounds_toArray, List.set_cons_zero, List.set_cons_succ]
    obtain ⟨v, vs, hv1, hv2, hv3, hv4⟩ := hi.out
    have hnum : x.num = pre.length + 1 := HX.out pre.length x (by
      obtain ⟨t, ht⟩ := hpx
      rw [← ht]; simp)
    have hpl : pre.length ≤ 1000000 := by
      have := hpx.length_le
      simp at this; omega
    rw [List.length_map] at hv2
    obtain ⟨ad, cap, rfl, hc1, hc2, _⟩ := own_slice hv2
    have HI := Lw.hid hi; have HV1 := Lw.hid hv1; have HV2 := Lw.hid hv2; have HV3 := Lw.hid hv3; have HV4 := Lw.hid hv4; have HXB := Lw.hid hXb; have HXX := Lw.hid hXX; have HRP := Lw.hid hrp
    have o0 := heap_cell hv1 0; have f0 := heap_free hv1 0
    unfold maxLen at hc2
    obtain ⟨j, hj⟩ : ∃ j, pre.length = j := ⟨_, rfl⟩
    have HJ := Lw.hid hj
    rw [hj] at hc1 hpl hnum o0 HV1 HV2 HV3 HV4
    rw [hnum]
    obtain ⟨adp, capp, rfl, _, _, _⟩ := hrp.rd.open
    obtain ⟨pl, hpl⟩ : ∃ pl, x.p.length = pl := ⟨_, rfl⟩
    have HPL := Lw.hid hpl
    rw [hpl] at HRP ⊢
    clear hi hv1 hv2 hv3 hv4 hXb hXX hrp hj hac hpl
    have e1 : Hid ((V.alloc (.cells #[.slice adp pl capp] 38)).ownsRow 0 38 1 (.slice ad j cap) j vs) := Lw.hid (own_kept ((Kept.refl (fun _ => False) V).alloc _) HV2.out (fun _ _ h => h))
    have hq : (((j + 1 : Nat) : Int) != (j : Int) + 1) = false := by rw [bne_eq_false_iff_eq]; omega
    gi_wp2_with (gi_at_builtin; refine wpListIn_app rfl _ _ _ rfl EL _ j _ rfl e1.out _ 1 _ rfl (Rd.lit V [.slice adp pl capp] 38 1 V.heap.size 1 rfl rfl (by decide)) (oneS HRP.out.rd) (by unfold maxLen; omega) (by omega) ?_; intro ad' cap' w7 ho hg hf; obtain ⟨g1, hfi, hke⟩ := RwAt.add HI.out HXX.out HRP.out HV1.out (by rw [List.length_map, HJ.out]; exact HV2.out) HV3.out HV4.out (fun k h => (HXB.out k h).2) ho (by simp [HJ.out]) hg hf; have HFI := Lw.hid hfi; have HKE := Lw.hid hke; have o5 := heap_cell g1 0; have f5 := heap_free g1 0; clear ho hg hf hfi hke g1)
    exact ⟨HKE.out _ RL.out, by
      show RwAt w4 (C + 1) X ((pre ++ [x]).map Fd.p) _
      rw [List.map_append]; exact HFI.out⟩
  case done =>
    rintro X D' V hD' hXD hXb hi hdf
    rw [hac.out]
    obtain ⟨v, vs, hv1, hv2, hv3, hv4⟩ := hi.out
    obtain ⟨n, hn⟩ : ∃ n, (xs.map Fd.p).length = n := ⟨_, rfl⟩
    rw [hn] at hv2
    obtain ⟨ad, cap, rfl, _, _, _⟩ := own_slice hv2
    have hcc := hi.k.heap H23.out (by omega)
    have q0 := heap_cell hv1 0
    have g0 := heap_cell hcc 0; have g1 := heap_free hcc 0
    have HI := Lw.hid hi; have HV2 := Lw.hid hv2; have HV3 := Lw.hid hv3; have HV4 := Lw.hid hv4; have HDF := Lw.hid hdf; have HCC := Lw.hid hcc; have HN := Lw.hid hn
    clear hi hv1 hv2 hv3 hv4 hdf hn hcc
    go_wp2_with fail
    have KS : Hid (Kept (fun k => k = C) V (V.setCell ⟨C, 0, none⟩ (.slice ad n cap))) := Lw.hid ((Kept.refl (fun k => k = C) V).set C 0 (fun _ => rfl) _)
    have HCS : Hid ((V.setCell ⟨C, 0, none⟩ (.slice ad n cap)).heap[C]? = some (.cells #[.slice ad n cap] 34 (0, 0))) := Lw.hid (Boxed.set _ HCC.out)
    have hD4 : C + 1 < D' := by omega
    have hwC := HC.out
    refine leaves_marks [D'] _ (by simp) (fun r hr => by rw [List.mem_singleton.1 hr]; exact KS.out.heap HDF.out (by omega)) (fun V' hk => ⟨.slice ad n cap, ?_, ?_⟩)
    · have hc := heap_cell (hk.heap HCS.out (fun hm => by rw [List.mem_singleton.1 hm] at hD4; omega)) 0
      simp [results, Tryd.results11, go_sem, hc]
    · have KA : Kept (fun k => k = C ∨ k = D') V V' := (KS.out.mono (fun i _ h => .inl h)).trans hk (fun i _ hm => .inr (List.mem_singleton.1 hm))
      have hw4 := K3.out.size
      refine ⟨_, vs, rfl, ?_, fun k hb => by have := (HV3.out k hb).1; omega, HV4.out.kept KA (fun i _ hq e => ?_) (fun i _ hq => ⟨by have := hq.1; omega, hq.2.2⟩), ?_⟩
      · rw [HN.out]
        exact own_kept KA HV2.out (fun k hb e => by
          have h1 := HV3.out k hb
          rcases e with e | e
          · omega
          · exact h1.2 (e ▸ hXD))
      · rcases e with e | e
        · have := hq.1; omega
        · exact hq.2.1 (e ▸ hXD)
      · exact (K3.out.trans HI.out.k (fun i hi e => by omega)).trans KA (fun i hi e => by
          rcases e with e | e
          · omega
          · omega)
  case stop =>
    rintro X c pre D V _ _ _ _ _ h
    exact h.elim
/-- What a log's payloads are. -/
def logP (D : Dsk) (s : Fd) : List (List UInt8) := (logL D s).map Fd.p
theorem logL_num {D : Dsk} {s : Fd} (hD : D.b.length ≤ 1048576) : (logL D s).length ≤ 1000000 ∧ ∀ i f, (logL D s)[i]? = some f → f.num = i + 1 := by
  have h1 := rd_le D 0 (s.fin : Int)
  have h2 := framesF_len (b := D.rd 0 (s.fin : Int)) ((D.rd 0 (s.fin : Int)).length + 1) Fd.zero (Nat.zero_le _)
  have h3 : Fd.zero.fin = 0 := rfl
  unfold logL
  refine ⟨by omega, fun i f hf => ?_⟩
  have hi := (List.getElem?_eq_some_iff.1 hf).1
  have := framesF_num _ _ i f hf
  have h4 : Fd.zero.num = 0 := rfl
  rw [this, h4]; omega
theorem rows_any (w : World) (BL g : Nat) (v : Value) (D : Dsk) (s : Fd) (h : LogAt w BL g v D s) (ht : Tab w) (hD : D.b.length ≤ 1048576) (hs : s.fin ≤ 1048576) :
    Calls Tryd.prog 11 #[.pointer (some ⟨BL, 0, none⟩)] w (RwPost w (logP D s)) := by
  obtain ⟨h1, h2⟩ := logL_num (D := D) (s := s) hD
  refine rows_iter w _ (AlR BL BL g v) (logL D s) (fun w' BB k hb hbx => ?_) (fun k hk => ?_) h2 h1
  · have ha : AlAt w' BB BL g v D s := ⟨hbx, h.kept k (fun h => h) (fun h => h) (fun _ _ h => h), ht.below (k.below (Nat.le_refl _) (fun _ _ h => h))⟩
    have := all1_iter w' BB BL g v D s ha hD hs
    have e : AlR BB BL g v = fun k => k = BB ∨ AlR BL BL g v k := by
      funext k
      apply propext
      unfold AlR
      constructor
      · rintro (h | h)
        · exact .inl h
        · exact .inr (.inr h)
      · rintro (h | h | h)
        · exact .inl h
        · exact .inr (.inl h)
        · exact .inr h
    rw [← e]; exact this
  · rcases hk with rfl | rfl | rfl | hk | rfl
    · exact heap_lt h.box
    · exact heap_lt h.box
    · exact heap_lt h.d.box
    · exact own_lt h.d.own k hk
    · exact World.block_lt_of_cell? w _ (ht 0 (by decide))
theorem rows_nil (w : World) : Calls Tryd.prog 11 #[.pointer none] w (RwPost w []) := by
  refine rows_iter w none (fun _ => False) [] (fun w' BB k hb hbx => ?_) (fun k hk => hk.elim) (fun i f h => by simp at h) (Nat.zero_le _)
  have := all1_none w' BB hbx
  have e : (fun k => k = BB) = fun k => k = BB ∨ False := by funext k; simp
  rw [← e]; exact this
end Go.Proofs.YtfmebmaklakckaaDoor
