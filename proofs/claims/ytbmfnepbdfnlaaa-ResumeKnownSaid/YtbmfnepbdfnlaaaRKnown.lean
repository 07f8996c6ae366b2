/- ResumeKnown, walked. -/
import Derived.Test.YtbmfnepbdfnlaaaKnown13P
import Derived.Test.YtbmfnepbdfnlaaaRReads
import Derived.Test.YtbmfnepbdfnlaaaNum
namespace Go.Proofs.Ytbmfnepbdfnlaaa
open Go Go.RowKit Go.Lw
set_option maxRecDepth 100000
set_option linter.unusedVariables false
set_option linter.unusedSimpArgs false
attribute [local go_sem] Oper.semAt_some
theorem row_of_own {w : World} {e n cap g : Nat} {l : List UInt8} (h : w.ownsRow 0 e 1 (.slice (some ⟨g, 0, none⟩) n cap) n (l.map bv)) : RowAt w g (l.map bv) := by
  have hl : (l.map bv).length = n * 1 := h.1
  refine ⟨fun j u hj => own_cell h j u hj (by
    rcases Nat.lt_or_ge j (l.map bv).length with h' | h'
    · omega
    · rw [List.getElem?_eq_none h'] at hj; cases hj), fun j hj => ?_⟩
  rcases h.2 with ⟨hv, _⟩ | ⟨g', cap', cur, hv, _, hg, _, _, hs, ht⟩
  · cases hv
  · cases hv
    exact heap_free hg j
theorem infoH : ∃ i, Try.prog.info? 35 = some i ∧ i.zero = some (.agg #[.int .u32 0, .int .u32 0, .int .u32 0, .bool false]) ∧ i.size = 4 ∧ i.bytes = 16 :=
  info_parts (show (Try.prog.info? 35).map (fun i => (i.zero, i.size, i.bytes)) = some (some (.agg #[.int .u32 0, .int .u32 0, .int .u32 0, .bool false]), 4, 16) by kernel_rfl)
structure FAt (w : World) (A : Nat) (nx : Nat) (v : Value) (L : List Hv) (wr : World) : Prop where
  k : Kept (fun _ => False) w wr
  box : wr.heap[A]? = some (.cells #[u32v nx, v] 26 (0, 0))
  row : wr.ownsRow 0 35 4 v L.length (L.flatMap Hv.cells)
  fr : ∀ k, blk v k → w.heap.size < k
structure KnSt (w : World) (bf bm : Nat) (adf : Option Addr) (cpf : Nat) (V : World) : Prop where
  k : Kept (fun _ => False) w V
  one : V.heap[w.heap.size + 1]? = some (.cells #[u32v 3, .slice (some ⟨w.heap.size, 0, none⟩) 1 1] 26 (0, 0))
  full : V.heap[bf]? = some (.cells #[u32v 4294967295, .slice adf 16 cpf] 26 (0, 0))
  r1 : RdH V (.slice (some ⟨w.heap.size, 0, none⟩) 1 1) oneL
  r2 : RdH V (.slice adf 16 cpf) fullL
theorem KnSt.move {w : World} {bf bm : Nat} {adf : Option Addr} {cpf : Nat} {A B : World} {S : Nat → Prop} (h : KnSt w bf bm adf cpf A) (hb : w.heap.size + 2 ≤ bf ∧ bf < bm ∧ ∀ k, blk (.slice adf 16 cpf) k → k < bm) (hk : Kept S A B) (hS : ∀ k, S k → bm ≤ k) : KnSt w bf bm adf cpf B := by
  obtain ⟨h1, h2, h3⟩ := hb
  exact ⟨h.k.trans hk (fun i hi e => by have := hS i e; omega), hk.heap h.one (fun e => by have := hS _ e; omega), hk.heap h.full (fun e => by have := hS _ e; omega), h.r1.kept hk (fun i hi e => by have e1 : i = w.heap.size := blk_some hi; have := hS i e; omega), h.r2.kept hk (fun i hi e => by have := h3 i hi; have := hS i e; omega)⟩
theorem wp_named {P : Program} {c : Code} {Q : Exit → Act → World → Prop} {a : Act} {w : World} (h : ∀ b, Hid (b = a) → c.wp P Q b w) : c.wp P Q a w := h a (Lw.hid rfl)
theorem FAt.grow {w wr wx w5 : World} {nx n' : Nat} {v v' : Value} {L M : List Hv} (h : FAt w w.heap.size nx v L wr) (hk : Kept (fun _ => False) wr wx)
    (ho : w5.ownsRow 0 35 4 v' n' (L.flatMap Hv.cells ++ M.flatMap Hv.cells)) (hn : n' = L.length + M.length) (hg : wx.grownBy w5 v.ownBlock) (hf : Fresh wx v v') :
    w5.heap[w.heap.size]? = some (.cells #[u32v nx, v] 26 (0, 0)) ∧ FAt w w.heap.size nx v' (L ++ M) (w5.setCell ⟨w.heap.size, 1, none⟩ v') := by
  subst hn
  have kx : Kept (blk v) wr w5 := (hk.mono (fun _ _ h => h.elim)).grown hg (fun k e _ => e)
  have hA := kx.heap h.box (fun e => by have := h.fr _ e; omega)
  have k2 : Kept (fun k => k = w.heap.size) w5 (w5.setCell ⟨w.heap.size, 1, none⟩ v') := (Kept.refl (fun k => k = w.heap.size) w5).set _ _ (fun _ => rfl) _
  have hlA := (Array.getElem?_eq_some_iff.1 h.box).1
  have hsz := hk.size
  have hv' : ∀ k, blk v' k → w.heap.size < k := fun k hk' => by
    rcases hf k hk' with e | e
    · exact h.fr k e
    · omega
  refine ⟨hA, (h.k.trans kx (fun i hi e => by have := h.fr i e; omega)).trans k2 (fun i hi e => by omega), heap_set hA 1 v', ?_, hv'⟩
  rw [List.length_append, List.flatMap_append]
  exact own_kept k2 ho (fun g hg e => by have := hv' g hg; omega)
theorem rd_heap {w : World} {g size n : Nat} {cs : List Value} {e : TypeId} (h : w.heap[g]? = some (.cells cs.toArray e (0, 0))) (hl : cs.length = n * size) (hm : n ≤ maxLen) : Rd w size (.slice (some ⟨g, 0, none⟩) n n) n cs :=
  ⟨hl, _, n, rfl, Nat.le_refl _, hm, fun j u hj => ⟨g, 0, rfl, by rw [Nat.zero_add, heap_cell h j]; simpa using hj⟩⟩
set_option maxHeartbeats 64000000 in
theorem rknown_any (w : World) : Calls Try.prog 6 #[] w fun x w' => x = .returned (.bool true) ∧ Below w.heap.size w w' := by
  obtain ⟨wa, hwa⟩ : ∃ wa, (w.alloc (.cells #[.int .u32 2, .int .u32 258, .int .u32 1, .bool true] 35)).alloc (.cells #[.int .u32 3, .slice (some ⟨w.heap.size, 0, none⟩) 1 1] 26) = wa := ⟨_, rfl⟩
  have KA : Hid (Kept (fun _ => False) w wa) := Lw.hid (by rw [← hwa]; exact ((Kept.refl _ w).alloc _).alloc _)
  have HRA : Hid (RdH wa (.slice (some ⟨w.heap.size, 0, none⟩) 1 1) oneL) := Lw.hid (by
    rw [← hwa]
    exact ⟨Rd.alloc (Rd.lit w (oneL.flatMap Hv.cells) 35 4 w.heap.size 1 rfl rfl (by decide)) _, oneL_ok⟩)
  have HXA : Hid (wa.heap[w.heap.size + 1]? = some (.cells #[u32v 3, .slice (some ⟨w.heap.size, 0, none⟩) 1 1] 26 (0, 0))) := Lw.hid (by rw [← hwa]; exact heap_at _ _ (by simp))
  have HWA := Lw.hid hwa
  clear hwa
  refine calls_of_wp_marks Try.func6 rfl ?_
  simp only [Try.ntmps6, List.size_toArray, List.length_cons, List.length_nil, Nat.reduceAdd, Nat.reduceSub, Nat.sub_zero, Array.replicate_succ, Array.replicate_zero, List.push_toArray, List.append_toArray, List.nil_append, List.cons_append]
  go_upto_region 2 with fail
  rw [HWA.out]
  have g0 := heap_cell HXA.out 0; have g1 := heap_cell HXA.out 1
  go_wp2_with fail
  refine (bytes_any wa 3 _ oneL HRA.out (by decide) (by decide)).mono ?_
  rw [one_bytes]
  rintro e w2 ⟨r2, rfl, hr2, ⟨hb2, ho2⟩, k2⟩
  obtain ⟨ad2, cp2, rfl, hc1, hc2, hg2⟩ := own_slice ho2
  obtain ⟨q2, rfl⟩ := hg2 (by decide)
  unfold maxLen at hc2
  simp only [show oneB.length = 18 from rfl] at ho2 hc1 ⊢
  have HO2 := Lw.hid ho2; have HR2 := Lw.hid hr2; have HB2 := Lw.hid hb2
  have K2 := Lw.hid (KA.out.trans k2 (fun _ _ h => h)); have HX2 := Lw.hid (k2.heap HXA.out (fun h => h)); have HA2 := Lw.hid (HRA.out.keptF k2)
  clear ho2 hr2 hb2 k2 hg2 g0 g1
  go_wp2_with fail
  refine (bequal_any _ _ _ oneB oneB (HR2.out.alloc _) (RdB.lit w2 oneB 5 18 rfl (by decide)) true (by decide)).mono ?_
  rintro e w3 ⟨rfl, rfl⟩
  -- the byte is stored
  have HRW : Hid (RowAt (w2.alloc (.cells (oneB.map bv).toArray 5)) q2 (oneB.map bv)) := Lw.hid (row_of_own (own_kept ((Kept.refl (fun _ => False) w2).alloc _) HO2.out (fun _ _ h => h)))
  obtain ⟨w3, hw3⟩ : ∃ w3, w2.alloc (.cells (oneB.map bv).toArray 5) = w3 := ⟨_, rfl⟩
  have K3 : Hid (Kept (fun _ => False) w w3) := Lw.hid (by rw [← hw3]; exact K2.out.alloc _)
  have HX3 : Hid (w3.heap[w.heap.size + 1]? = some (.cells #[u32v 3, .slice (some ⟨w.heap.size, 0, none⟩) 1 1] 26 (0, 0))) := Lw.hid (by rw [← hw3]; exact heap_alloc_lt HX2.out)
  have HA3 : Hid (RdH w3 (.slice (some ⟨w.heap.size, 0, none⟩) 1 1) oneL) := Lw.hid (by rw [← hw3]; exact HA2.out.keptF ((Kept.refl _ w2).alloc _))
  rw [hw3] at HRW ⊢
  have hq2 : w.heap.size + 2 ≤ q2 := by
    have h1 := (HB2.out q2 rfl).1
    have h2 := (Array.getElem?_eq_some_iff.1 HXA.out).1
    omega
  clear hw3 HX2 HA2 HR2 HO2 HB2
  have c17 := HRW.out.cell 17 (.int .u8 1) rfl; have f17 := HRW.out.free 17 (by decide)
  obtain ⟨w4, hw4⟩ : ∃ w4, w3.setCell ⟨q2, 17, none⟩ (.int .u8 2) = w4 := ⟨_, rfl⟩
  have k34 : Kept (fun k => k = q2) w3 w4 := by rw [← hw4]; exact (Kept.refl (fun k => k = q2) w3).set _ _ (fun _ => rfl) _
  have K4 : Hid (Kept (fun _ => False) w w4) := Lw.hid (K3.out.trans k34 (fun i hi e => by omega))
  have HX4 : Hid (w4.heap[w.heap.size + 1]? = some (.cells #[u32v 3, .slice (some ⟨w.heap.size, 0, none⟩) 1 1] 26 (0, 0))) := Lw.hid (k34.heap HX3.out (by omega))
  have HA4 : Hid (RdH w4 (.slice (some ⟨w.heap.size, 0, none⟩) 1 1) oneL) := Lw.hid (HA3.out.kept k34 (fun i hi e => by have : i = w.heap.size := blk_some hi; omega))
  have HR4 : Hid (RdB w4 (.slice (some ⟨q2, 0, none⟩) 18 cp2) (oneB.set 17 2)) := Lw.hid (by
    have := (HRW.out.stored 17 (.int .u8 2)).rd 1 18 cp2 (by decide) hc1 (by unfold maxLen; exact hc2)
    rw [hw4] at this
    exact this)
  have HW4 := Lw.hid hw4
  clear hw4 k34 HX3 HA3 HRW
  go_upto_region 6 with fail
  rw [HW4.out]
  clear c17 f17
  go_wp2_with fail
  refine (parse_any w4 _ _ HR4.out (by decide)).mono ?_
  rw [one_odd]
  rintro e w5 ⟨r5, rfl, hr5, k5⟩
  obtain ⟨a5, n5, c5, rfl⟩ := hr5.1.sl
  obtain ⟨w6, hw6⟩ : ∃ w6, w5.alloc (.cells #[.int .u32 0, .slice a5 n5 c5] 26) = w6 := ⟨_, rfl⟩
  have K46 : Hid (Kept (fun _ => False) w4 w6) := Lw.hid (by rw [← hw6]; exact k5.alloc _)
  have HW6 := Lw.hid hw6
  clear hw6 hr5 k5
  go_upto_region 7 with fail
  rw [HW6.out]
  go_wp2_with fail
  refine (parse_any w6 _ [] (RdB.nil _) (by decide)).mono ?_
  rw [nil_parse]
  rintro e w7 ⟨r7, rfl, hr7, k7⟩
  obtain ⟨a7, n7, c7, rfl⟩ := hr7.1.sl
  obtain ⟨w8, hw8⟩ : ∃ w8, w7.alloc (.cells #[.int .u32 0, .slice a7 n7 c7] 26) = w8 := ⟨_, rfl⟩
  have K48 : Hid (Kept (fun _ => False) w4 w8) := Lw.hid (by rw [← hw8]; exact (K46.out.trans k7 (fun _ _ h => h)).alloc _)
  have HW8 := Lw.hid hw8
  clear hw8 hr7 k7
  go_upto_region 8 with fail
  rw [HW8.out]
  obtain ⟨i, hi, hz0, hz1, hz2⟩ := infoB
  go_wp2_with (refine wpList_mk rfl _ _ _ rfl Try.underlying57 hi hz0 hz1 hz2 _ _ _ _ 5 rfl rfl rfl rfl (by decide) (by decide) ?_; intro g9 w9 hg9 ho9 k9 hs9)
  have hr9 : RdB w9 (.slice (some ⟨g9, 0, none⟩) 5 5) [0, 0, 0, 0, 0] := RdB.of_own (l := List.replicate 5 0) (by rw [← made_bytes]; exact ho9) rfl
  have HR9 := Lw.hid hr9; have K49 := Lw.hid (K48.out.trans k9 (fun _ _ h => h))
  clear ho9 k9 hr9 hi hz0 hz1 hz2
  refine (parse_any w9 _ _ HR9.out (by decide)).mono ?_
  rw [zero_parse]
  rintro e w10 ⟨r10, rfl, hr10, k10⟩
  obtain ⟨a10, n10, c10, rfl⟩ := hr10.1.sl
  obtain ⟨w11, hw11⟩ : ∃ w11, w10.alloc (.cells #[.int .u32 0, .slice a10 n10 c10] 26) = w11 := ⟨_, rfl⟩
  have K411 : Hid (Kept (fun _ => False) w4 w11) := Lw.hid (by rw [← hw11]; exact (K49.out.trans k10 (fun _ _ h => h)).alloc _)
  have HW11 := Lw.hid hw11
  clear hw11 hr10 k10
  go_upto_region 9 with fail
  rw [HW11.out]
  have HX11 := Lw.hid (K411.out.heap HX4.out (fun h => h)); have HA11 := Lw.hid (HA4.out.keptF K411.out); have K11 := Lw.hid (K4.out.trans K411.out (fun _ _ h => h))
  obtain ⟨ih, hih, hy0, hy1, hy2⟩ := infoH
  obtain ⟨s, hs⟩ : ∃ s, w11.heap.size = s := ⟨_, rfl⟩
  have HS := Lw.hid hs
  clear hs
  go_wp2_with (refine wpList_mk rfl _ _ _ rfl Try.underlying23 hih hy0 hy1 hy2 _ _ _ _ 17 rfl rfl rfl rfl (by decide) (by decide) ?_; intro g12 w12 hg12 ho12 k12 hs12)
  rw [HS.out]
  have hA := heap_at w11 (.cells #[.int .u32 0, .int .u32 0, .int .u32 0, .bool false] 35) (k := s) HS.out.symm
  have hB := heap_at (w11.alloc (.cells #[.int .u32 0, .int .u32 0, .int .u32 0, .bool false] 35)) (.cells #[.int .u32 2, .int .u32 0, .int .u32 0, .bool false] 35) (k := s + 1) (by simp [HS.out])
  have hC := heap_at ((w11.alloc (.cells #[.int .u32 0, .int .u32 0, .int .u32 0, .bool false] 35)).alloc (.cells #[.int .u32 2, .int .u32 0, .int .u32 0, .bool false] 35)) (.cells #[.int .u32 3, .int .u32 0, .int .u32 0, .bool false, .int .u32 3, .int .u32 0, .int .u32 0, .bool false] 35) (k := s + 1 + 1) (by simp [HS.out])
  have hD := heap_at (((w11.alloc (.cells #[.int .u32 0, .int .u32 0, .int .u32 0, .bool false] 35)).alloc (.cells #[.int .u32 2, .int .u32 0, .int .u32 0, .bool false] 35)).alloc (.cells #[.int .u32 3, .int .u32 0, .int .u32 0, .bool false, .int .u32 3, .int .u32 0, .int .u32 0, .bool false] 35)) (.cells #[.int .u32 3, .int .u32 0, .int .u32 0, .bool false, .int .u32 2, .int .u32 0, .int .u32 0, .bool false] 35) (k := s + 1 + 1 + 1) (by simp [HS.out])
  have hK : Hid (Kept (fun _ => False) w11 w12) := Lw.hid (((((Kept.refl _ w11).alloc _).alloc _).alloc _).alloc _ |>.trans k12 (fun _ _ h => h))
  have okk : ∀ a b : Nat, a < 100 → b < 100 → ∀ h ∈ ([⟨a, 0, 0, false⟩, ⟨b, 0, 0, false⟩] : List Hv), h.ok := by
    intro a b ha hb h hh
    simp only [List.mem_cons, List.not_mem_nil, or_false] at hh
    rcases hh with rfl | rfl <;> exact ⟨by simp; omega, by simp, by simp⟩
  have ok1 : ∀ a : Nat, a < 100 → ∀ h ∈ ([⟨a, 0, 0, false⟩] : List Hv), h.ok := fun a ha h hh => okk a a ha ha h (by simp at hh; simp [hh])
  have HL0 : Hid (RdH w12 (.slice none 0 0) []) := Lw.hid ⟨Rd.nil _ _, fun _ h => by cases h⟩
  have HL1 : Hid (RdH w12 (.slice (some ⟨s, 0, none⟩) 1 1) [⟨0, 0, 0, false⟩]) := Lw.hid ⟨rd_heap (cs := [.int .u32 0, .int .u32 0, .int .u32 0, .bool false]) (k12.heap (heap_alloc_lt (heap_alloc_lt (heap_alloc_lt hA))) (fun h => h)) rfl (by decide), ok1 0 (by decide)⟩
  have HL2 : Hid (RdH w12 (.slice (some ⟨s + 1, 0, none⟩) 1 1) [⟨2, 0, 0, false⟩]) := Lw.hid ⟨rd_heap (cs := [.int .u32 2, .int .u32 0, .int .u32 0, .bool false]) (k12.heap (heap_alloc_lt (heap_alloc_lt hB)) (fun h => h)) rfl (by decide), ok1 2 (by decide)⟩
  have HL3 : Hid (RdH w12 (.slice (some ⟨s + 1 + 1, 0, none⟩) 2 2) [⟨3, 0, 0, false⟩, ⟨3, 0, 0, false⟩]) := Lw.hid ⟨rd_heap (cs := [.int .u32 3, .int .u32 0, .int .u32 0, .bool false, .int .u32 3, .int .u32 0, .int .u32 0, .bool false]) (k12.heap (heap_alloc_lt hC) (fun h => h)) rfl (by decide), okk 3 3 (by decide) (by decide)⟩
  have HL4 : Hid (RdH w12 (.slice (some ⟨s + 1 + 1 + 1, 0, none⟩) 2 2) [⟨3, 0, 0, false⟩, ⟨2, 0, 0, false⟩]) := Lw.hid ⟨rd_heap (cs := [.int .u32 3, .int .u32 0, .int .u32 0, .bool false, .int .u32 2, .int .u32 0, .int .u32 0, .bool false]) (k12.heap hD (fun h => h)) rfl (by decide), okk 3 2 (by decide) (by decide)⟩
  have HL5 : Hid (RdH w12 (.slice (some ⟨g12, 0, none⟩) 17 17) (List.replicate 17 zH)) := Lw.hid (rdh_own (n := 17) (by rw [show (List.replicate 17 zH).flatMap Hv.cells = (madeCells (Value.cells (.agg #[.int .u32 0, .int .u32 0, .int .u32 0, .bool false])) (17 * 4)).toList by kernel_rfl]; exact ho12) rfl (fun h hh => by rw [List.eq_of_mem_replicate hh]; exact ⟨by decide, by decide, by decide⟩))
  have HSZ : Hid (s + 4 ≤ w12.heap.size ∧ g12 < w12.heap.size) := Lw.hid (by
    have := hs12.out; simp [HS.out] at this
    have h2 := own_lt ho12 g12 rfl
    omega)
  clear hA hB hC hD okk ok1 ho12 k12 hs12 hih hy0 hy1 hy2
  have i0 : ∀ w, (Instr.index 70 (.agg #[.int .u32 0, .slice none 0 0, .int .u32 2, .slice (some ⟨s, 0, none⟩) 1 1, .int .u32 2, .slice (some ⟨s + 1, 0, none⟩) 1 1, .int .u32 9, .slice (some ⟨s + 1 + 1, 0, none⟩) 2 2, .int .u32 9, .slice (some ⟨s + 1 + 1 + 1, 0, none⟩) 2 2, .int .u32 99, .slice (some ⟨g12, 0, none⟩) 17 17]) (.int .i64 0)).run Try.prog w = .ok (.agg #[.int .u32 0, (.slice none 0 0)]) w := fun _ => by rfl
  have i1 : ∀ w, (Instr.index 70 (.agg #[.int .u32 0, .slice none 0 0, .int .u32 2, .slice (some ⟨s, 0, none⟩) 1 1, .int .u32 2, .slice (some ⟨s + 1, 0, none⟩) 1 1, .int .u32 9, .slice (some ⟨s + 1 + 1, 0, none⟩) 2 2, .int .u32 9, .slice (some ⟨s + 1 + 1 + 1, 0, none⟩) 2 2, .int .u32 99, .slice (some ⟨g12, 0, none⟩) 17 17]) (.int .i64 1)).run Try.prog w = .ok (.agg #[.int .u32 2, (.slice (some ⟨s, 0, none⟩) 1 1)]) w := fun _ => by rfl
  have i2 : ∀ w, (Instr.index 70 (.agg #[.int .u32 0, .slice none 0 0, .int .u32 2, .slice (some ⟨s, 0, none⟩) 1 1, .int .u32 2, .slice (some ⟨s + 1, 0, none⟩) 1 1, .int .u32 9, .slice (some ⟨s + 1 + 1, 0, none⟩) 2 2, .int .u32 9, .slice (some ⟨s + 1 + 1 + 1, 0, none⟩) 2 2, .int .u32 99, .slice (some ⟨g12, 0, none⟩) 17 17]) (.int .i64 2)).run Try.prog w = .ok (.agg #[.int .u32 2, (.slice (some ⟨s + 1, 0, none⟩) 1 1)]) w := fun _ => by rfl
  have i3 : ∀ w, (Instr.index 70 (.agg #[.int .u32 0, .slice none 0 0, .int .u32 2, .slice (some ⟨s, 0, none⟩) 1 1, .int .u32 2, .slice (some ⟨s + 1, 0, none⟩) 1 1, .int .u32 9, .slice (some ⟨s + 1 + 1, 0, none⟩) 2 2, .int .u32 9, .slice (some ⟨s + 1 + 1 + 1, 0, none⟩) 2 2, .int .u32 99, .slice (some ⟨g12, 0, none⟩) 17 17]) (.int .i64 3)).run Try.prog w = .ok (.agg #[.int .u32 9, (.slice (some ⟨s + 1 + 1, 0, none⟩) 2 2)]) w := fun _ => by rfl
  have i4 : ∀ w, (Instr.index 70 (.agg #[.int .u32 0, .slice none 0 0, .int .u32 2, .slice (some ⟨s, 0, none⟩) 1 1, .int .u32 2, .slice (some ⟨s + 1, 0, none⟩) 1 1, .int .u32 9, .slice (some ⟨s + 1 + 1, 0, none⟩) 2 2, .int .u32 9, .slice (some ⟨s + 1 + 1 + 1, 0, none⟩) 2 2, .int .u32 99, .slice (some ⟨g12, 0, none⟩) 17 17]) (.int .i64 4)).run Try.prog w = .ok (.agg #[.int .u32 9, (.slice (some ⟨s + 1 + 1 + 1, 0, none⟩) 2 2)]) w := fun _ => by rfl
  have i5 : ∀ w, (Instr.index 70 (.agg #[.int .u32 0, .slice none 0 0, .int .u32 2, .slice (some ⟨s, 0, none⟩) 1 1, .int .u32 2, .slice (some ⟨s + 1, 0, none⟩) 1 1, .int .u32 9, .slice (some ⟨s + 1 + 1, 0, none⟩) 2 2, .int .u32 9, .slice (some ⟨s + 1 + 1 + 1, 0, none⟩) 2 2, .int .u32 99, .slice (some ⟨g12, 0, none⟩) 17 17]) (.int .i64 5)).run Try.prog w = .ok (.agg #[.int .u32 99, (.slice (some ⟨g12, 0, none⟩) 17 17)]) w := fun _ => by rfl
  go_loopg [69] 6 (fun gk i wr => ∃ k : Nat, gk = 6 - k ∧ k ≤ 6 ∧ i = .int .i64 k ∧ Kept (fun _ => False) w12 wr)
  case atStart => exact ⟨0, rfl, by decide, rfl, Kept.refl _ _⟩
  case round =>
    obtain ⟨k, rfl, hk, rfl, hkk⟩ := hrel
    have HKK := Lw.hid hkk
    clear hkk
    by_cases hlt : k < 6
    · obtain rfl | rfl | rfl | rfl | rfl | rfl : k = 0 ∨ k = 1 ∨ k = 2 ∨ k = 3 ∨ k = 4 ∨ k = 5 := by omega
      · obtain ⟨wx, hwx⟩ : ∃ wx, wr.alloc (.cells #[.int .u32 0, (.slice none 0 0)] 26) = wx := ⟨_, rfl⟩
        obtain ⟨bx, hbx⟩ : ∃ bx, wr.heap.size = bx := ⟨_, rfl⟩
        have HKX : Hid (Kept (fun _ => False) w12 wx) := Lw.hid (by rw [← hwx]; exact HKK.out.alloc _)
        have HXX : Hid (wx.heap[bx]? = some (.cells #[u32v 0, (.slice none 0 0)] 26 (0, 0))) := Lw.hid (by rw [← hwx, ← hbx]; exact heap_at _ _ rfl)
        have HWX := Lw.hid hwx; have HBX := Lw.hid hbx
        clear hwx hbx
        have HM : Hid (mayF 0 [] = false) := Lw.hid (by decide)
        go_upto_region 12 with fail
        rw [HWX.out, HBX.out]
        have x0 := heap_cell HXX.out 0; have x1 := heap_cell HXX.out 1
        go_wp2_with fail
        refine (bytes_any wx 0 _ [] (HL0.out.keptF HKX.out) (by decide) (by decide)).mono ?_
        rw [bad_bytes HM.out]
        rintro e wy ⟨ry, rfl, hry, _, ky⟩
        obtain ⟨ay, ny, cy, rfl⟩ := rdb_sl hry
        have HKY := Lw.hid ky; have HXY := Lw.hid (ky.heap HXX.out (fun h => h))
        clear hry ky x0 x1
        have x0 := heap_cell HXY.out 0; have x1 := heap_cell HXY.out 1
        go_wp2_with fail
        refine (may_any wy _ [] ((HL0.out.keptF HKX.out).keptF HKY.out) 0 (by decide) (by decide)).mono ?_
        rw [HM.out]
        rintro e wz ⟨rfl, kz⟩
        have HKZ := Lw.hid (HKY.out.trans kz (fun _ _ h => h)); have HXZ := Lw.hid (kz.heap HXY.out (fun h => h))
        clear kz x0 x1
        have x0 := heap_cell HXZ.out 0; have x1 := heap_cell HXZ.out 1
        have HKX' := HKX.out.trans HKZ.out (fun _ _ h => h)
        have HKX := Lw.hid HKX'
        clear HKX'
        go_wp2_with fail
        refine (fits_any wz _ [] (HL0.out.keptF HKX.out) 0 0 (by decide) (by decide) (by decide) (fun j hj => (blk_none hj).elim)).mono ?_
        rw [bad_fits HM.out]
        rintro e wu ⟨rfl, ku⟩
        have HKU := Lw.hid (HKX.out.trans ku (fun _ _ h => h))
        clear ku x0 x1
        go_wp2_with fail
        go_roundg (6 - (0 + 1))
        case measure => omega
        case rel => exact ⟨0 + 1, rfl, by omega, by go_num, HKU.out⟩
      · obtain ⟨wx, hwx⟩ : ∃ wx, wr.alloc (.cells #[.int .u32 2, (.slice (some ⟨s, 0, none⟩) 1 1)] 26) = wx := ⟨_, rfl⟩
        obtain ⟨bx, hbx⟩ : ∃ bx, wr.heap.size = bx := ⟨_, rfl⟩
        have HKX : Hid (Kept (fun _ => False) w12 wx) := Lw.hid (by rw [← hwx]; exact HKK.out.alloc _)
        have HXX : Hid (wx.heap[bx]? = some (.cells #[u32v 2, (.slice (some ⟨s, 0, none⟩) 1 1)] 26 (0, 0))) := Lw.hid (by rw [← hwx, ← hbx]; exact heap_at _ _ rfl)
        have HWX := Lw.hid hwx; have HBX := Lw.hid hbx
        clear hwx hbx
        have HM : Hid (mayF 2 [⟨0, 0, 0, false⟩] = false) := Lw.hid (by decide)
        go_upto_region 12 with fail
        rw [HWX.out, HBX.out]
        have x0 := heap_cell HXX.out 0; have x1 := heap_cell HXX.out 1
        go_wp2_with fail
        refine (bytes_any wx 2 _ [⟨0, 0, 0, false⟩] (HL1.out.keptF HKX.out) (by decide) (by decide)).mono ?_
        rw [bad_bytes HM.out]
        rintro e wy ⟨ry, rfl, hry, _, ky⟩
        obtain ⟨ay, ny, cy, rfl⟩ := rdb_sl hry
        have HKY := Lw.hid ky; have HXY := Lw.hid (ky.heap HXX.out (fun h => h))
        clear hry ky x0 x1
        have x0 := heap_cell HXY.out 0; have x1 := heap_cell HXY.out 1
        go_wp2_with fail
        refine (may_any wy _ [⟨0, 0, 0, false⟩] ((HL1.out.keptF HKX.out).keptF HKY.out) 2 (by decide) (by decide)).mono ?_
        rw [HM.out]
        rintro e wz ⟨rfl, kz⟩
        have HKZ := Lw.hid (HKY.out.trans kz (fun _ _ h => h)); have HXZ := Lw.hid (kz.heap HXY.out (fun h => h))
        clear kz x0 x1
        have x0 := heap_cell HXZ.out 0; have x1 := heap_cell HXZ.out 1
        have HKX' := HKX.out.trans HKZ.out (fun _ _ h => h)
        have HKX := Lw.hid HKX'
        clear HKX'
        go_wp2_with fail
        refine (fits_any wz _ [⟨0, 0, 0, false⟩] (HL1.out.keptF HKX.out) 2 0 (by decide) (by decide) (by decide) (fun j hj => by have e := blk_some hj; simp at e; have := HSZ.out; have := HKX.out.size; omega)).mono ?_
        rw [bad_fits HM.out]
        rintro e wu ⟨rfl, ku⟩
        have HKU := Lw.hid (HKX.out.trans ku (fun _ _ h => h))
        clear ku x0 x1
        go_wp2_with fail
        go_roundg (6 - (1 + 1))
        case measure => omega
        case rel => exact ⟨1 + 1, rfl, by omega, by go_num, HKU.out⟩
      · obtain ⟨wx, hwx⟩ : ∃ wx, wr.alloc (.cells #[.int .u32 2, (.slice (some ⟨s + 1, 0, none⟩) 1 1)] 26) = wx := ⟨_, rfl⟩
        obtain ⟨bx, hbx⟩ : ∃ bx, wr.heap.size = bx := ⟨_, rfl⟩
        have HKX : Hid (Kept (fun _ => False) w12 wx) := Lw.hid (by rw [← hwx]; exact HKK.out.alloc _)
        have HXX : Hid (wx.heap[bx]? = some (.cells #[u32v 2, (.slice (some ⟨s + 1, 0, none⟩) 1 1)] 26 (0, 0))) := Lw.hid (by rw [← hwx, ← hbx]; exact heap_at _ _ rfl)
        have HWX := Lw.hid hwx; have HBX := Lw.hid hbx
        clear hwx hbx
        have HM : Hid (mayF 2 [⟨2, 0, 0, false⟩] = false) := Lw.hid (by decide)
        go_upto_region 12 with fail
        rw [HWX.out, HBX.out]
        have x0 := heap_cell HXX.out 0; have x1 := heap_cell HXX.out 1
        go_wp2_with fail
        refine (bytes_any wx 2 _ [⟨2, 0, 0, false⟩] (HL2.out.keptF HKX.out) (by decide) (by decide)).mono ?_
        rw [bad_bytes HM.out]
        rintro e wy ⟨ry, rfl, hry, _, ky⟩
        obtain ⟨ay, ny, cy, rfl⟩ := rdb_sl hry
        have HKY := Lw.hid ky; have HXY := Lw.hid (ky.heap HXX.out (fun h => h))
        clear hry ky x0 x1
        have x0 := heap_cell HXY.out 0; have x1 := heap_cell HXY.out 1
        go_wp2_with fail
        refine (may_any wy _ [⟨2, 0, 0, false⟩] ((HL2.out.keptF HKX.out).keptF HKY.out) 2 (by decide) (by decide)).mono ?_
        rw [HM.out]
        rintro e wz ⟨rfl, kz⟩
        have HKZ := Lw.hid (HKY.out.trans kz (fun _ _ h => h)); have HXZ := Lw.hid (kz.heap HXY.out (fun h => h))
        clear kz x0 x1
        have x0 := heap_cell HXZ.out 0; have x1 := heap_cell HXZ.out 1
        have HKX' := HKX.out.trans HKZ.out (fun _ _ h => h)
        have HKX := Lw.hid HKX'
        clear HKX'
        go_wp2_with fail
        refine (fits_any wz _ [⟨2, 0, 0, false⟩] (HL2.out.keptF HKX.out) 2 0 (by decide) (by decide) (by decide) (fun j hj => by have e := blk_some hj; simp at e; have := HSZ.out; have := HKX.out.size; omega)).mono ?_
        rw [bad_fits HM.out]
        rintro e wu ⟨rfl, ku⟩
        have HKU := Lw.hid (HKX.out.trans ku (fun _ _ h => h))
        clear ku x0 x1
        go_wp2_with fail
        go_roundg (6 - (2 + 1))
        case measure => omega
        case rel => exact ⟨2 + 1, rfl, by omega, by go_num, HKU.out⟩
      · obtain ⟨wx, hwx⟩ : ∃ wx, wr.alloc (.cells #[.int .u32 9, (.slice (some ⟨s + 1 + 1, 0, none⟩) 2 2)] 26) = wx := ⟨_, rfl⟩
        obtain ⟨bx, hbx⟩ : ∃ bx, wr.heap.size = bx := ⟨_, rfl⟩
        have HKX : Hid (Kept (fun _ => False) w12 wx) := Lw.hid (by rw [← hwx]; exact HKK.out.alloc _)
        have HXX : Hid (wx.heap[bx]? = some (.cells #[u32v 9, (.slice (some ⟨s + 1 + 1, 0, none⟩) 2 2)] 26 (0, 0))) := Lw.hid (by rw [← hwx, ← hbx]; exact heap_at _ _ rfl)
        have HWX := Lw.hid hwx; have HBX := Lw.hid hbx
        clear hwx hbx
        have HM : Hid (mayF 9 [⟨3, 0, 0, false⟩, ⟨3, 0, 0, false⟩] = false) := Lw.hid (by decide)
        go_upto_region 12 with fail
        rw [HWX.out, HBX.out]
        have x0 := heap_cell HXX.out 0; have x1 := heap_cell HXX.out 1
        go_wp2_with fail
        refine (bytes_any wx 9 _ [⟨3, 0, 0, false⟩, ⟨3, 0, 0, false⟩] (HL3.out.keptF HKX.out) (by decide) (by decide)).mono ?_
        rw [bad_bytes HM.out]
        rintro e wy ⟨ry, rfl, hry, _, ky⟩
        obtain ⟨ay, ny, cy, rfl⟩ := rdb_sl hry
        have HKY := Lw.hid ky; have HXY := Lw.hid (ky.heap HXX.out (fun h => h))
        clear hry ky x0 x1
        have x0 := heap_cell HXY.out 0; have x1 := heap_cell HXY.out 1
        go_wp2_with fail
        refine (may_any wy _ [⟨3, 0, 0, false⟩, ⟨3, 0, 0, false⟩] ((HL3.out.keptF HKX.out).keptF HKY.out) 9 (by decide) (by decide)).mono ?_
        rw [HM.out]
        rintro e wz ⟨rfl, kz⟩
        have HKZ := Lw.hid (HKY.out.trans kz (fun _ _ h => h)); have HXZ := Lw.hid (kz.heap HXY.out (fun h => h))
        clear kz x0 x1
        have x0 := heap_cell HXZ.out 0; have x1 := heap_cell HXZ.out 1
        have HKX' := HKX.out.trans HKZ.out (fun _ _ h => h)
        have HKX := Lw.hid HKX'
        clear HKX'
        go_wp2_with fail
        refine (fits_any wz _ [⟨3, 0, 0, false⟩, ⟨3, 0, 0, false⟩] (HL3.out.keptF HKX.out) 9 0 (by decide) (by decide) (by decide) (fun j hj => by have e := blk_some hj; simp at e; have := HSZ.out; have := HKX.out.size; omega)).mono ?_
        rw [bad_fits HM.out]
        rintro e wu ⟨rfl, ku⟩
        have HKU := Lw.hid (HKX.out.trans ku (fun _ _ h => h))
        clear ku x0 x1
        go_wp2_with fail
        go_roundg (6 - (3 + 1))
        case measure => omega
        case rel => exact ⟨3 + 1, rfl, by omega, by go_num, HKU.out⟩
      · obtain ⟨wx, hwx⟩ : ∃ wx, wr.alloc (.cells #[.int .u32 9, (.slice (some ⟨s + 1 + 1 + 1, 0, none⟩) 2 2)] 26) = wx := ⟨_, rfl⟩
        obtain ⟨bx, hbx⟩ : ∃ bx, wr.heap.size = bx := ⟨_, rfl⟩
        have HKX : Hid (Kept (fun _ => False) w12 wx) := Lw.hid (by rw [← hwx]; exact HKK.out.alloc _)
        have HXX : Hid (wx.heap[bx]? = some (.cells #[u32v 9, (.slice (some ⟨s + 1 + 1 + 1, 0, none⟩) 2 2)] 26 (0, 0))) := Lw.hid (by rw [← hwx, ← hbx]; exact heap_at _ _ rfl)
        have HWX := Lw.hid hwx; have HBX := Lw.hid hbx
        clear hwx hbx
        have HM : Hid (mayF 9 [⟨3, 0, 0, false⟩, ⟨2, 0, 0, false⟩] = false) := Lw.hid (by decide)
        go_upto_region 12 with fail
        rw [HWX.out, HBX.out]
        have x0 := heap_cell HXX.out 0; have x1 := heap_cell HXX.out 1
        go_wp2_with fail
        refine (bytes_any wx 9 _ [⟨3, 0, 0, false⟩, ⟨2, 0, 0, false⟩] (HL4.out.keptF HKX.out) (by decide) (by decide)).mono ?_
        rw [bad_bytes HM.out]
        rintro e wy ⟨ry, rfl, hry, _, ky⟩
        obtain ⟨ay, ny, cy, rfl⟩ := rdb_sl hry
        have HKY := Lw.hid ky; have HXY := Lw.hid (ky.heap HXX.out (fun h => h))
        clear hry ky x0 x1
        have x0 := heap_cell HXY.out 0; have x1 := heap_cell HXY.out 1
        go_wp2_with fail
        refine (may_any wy _ [⟨3, 0, 0, false⟩, ⟨2, 0, 0, false⟩] ((HL4.out.keptF HKX.out).keptF HKY.out) 9 (by decide) (by decide)).mono ?_
        rw [HM.out]
        rintro e wz ⟨rfl, kz⟩
        have HKZ := Lw.hid (HKY.out.trans kz (fun _ _ h => h)); have HXZ := Lw.hid (kz.heap HXY.out (fun h => h))
        clear kz x0 x1
        have x0 := heap_cell HXZ.out 0; have x1 := heap_cell HXZ.out 1
        have HKX' := HKX.out.trans HKZ.out (fun _ _ h => h)
        have HKX := Lw.hid HKX'
        clear HKX'
        go_wp2_with fail
        refine (fits_any wz _ [⟨3, 0, 0, false⟩, ⟨2, 0, 0, false⟩] (HL4.out.keptF HKX.out) 9 0 (by decide) (by decide) (by decide) (fun j hj => by have e := blk_some hj; simp at e; have := HSZ.out; have := HKX.out.size; omega)).mono ?_
        rw [bad_fits HM.out]
        rintro e wu ⟨rfl, ku⟩
        have HKU := Lw.hid (HKX.out.trans ku (fun _ _ h => h))
        clear ku x0 x1
        go_wp2_with fail
        go_roundg (6 - (4 + 1))
        case measure => omega
        case rel => exact ⟨4 + 1, rfl, by omega, by go_num, HKU.out⟩
      · obtain ⟨wx, hwx⟩ : ∃ wx, wr.alloc (.cells #[.int .u32 99, (.slice (some ⟨g12, 0, none⟩) 17 17)] 26) = wx := ⟨_, rfl⟩
        obtain ⟨bx, hbx⟩ : ∃ bx, wr.heap.size = bx := ⟨_, rfl⟩
        have HKX : Hid (Kept (fun _ => False) w12 wx) := Lw.hid (by rw [← hwx]; exact HKK.out.alloc _)
        have HXX : Hid (wx.heap[bx]? = some (.cells #[u32v 99, (.slice (some ⟨g12, 0, none⟩) 17 17)] 26 (0, 0))) := Lw.hid (by rw [← hwx, ← hbx]; exact heap_at _ _ rfl)
        have HWX := Lw.hid hwx; have HBX := Lw.hid hbx
        clear hwx hbx
        have HM : Hid (mayF 99 (List.replicate 17 zH) = false) := Lw.hid (by decide)
        go_upto_region 12 with fail
        rw [HWX.out, HBX.out]
        have x0 := heap_cell HXX.out 0; have x1 := heap_cell HXX.out 1
        go_wp2_with fail
        refine (bytes_any wx 99 _ (List.replicate 17 zH) (HL5.out.keptF HKX.out) (by decide) (by decide)).mono ?_
        rw [bad_bytes HM.out]
        rintro e wy ⟨ry, rfl, hry, _, ky⟩
        obtain ⟨ay, ny, cy, rfl⟩ := rdb_sl hry
        have HKY := Lw.hid ky; have HXY := Lw.hid (ky.heap HXX.out (fun h => h))
        clear hry ky x0 x1
        have x0 := heap_cell HXY.out 0; have x1 := heap_cell HXY.out 1
        go_wp2_with fail
        refine (may_any wy _ (List.replicate 17 zH) ((HL5.out.keptF HKX.out).keptF HKY.out) 99 (by decide) (by decide)).mono ?_
        rw [HM.out]
        rintro e wz ⟨rfl, kz⟩
        have HKZ := Lw.hid (HKY.out.trans kz (fun _ _ h => h)); have HXZ := Lw.hid (kz.heap HXY.out (fun h => h))
        clear kz x0 x1
        have x0 := heap_cell HXZ.out 0; have x1 := heap_cell HXZ.out 1
        have HKX' := HKX.out.trans HKZ.out (fun _ _ h => h)
        have HKX := Lw.hid HKX'
        clear HKX'
        go_wp2_with fail
        refine (fits_any wz _ (List.replicate 17 zH) (HL5.out.keptF HKX.out) 99 0 (by decide) (by decide) (by decide) (fun j hj => by have e := blk_some hj; simp at e; have := HSZ.out; have := HKX.out.size; omega)).mono ?_
        rw [bad_fits HM.out]
        rintro e wu ⟨rfl, ku⟩
        have HKU := Lw.hid (HKX.out.trans ku (fun _ _ h => h))
        clear ku x0 x1
        go_wp2_with fail
        go_roundg (6 - (5 + 1))
        case measure => omega
        case rel => exact ⟨5 + 1, rfl, by omega, by go_num, HKU.out⟩
    · obtain rfl : k = 6 := by omega
      clear i0 i1 i2 i3 i4 i5 hlt
      go_wp2_with fail
      obtain ⟨wo, rfl⟩ : ∃ wo : World, wo = wr := ⟨_, rfl⟩
      have HFI : Hid (FAt wo wo.heap.size 4294967295 (.slice none 0 0) [] (wo.alloc (.cells #[.int .u32 4294967295, .slice none 0 0] 26))) := Lw.hid ⟨(Kept.refl _ wo).alloc _, heap_at _ _ rfl, World.ownsRow_nil _ _ _ _, fun k h => (blk_none h).elim⟩
      go_loopg [90] 16 (fun gk i wr => ∃ (j : Nat) (v : Value), gk = 16 - j ∧ j ≤ 16 ∧ i = .int .u32 j ∧ FAt wo wo.heap.size 4294967295 v (fullL.take j) wr)
      case atStart => exact ⟨0, _, rfl, by decide, rfl, HFI.out⟩
      case round =>
        obtain ⟨j, v, rfl, hj, rfl, hf⟩ := hrel
        obtain ⟨adf, cpf, rfl, hd1, hd2, _⟩ := own_slice hf.row
        unfold maxLen at hd2
        have hl : (fullL.take j).length = j := by rw [List.length_take, full_len]; omega
        rw [hl] at hd1
        have HF := Lw.hid hf
        have b0 := heap_cell hf.box 0; have b1 := heap_cell hf.box 1; have fb := heap_free hf.box 1
        rw [hl] at b1
        have HRW : Hid (wr.ownsRow 0 35 4 (.slice adf j cpf) j ((fullL.take j).flatMap Hv.cells)) := Lw.hid (by have := hf.row; rwa [hl] at this)
        have HFJ : Hid (FAt wo wo.heap.size 4294967295 (.slice adf j cpf) (fullL.take j) wr) := Lw.hid (by have := hf; rwa [hl] at this)
        have HLJ := Lw.hid hl
        clear hf hl HF
        by_cases hlt : j < 16
        · have HSN : Hid (fullL.take (j + 1) = fullL.take j ++ [⟨4294967279 + j, 4294967295, 0, false⟩]) := Lw.hid (by
            rw [take_snoc fullL j (by rw [full_len]; exact hlt)]
            congr 1
            unfold fullL
            simp)
          have e1 : Hid ((wr.alloc (.cells ([.int .u32 (4294967279 + (j : Int)), .int .u32 4294967295, .int .u32 0, .bool false] : List Value).toArray 35)).ownsRow 0 35 4 (.slice adf j cpf) j ((fullL.take j).flatMap Hv.cells)) := Lw.hid (own_kept ((Kept.refl (fun _ => False) wr).alloc _) HRW.out (fun _ _ h => h))
          go_wp2_with (at_builtin; refine wpList_app rfl _ _ _ rfl EHv _ j _ rfl e1.out _ 1 _ rfl (Rd.lit wr [.int .u32 (4294967279 + (j : Int)), .int .u32 4294967295, .int .u32 0, .bool false] 35 4 wr.heap.size 1 rfl rfl (by decide)) (by intro u hu; simp only [List.mem_cons, List.not_mem_nil, or_false] at hu; rcases hu with rfl | rfl | rfl | rfl <;> rfl) (by unfold maxLen; omega) (by omega) ?_; intro ad' cap' n7 ho hg hf; obtain ⟨hb7, hr7⟩ := HFJ.out.grow (M := [⟨4294967279 + j, 4294967295, 0, false⟩]) ((Kept.refl _ wr).alloc _) (by rw [show ([⟨4294967279 + j, 4294967295, 0, false⟩] : List Hv).flatMap Hv.cells = [.int .u32 (4294967279 + (j : Int)), .int .u32 4294967295, .int .u32 0, .bool false] by simp [Hv.cells, u32v]]; exact ho) (by rw [HLJ.out]; rfl) hg hf; have HR7 := Lw.hid hr7; have j0 := heap_cell hb7 0; have j1 := heap_cell hb7 1; have fj := heap_free hb7 1; clear ho hg hf hr7 hb7)
          go_roundg (16 - (j + 1))
          case measure => omega
          case rel => exact ⟨j + 1, _, rfl, by omega, by go_num, by rw [HSN.out]; exact HR7.out⟩
        · obtain rfl : j = 16 := by omega
          have HFL : Hid (FAt wo wo.heap.size 4294967295 (.slice adf 16 cpf) fullL wr) := Lw.hid (by have := HFJ.out; rwa [List.take_of_length_le (by rw [full_len]; exact Nat.le_refl _)] at this)
          have HFR : Hid (RdH wr (.slice adf 16 cpf) fullL) := Lw.hid (rdh_own (n := 16) (by have := HRW.out; rwa [List.take_of_length_le (by rw [full_len]; exact Nat.le_refl _)] at this) full_len.symm full_ok)
          have HFB : Hid (∀ k, blk (.slice adf 16 cpf) k → wo.heap.size < k ∧ k < wr.heap.size) := Lw.hid (fun k hk => ⟨HFL.out.fr k hk, own_lt HRW.out k hk⟩)
          have KX : Hid (Kept (fun _ => False) w11 wr) := Lw.hid ((hK.out.trans HKK.out (fun _ _ h => h)).trans HFL.out.k (fun _ _ h => h))
          have HX1 := Lw.hid (KX.out.heap HX11.out (fun h => h)); have HA1 := Lw.hid (HA11.out.keptF KX.out); have K1 := Lw.hid (K11.out.trans KX.out (fun _ _ h => h))
          have HBX := Lw.hid HFL.out.box
          obtain ⟨bf, hbf⟩ : ∃ bf, wo.heap.size = bf := ⟨_, rfl⟩
          have HLO : Hid (w.heap.size + 2 ≤ bf) := Lw.hid (by have h1 := (Array.getElem?_eq_some_iff.1 HX11.out).1; have h2 := hK.out.size; have h3 := HKK.out.size; omega)
          rw [hbf] at HBX HFB b0 b1 fb ⊢
          have HBF := Lw.hid hbf
          clear hbf HFJ HRW HLJ HFL hd1 hd2 hj hlt HL0 HL1 HL2 HL3 HL4 HL5 HFI
          go_wp2_with fail
          refine (bytes_any wr 4294967295 _ fullL HFR.out (by decide) (by rw [full_len]; decide)).mono ?_
          rw [full_bytes]
          rintro e w20 ⟨r20, rfl, hr20, _, k20⟩
          obtain ⟨a20, c20, hv20, _, _, _⟩ := hr20.open
          simp only [full_blen] at hv20
          subst hv20
          obtain ⟨w21, hw21⟩ : ∃ w21, w20.alloc (.cells #[.int .i64 0] 3) = w21 := ⟨_, rfl⟩
          obtain ⟨bm, hbm⟩ : ∃ bm, w20.heap.size = bm := ⟨_, rfl⟩
          have K21 : Hid (Kept (fun _ => False) wr w21) := Lw.hid (by rw [← hw21]; exact k20.alloc _)
          have HM21 : Hid (w21.heap[bm]? = some (.cells #[.int .i64 0] 3 (0, 0))) := Lw.hid (by rw [← hw21, ← hbm]; exact heap_at _ _ rfl)
          have HBM : Hid (wr.heap.size ≤ bm) := Lw.hid (by rw [← hbm]; exact k20.size)
          have HW21 := Lw.hid hw21; have HBM' := Lw.hid hbm
          clear hw21 hbm hr20 k20 b0 b1 fb
          go_upto_region 25 with fail
          rw [HW21.out, HBM'.out]
          have HXF := Lw.hid (K21.out.heap HBX.out (fun h => h)); have HFR21 := Lw.hid (HFR.out.keptF K21.out)
          have b0 := heap_cell HXF.out 0; have b1 := heap_cell HXF.out 1
          go_wp2_with fail
          refine (past_any w21 4294967295 4294967278 _ fullL HFR21.out).mono ?_
          rintro e w22 ⟨BA, BL, rfl, hat, k22, _, _⟩
          have HAT := Lw.hid hat; have K22 := Lw.hid k22
          clear hat k22
          go_wp2_with fail
          refine (safe_any w22 _ _ _).mono ?_
          rintro e w23 ⟨rfl, rfl⟩
          go_wp2_with fail
          have HLO23 : Hid (bm < w23.heap.size ∧ w21.heap.size ≤ w23.heap.size) := Lw.hid ⟨Nat.lt_of_lt_of_le (Array.getElem?_eq_some_iff.1 HM21.out).1 K22.out.size, K22.out.size⟩
          have HV23 : Hid (∀ w', Kept (fun _ => False) w23 w' → ∀ k, blk (.slice adf 16 cpf) k → k < w'.heap.size) := Lw.hid (fun w' kw k hk => by have := (HFB.out k hk).2; have := HBM.out; have := HLO23.out; have := kw.size; omega)
          have HST0 : Hid (KnSt w bf bm adf cpf w23) := Lw.hid ⟨(K1.out.trans K21.out (fun _ _ h => h)).trans K22.out (fun _ _ h => h), (K21.out.trans K22.out (fun _ _ h => h)).heap HX1.out (fun h => h), K22.out.heap HXF.out (fun h => h), (HA1.out.keptF K21.out).keptF K22.out, HFR21.out.keptF K22.out⟩
          have HBL : Hid (w.heap.size + 2 ≤ bf ∧ bf < bm ∧ ∀ k, blk (.slice adf 16 cpf) k → k < bm) := Lw.hid ⟨HLO.out, Nat.lt_of_lt_of_le (Array.getElem?_eq_some_iff.1 HBX.out).1 HBM.out, fun k hk => Nat.lt_of_lt_of_le (HFB.out k hk).2 HBM.out⟩
          have HM23 := Lw.hid (K22.out.heap HM21.out (fun h => h))
          refine wp_named (fun ac hac => ?_)
          refine wp_range (gf := 41) (lb := #[.pointer (some ⟨BA, 0, none⟩), .pointer (some ⟨BL, 0, none⟩)]) (by rw [hac.out]; rfl) (Go.Proofs.enters_of Try.func41 (by kernel_rfl) rfl)
            (past_iter w23 BA BL 4294967295 4294967278 _ fullL HAT.out (HV23.out _ (Kept.refl _ _)) (by decide) (by decide) (by rw [full_len]; decide)) (HAT.out.lt (HV23.out _ (Kept.refl _ _))) (fun _ => rfl)
            (fun X pre V => pre.length < 4 ∧ V.heap[bm]? = some (.cells #[.int .i64 (pre.length : Int)] 3 (0, 0)) ∧ KnSt w bf bm adf cpf V ∧ (∀ k, X k → w23.heap.size ≤ k) ∧ w23.heap.size ≤ V.heap.size)
            (fun c X pre V => c = .exit 4 ∧ V.heap[bm]? = some (.cells #[.int .i64 4] 3 (0, 0)) ∧ KnSt w bf bm adf cpf V ∧ (∀ k, X k → w23.heap.size ≤ k) ∧ w23.heap.size ≤ V.heap.size)
            ?_ ?_ ?_ (fun X q V => q.2.2 = { tmps := ac.tmps.setIfInBounds 116 (u32v q.2.1), defers := [] }) (fun _ _ _ _ _ h _ _ => h) ?assign ?body ?done ?stop
          · rintro X X' s V V' ⟨h1, h2, h3, h4, h5⟩ hk hx
            exact ⟨h1, hk.heap h2 (fun h => by have := h4 _ h; have := HLO23.out; omega), h3.move HBL.out hk (fun k h => by have := h4 _ h; have := HLO23.out; omega), fun k h => by rcases hx k h with h | h; exact h4 k h; omega, Nat.le_trans h5 hk.size⟩
          · rintro c X X' s V V' ⟨h1, h2, h3, h4, h5⟩ hk hx
            exact ⟨h1, hk.heap h2 (fun h => by have := h4 _ h; have := HLO23.out; omega), h3.move HBL.out hk (fun k h => by have := h4 _ h; have := HLO23.out; omega), fun k h => by rcases hx k h with h | h; exact h4 k h; omega, Nat.le_trans h5 hk.size⟩
          · exact ⟨by decide, HM23.out, HST0.out, fun k h => h.elim, Nat.le_refl _⟩
          case assign =>
            rintro y X pre x V K hi _ _ _ hK
            gi_wp2
            exact hK _ _ (Keeps.refl _ _) hi rfl
          case body =>
            rintro y X pre x a' V ⟨h1, h2, h3, h4, h5⟩ hax hX hpx hsz
            dsimp only at hax
            subst hax
            rw [hac.out]
            simp only [List.setIfInBounds_toArray, List.set_cons_zero, List.set_cons_succ]
            obtain ⟨n, hn⟩ : ∃ n, pre.length = n := ⟨_, rfl⟩
            have HN := Lw.hid hn
            rw [hn] at h1 h2
            have m0 := heap_cell h2 0; have f0 := heap_free h2 0
            have H2 := Lw.hid h2; have H3 := Lw.hid h3; have H4 := Lw.hid h4
            have HB1 : Hid (w21.heap.size ≤ BA ∧ w21.heap.size ≤ BL ∧ bm < w21.heap.size) := Lw.hid ⟨by assumption, by assumption, (Array.getElem?_eq_some_iff.1 HM21.out).1⟩
            have HKE : Hid (∀ u, Keeps (fun k => AskR BA BL (.slice adf 16 cpf) k ∨ X k) V (V.setCell ⟨bm, 0, none⟩ u)) := Lw.hid (fun u => ((Kept.refl (fun k => k = bm) V).set _ _ (fun _ => rfl) _).keeps (fun k hk hr he => by
              subst he
              have := HB1.out
              rcases hr with (h | h | h) | h
              · omega
              · omega
              · have := HBL.out.2.2 _ h; omega
              · have := H4.out _ h; have := HLO23.out; omega))
            clear hn h2 h3 h4 b0 b1
            by_cases hq : n = 3
            · have hb : ((n : Int) + 1 == 4) = true := by simp; omega
              gi_wp2
              refine ⟨HKE.out _, rfl, ?_, H3.out.move HBL.out ((Kept.refl (fun k => k = bm) V).set _ _ (fun _ => rfl) _) (fun k e => by omega), H4.out, by simpa using h5⟩
              exact Boxed.set _ H2.out
            · have hb : ((n : Int) + 1 == 4) = false := by simp; omega
              gi_wp2
              refine ⟨HKE.out _, by rw [List.length_append, HN.out]; simp; omega, ?_, H3.out.move HBL.out ((Kept.refl (fun k => k = bm) V).set _ _ (fun _ => rfl) _) (fun k e => by omega), H4.out, by simpa using h5⟩
              rw [Boxed.set _ H2.out, List.length_append, HN.out]; simp
          case done =>
            rintro X D V hD hXD hXb ⟨h1, _⟩ hdf
            have := full_past
            omega
          case stop =>
            rintro X c pre D V hD hXD hXb hpre hne ⟨rfl, h2, h3, h4, h5⟩ hdf
            rw [hac.out]
            have KN := Lw.hid h3; have HSW : Hid (bm < V.heap.size) := Lw.hid (by have := HLO23.out; omega); have HDF := Lw.hid hdf; have HMM := Lw.hid h2
            have HDB : Hid (w.heap.size ≤ D) := Lw.hid (by have := HLO23.out; have := HBL.out; omega)
            clear h2 h3 h4 h5 hdf hXD hXb hD hac b0 b1
            have o0 := heap_cell KN.out.one 0; have o1 := heap_cell KN.out.one 1; have p0 := heap_cell KN.out.full 0; have p1 := heap_cell KN.out.full 1; have mm := heap_cell HMM.out 0
            go_wp2_with fail
            refine (fits_any _ _ oneL KN.out.r1 3 3 (by decide) (by decide) (by decide) (fun j hj => by have e : j = w.heap.size := blk_some hj; have := KN.out.k.size; have := (Array.getElem?_eq_some_iff.1 KN.out.one).1; omega)).mono ?_
            rw [one_fits3]
            rintro e x1 ⟨rfl, kx⟩
            have KN1 := Lw.hid (KN.out.move HBL.out kx (fun _ h => h.elim)); have HSW1 := Lw.hid (Nat.lt_of_lt_of_le HSW.out kx.size); have HDF1 := Lw.hid (kx.heap HDF.out (fun h => h)); have HMM1 := Lw.hid (kx.heap HMM.out (fun h => h))
            clear kx KN HSW HDF HMM o0 o1 p0 p1 mm
            have KN := KN1; have HSW := HSW1; have HDF := HDF1; have HMM := HMM1
            clear KN1 HSW1 HDF1 HMM1
            have o0 := heap_cell KN.out.one 0; have o1 := heap_cell KN.out.one 1; have p0 := heap_cell KN.out.full 0; have p1 := heap_cell KN.out.full 1; have mm := heap_cell HMM.out 0
            go_wp2_with fail
            refine (fits_any _ _ oneL KN.out.r1 3 0 (by decide) (by decide) (by decide) (fun j hj => by have e : j = w.heap.size := blk_some hj; have := KN.out.k.size; have := (Array.getElem?_eq_some_iff.1 KN.out.one).1; omega)).mono ?_
            rw [one_fits0]
            rintro e x2 ⟨rfl, kx⟩
            have KN2 := Lw.hid (KN.out.move HBL.out kx (fun _ h => h.elim)); have HSW2 := Lw.hid (Nat.lt_of_lt_of_le HSW.out kx.size); have HDF2 := Lw.hid (kx.heap HDF.out (fun h => h)); have HMM2 := Lw.hid (kx.heap HMM.out (fun h => h))
            clear kx KN HSW HDF HMM o0 o1 p0 p1 mm
            have KN := KN2; have HSW := HSW2; have HDF := HDF2; have HMM := HMM2
            clear KN2 HSW2 HDF2 HMM2
            have o0 := heap_cell KN.out.one 0; have o1 := heap_cell KN.out.one 1; have p0 := heap_cell KN.out.full 0; have p1 := heap_cell KN.out.full 1; have mm := heap_cell HMM.out 0
            go_wp2_with fail
            refine (fits_any _ _ oneL KN.out.r1 3 1 (by decide) (by decide) (by decide) (fun j hj => by have e : j = w.heap.size := blk_some hj; have := KN.out.k.size; have := (Array.getElem?_eq_some_iff.1 KN.out.one).1; omega)).mono ?_
            rw [one_fits1]
            rintro e x3 ⟨rfl, kx⟩
            have KN3 := Lw.hid (KN.out.move HBL.out kx (fun _ h => h.elim)); have HSW3 := Lw.hid (Nat.lt_of_lt_of_le HSW.out kx.size); have HDF3 := Lw.hid (kx.heap HDF.out (fun h => h)); have HMM3 := Lw.hid (kx.heap HMM.out (fun h => h))
            clear kx KN HSW HDF HMM o0 o1 p0 p1 mm
            have KN := KN3; have HSW := HSW3; have HDF := HDF3; have HMM := HMM3
            clear KN3 HSW3 HDF3 HMM3
            have o0 := heap_cell KN.out.one 0; have o1 := heap_cell KN.out.one 1; have p0 := heap_cell KN.out.full 0; have p1 := heap_cell KN.out.full 1; have mm := heap_cell HMM.out 0
            go_wp2_with fail
            refine (fits_any _ _ fullL KN.out.r2 4294967295 4294967278 (by decide) (by decide) (by rw [full_len]; decide) (fun j hj => by have := HBL.out.2.2 j hj; have := HSW.out; omega)).mono ?_
            rw [full_fits]
            rintro e x4 ⟨rfl, kx⟩
            have KN4 := Lw.hid (KN.out.move HBL.out kx (fun _ h => h.elim)); have HSW4 := Lw.hid (Nat.lt_of_lt_of_le HSW.out kx.size); have HDF4 := Lw.hid (kx.heap HDF.out (fun h => h)); have HMM4 := Lw.hid (kx.heap HMM.out (fun h => h))
            clear kx KN HSW HDF HMM o0 o1 p0 p1 mm
            have KN := KN4; have HSW := HSW4; have HDF := HDF4; have HMM := HMM4
            clear KN4 HSW4 HDF4 HMM4
            have o0 := heap_cell KN.out.one 0; have o1 := heap_cell KN.out.one 1; have p0 := heap_cell KN.out.full 0; have p1 := heap_cell KN.out.full 1; have mm := heap_cell HMM.out 0
            go_wp2_with fail
            refine (fits_any _ _ fullL KN.out.r2 4294967295 4294967294 (by decide) (by decide) (by rw [full_len]; decide) (fun j hj => by have := HBL.out.2.2 j hj; have := HSW.out; omega)).mono ?_
            rw [full_fits1]
            rintro e x5 ⟨rfl, kx⟩
            have KN5 := Lw.hid (KN.out.move HBL.out kx (fun _ h => h.elim)); have HSW5 := Lw.hid (Nat.lt_of_lt_of_le HSW.out kx.size); have HDF5 := Lw.hid (kx.heap HDF.out (fun h => h)); have HMM5 := Lw.hid (kx.heap HMM.out (fun h => h))
            clear kx KN HSW HDF HMM o0 o1 p0 p1 mm
            have KN := KN5; have HSW := HSW5; have HDF := HDF5; have HMM := HMM5
            clear KN5 HSW5 HDF5 HMM5
            have o0 := heap_cell KN.out.one 0; have o1 := heap_cell KN.out.one 1; have p0 := heap_cell KN.out.full 0; have p1 := heap_cell KN.out.full 1; have mm := heap_cell HMM.out 0
            go_wp2_with fail
            refine (fits_any _ _ fullL KN.out.r2 4294967295 4294967295 (by decide) (by decide) (by rw [full_len]; decide) (fun j hj => by have := HBL.out.2.2 j hj; have := HSW.out; omega)).mono ?_
            rw [full_fits2]
            rintro e x6 ⟨rfl, kx⟩
            have KN6 := Lw.hid (KN.out.move HBL.out kx (fun _ h => h.elim)); have HSW6 := Lw.hid (Nat.lt_of_lt_of_le HSW.out kx.size); have HDF6 := Lw.hid (kx.heap HDF.out (fun h => h)); have HMM6 := Lw.hid (kx.heap HMM.out (fun h => h))
            clear kx KN HSW HDF HMM o0 o1 p0 p1 mm
            have KN := KN6; have HSW := HSW6; have HDF := HDF6; have HMM := HMM6
            clear KN6 HSW6 HDF6 HMM6
            have o0 := heap_cell KN.out.one 0; have o1 := heap_cell KN.out.one 1; have p0 := heap_cell KN.out.full 0; have p1 := heap_cell KN.out.full 1; have mm := heap_cell HMM.out 0
            go_wp2_with fail
            refine (again_any x6 4294967295 4294967278 _ fullL KN.out.r2).mono ?_
            rintro e x7 ⟨BA7, BL7, rfl, hat7, k7, _, _⟩
            have HAT7 := Lw.hid hat7
            clear hat7
            have KN7 := Lw.hid (KN.out.move HBL.out k7 (fun _ h => h.elim)); have HSW7 := Lw.hid (Nat.lt_of_lt_of_le HSW.out k7.size); have HDF7 := Lw.hid (k7.heap HDF.out (fun h => h)); have HMM7 := Lw.hid (k7.heap HMM.out (fun h => h))
            clear k7 KN HSW HDF HMM o0 o1 p0 p1 mm
            have KN := KN7; have HSW := HSW7; have HDF := HDF7; have HMM := HMM7
            clear KN7 HSW7 HDF7 HMM7
            have o0 := heap_cell KN.out.one 0; have o1 := heap_cell KN.out.one 1; have p0 := heap_cell KN.out.full 0; have p1 := heap_cell KN.out.full 1; have mm := heap_cell HMM.out 0
            go_wp2_with fail
            have HV7 : Hid (∀ w', Kept (fun _ => False) x7 w' → ∀ k, blk (.slice adf 16 cpf) k → k < w'.heap.size) := Lw.hid (fun w' kw k hk => by have := HBL.out.2.2 k hk; have := HSW.out; have := kw.size; omega)
            refine (first_any x7 36 _ 99 _ (AskR BA7 BL7 _) (fun wx kx => again_iter wx BA7 BL7 4294967295 4294967278 _ fullL (HAT7.out.keptF kx) (HV7.out wx kx) (by decide) (by decide) (by rw [full_len]; decide)) (HAT7.out.lt (HV7.out _ (Kept.refl _ _))) (Go.Proofs.enters_of Try.func36 (by kernel_rfl) rfl) (by decide)).mono ?_
            rintro e x8 ⟨v8, rfl, ho8, _, k8⟩
            obtain ⟨a8, c8, hv8, _, _, _⟩ := own_slice ho8
            rw [full_again] at hv8
            subst hv8
            clear ho8
            have KN8 := Lw.hid (KN.out.move HBL.out k8 (fun _ h => h.elim)); have HSW8 := Lw.hid (Nat.lt_of_lt_of_le HSW.out k8.size); have HDF8 := Lw.hid (k8.heap HDF.out (fun h => h)); have HMM8 := Lw.hid (k8.heap HMM.out (fun h => h))
            clear k8 KN HSW HDF HMM o0 o1 p0 p1 mm
            have KN := KN8; have HSW := HSW8; have HDF := HDF8; have HMM := HMM8
            clear KN8 HSW8 HDF8 HMM8
            have o0 := heap_cell KN.out.one 0; have o1 := heap_cell KN.out.one 1; have p0 := heap_cell KN.out.full 0; have p1 := heap_cell KN.out.full 1; have mm := heap_cell HMM.out 0
            go_wp2_with fail
            refine (fits_any x8 _ [] ⟨Rd.nil _ _, fun _ h => by cases h⟩ 1 0 (by decide) (by decide) (by decide) (fun j hj => (blk_none hj).elim)).mono ?_
            rw [empty_fits]
            rintro e x9 ⟨rfl, k9⟩
            have KN9 := Lw.hid (KN.out.move HBL.out k9 (fun _ h => h.elim)); have HSW9 := Lw.hid (Nat.lt_of_lt_of_le HSW.out k9.size); have HDF9 := Lw.hid (k9.heap HDF.out (fun h => h)); have HMM9 := Lw.hid (k9.heap HMM.out (fun h => h))
            clear k9 KN HSW HDF HMM o0 o1 p0 p1 mm
            have KN := KN9; have HSW := HSW9; have HDF := HDF9; have HMM := HMM9
            clear KN9 HSW9 HDF9 HMM9
            have o0 := heap_cell KN.out.one 0; have o1 := heap_cell KN.out.one 1; have p0 := heap_cell KN.out.full 0; have p1 := heap_cell KN.out.full 1; have mm := heap_cell HMM.out 0
            go_wp2_with fail
            refine (rwakes_any x9).mono ?_
            rintro e x10 ⟨rfl, k10⟩
            have KN10 := Lw.hid (KN.out.move HBL.out k10 (fun _ h => h.elim)); have HSW10 := Lw.hid (Nat.lt_of_lt_of_le HSW.out k10.size); have HDF10 := Lw.hid (k10.heap HDF.out (fun h => h)); have HMM10 := Lw.hid (k10.heap HMM.out (fun h => h))
            clear k10 KN HSW HDF HMM o0 o1 p0 p1 mm
            have KN := KN10; have HSW := HSW10; have HDF := HDF10; have HMM := HMM10
            clear KN10 HSW10 HDF10 HMM10
            have o0 := heap_cell KN.out.one 0; have o1 := heap_cell KN.out.one 1; have p0 := heap_cell KN.out.full 0; have p1 := heap_cell KN.out.full 1; have mm := heap_cell HMM.out 0
            go_wp2_with fail
            refine leaves_marks [D] _ (by simp) (fun r hr => by rw [List.mem_singleton.1 hr]; exact HDF.out) (fun V' hk => ⟨_, results_tmp rfl _ _ _, rfl, Below.of_kept (KN.out.k.trans hk (fun i hi h => by rw [List.mem_singleton.1 h] at hi; have := HDB.out; omega))⟩)
end Go.Proofs.Ytbmfnepbdfnlaaa
