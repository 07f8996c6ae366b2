/- word.All: the range over a word's parts, those of its words behind each. -/
import Derived.Test.YtifcgeanippepaaDoorWord6
import Derived.Test.YtifcgeanippepaaDoorIterE
import Derived.Sort.LoopGhostIn
namespace Go.Proofs.YtifcgeanippepaaDoor
open Go Go.RowKit Go.Lw
set_option maxRecDepth 100000
set_option linter.unusedVariables false
set_option linter.unusedSimpArgs false
attribute [local go_sem] Oper.semAt_some
attribute [local go_sem] BA_toList
/-- All parts, with their depth. -/
def allP : Prt → List (Nat × Prt)
  | .mk k t o q => (0, .mk k t o q) :: (allL o).map (fun x => (x.1 + 1, x.2))
where allL : List Prt → List (Nat × Prt)
  | [] => []
  | p :: l => allP p ++ allL l
abbrev allL := allP.allL
theorem allL_nil : allL [] = [] := by show allP.allL _ = _; rw [allP.allL]
theorem allL_cons (p : Prt) (l : List Prt) : allL (p :: l) = allP p ++ allL l := by show allP.allL _ = _; rw [allP.allL]
def upD (x : Nat × Prt) : Nat × Prt := (x.1 + 1, x.2)
theorem allP_of (p : Prt) : allP p = (0, p) :: (allL p.orw).map upD := by
  obtain ⟨k, t, o, q⟩ := p
  rw [allP]; rfl
theorem allL_take {l : List Prt} {k : Nat} {p : Prt} (h : l[k]? = some p) : allL (l.take (k + 1)) = allL (l.take k) ++ allP p := by
  induction l generalizing k with
  | nil => simp at h
  | cons x l ih =>
    cases k with
    | zero =>
      simp at h; subst h
      rw [List.take_succ_cons, List.take_zero, List.take_zero, allL_cons, allL_nil, List.append_nil, List.nil_append]
    | succ k =>
      rw [List.take_succ_cons, List.take_succ_cons, allL_cons, allL_cons, ih (by simpa using h), List.append_assoc]
theorem allL_app : ∀ (a b : List Prt), allL (a ++ b) = allL a ++ allL b
  | [], b => by rw [allL_nil]; rfl
  | p :: a, b => by rw [List.cons_append, allL_cons, allL_cons, allL_app a b, List.append_assoc]
theorem allL_pre (l : List Prt) (k : Nat) : allL (l.take k) <+: allL l := ⟨allL (l.drop k), by rw [← allL_app, List.take_append_drop]⟩
theorem allL_depth : ∀ (n : Nat) (l : List Prt), szL l ≤ n → ∀ x ∈ allL l, x.1 < szL l
  | 0, l, h => by have := szL_pos l; omega
  | n + 1, [], _ => by intro x hx; rw [allL_nil] at hx; cases hx
  | n + 1, p :: l, h => by
    intro x hx
    have e : szL (p :: l) = szP p + szL l := by show szP.szL _ = _; rw [szP.szL]
    have h1 := sizeOf_orw p
    have h2 := szL_pos l
    rw [allL_cons, allP_of] at hx
    rcases List.mem_append.1 hx with hx | hx
    · rcases List.mem_cons.1 hx with rfl | hx
      · show 0 < _; omega
      · obtain ⟨y, hy, rfl⟩ := List.mem_map.1 hx
        have := allL_depth n p.orw (by omega) y hy
        show y.1 + 1 < _
        omega
    · have := allL_depth n l (by have := szL_pos p.orw; omega) x hx
      omega
/-- What is yielded of a part. -/
def AE (F : Nat → Prop) (lo : Nat) (X Xp : Nat → Prop) (x : Nat × Prt) (A : Array Value) (W : World) : Prop :=
  ∃ (oa : Option Addr) (on oc : Nat), A = #[.int .i64 (x.1 : Int), .agg #[.int .i64 x.2.kind, .string (BA x.2.text), .slice oa on oc, .bool x.2.quoted]] ∧ WAt W F (.slice oa on oc) x.2.orw
theorem AE.mono (F : Nat → Prop) : EMono (AE F) := fun _ _ _ _ _ _ _ _ h _ _ => h
theorem WAt.keeps {R : Nat → Prop} {w w' : World} {F : Nat → Prop} {v : Value} {l : List Prt} (h : WAt w F v l) (k : Keeps R w w') (hR : ∀ b, F b → R b) : WAt w' F v l := by
  induction h with
  | mk v ps h1 h2 h3 ih =>
    refine .mk v ps (h1.of_cells fun g off j u hg hc => k.cell hc (hR g (h2 g hg).1)) (fun b hb => ⟨(h2 b hb).1, Nat.lt_of_lt_of_le (h2 b hb).2 k.1⟩) ih
abbrev wbox (v : Value) : Obj := .cells #[v] 42 (0, 0)
theorem all_any (w : World) (a : Option Addr) (n c : Nat) :
    Calls Tryd.prog 38 #[.slice a n c] w fun x w' => ∃ BB, x = .returned (.func (.func 64) #[] #[.pointer (some ⟨BB, 0, none⟩)]) ∧ w'.heap[BB]? = some (wbox (.slice a n c)) ∧ Kept (fun _ => False) w w' ∧ w.heap.size = BB := by
  go_enter Tryd.func38, Tryd.ntmps38
  go_wp2_with fail
  go_ret
  exact ⟨w.heap.size, rfl, heap_alloc _ _, (Kept.refl _ w).alloc _, rfl⟩
/-- The contract of the range, for words of a size. -/
def CAll (n : Nat) : Prop := ∀ (l : List Prt) (w : World) (BB : Nat) (v : Value) (F : Nat → Prop), szL l ≤ n → w.heap[BB]? = some (wbox v) → WAt w F v l → (∀ b, F b → b < w.heap.size) →
  IterE Tryd.prog 64 #[.pointer (some ⟨BB, 0, none⟩)] (AE F) (fun k => k = BB ∨ F k) (allL l) w
/-- Where the iterator stands between two parts. -/
structure AlR (W : World) (J : (Nat → Prop) → List (Nat × Prt) → World → Prop) (R X : Nat → Prop) (BY y : Nat) (l : List Prt) (k : Nat) (X1 : Nat → Prop) (Ds : List Nat) (V : World) : Prop where
  j : J X1 (allL (l.take k)) V
  x : ∀ b, X b → X1 b
  lt : ∀ b, X1 b → b < V.heap.size
  by' : X1 BY
  box : V.heap[BY]? = some (.cells #[.func (.yield y) #[] #[]] 108 (0, 0))
  k : Keeps R W V
  nd : Ds.Nodup
  ds : ∀ d ∈ Ds, X1 d ∧ V.heap[d]? = some (.deferred (some []))
def mk (Ds : List Nat) : List Deferred := Ds.map fun r => { target := .collected r, args := #[] }
theorem wp_nm2 {P : Program} {c : Code} {Q : Exit → Act → World → Prop} {a : Act} {w : World} (h : ∀ b, Hid (b = a) → c.wp P Q b w) : c.wp P Q a w := h a (Lw.hid rfl)
set_option maxHeartbeats 16000000 in
theorem allw_iter (n : Nat) (hn9n : n ≤ 1000000000) (HC : Hid (CAll n)) (l : List Prt) (w : World) (BB : Nat) (v : Value) (F : Nat → Prop) (hsz : szL l ≤ n + 1) (hbb : w.heap[BB]? = some (wbox v)) (hv : WAt w F v l) (hF : ∀ b, F b → b < w.heap.size) :
    IterE Tryd.prog 64 #[.pointer (some ⟨BB, 0, none⟩)] (AE F) (fun k => k = BB ∨ F k) (allL l) w := by
  intro y J Jx X W hW hX hJ hJx hY h0
  obtain ⟨R, hR⟩ : ∃ R : Nat → Prop, R = fun k => k = BB ∨ F k := ⟨_, rfl⟩
  have HR := Lw.hid hR
  have hRF : ∀ b, F b → R b := fun b hb => by rw [hR]; exact .inr hb
  rw [← hR] at hW hY
  have hbW : W.heap[BB]? = some (wbox v) := hW.heap hbb (by rw [hR]; exact .inl rfl)
  have hvW : WAt W F v l := hv.keeps hW hRF
  obtain ⟨a, N, c, rfl⟩ := hvW.slice
  have hN := hvW.elem.1
  have hn9 := hvW.max
  have hRW : ∀ b, R b → b < W.heap.size := fun b hb => by
    rw [hR] at hb
    rcases hb with rfl | hb
    · exact heap_lt hbW
    · exact Nat.lt_of_lt_of_le (hF b hb) hW.1
  have HY := Lw.hid hY; have HJ := Lw.hid hJ; have HJX := Lw.hid hJx; have H0 := Lw.hid h0; have HX := Lw.hid hX; have HV := Lw.hid hvW; have HN := Lw.hid hN; have HSZ := Lw.hid hsz; have HRF := Lw.hid hRF; have HRW := Lw.hid hRW
  have HBW := Lw.hid hbW
  have hBY := heap_alloc W (.cells #[.func (.yield y) #[] #[]] 108)
  obtain ⟨W0, hW0⟩ : ∃ W0, W.alloc (.cells #[.func (.yield y) #[] #[]] 108) = W0 := ⟨_, rfl⟩
  obtain ⟨BY, hBYe⟩ : ∃ BY, W.heap.size = BY := ⟨_, rfl⟩
  have KW : Hid (Kept (fun _ => False) W W0) := Lw.hid (by rw [← hW0]; exact (Kept.refl _ W).alloc _)
  rw [hW0, hBYe] at hBY
  have HYB := Lw.hid hBY
  have HBY := Lw.hid hBYe
  have HW0 := Lw.hid hW0
  have cb : (W.alloc (.cells #[.func (.yield y) #[] #[]] 108)).cell? ⟨BB, 0, none⟩ = some (.slice a N c) := ((Kept.refl (fun _ => False) W).alloc _).cell (heap_cell hbW 0) (fun h => h)
  have HSTART : Hid (AlR W J R X BY y l 0 (fun b => X b ∨ b = BY) [] W0) := Lw.hid
    ⟨by
      show J _ (allL []) W0
      rw [allL_nil]
      exact HJ.out _ _ _ _ _ H0.out (KW.out.mono (fun _ _ h => h.elim)) (fun b hb => hb.imp id (fun e => by have h1 := heap_lt HYB.out; have h2 := HBY.out; omega)),
     fun b hb => .inl hb, fun b hb => hb.elim (fun h => Nat.lt_of_lt_of_le (HX.out b h) KW.out.size) (fun e => by rw [e]; exact heap_lt HYB.out), .inr rfl, HYB.out, KW.out.keeps (fun _ _ _ h => h), List.nodup_nil, fun d hd => by cases hd⟩
  clear hY hJ hJx h0 hW hX hR hv hvW hbb hbW hBY hW0 hBYe hF hsz hRF hRW hN
  refine calls_of_wp_marks Tryd.func64 rfl ?_
  simp only [Tryd.ntmps64, List.size_toArray, List.length_cons, List.length_nil, Nat.reduceAdd, Nat.reduceSub, Array.replicate_succ, Array.replicate_zero, List.push_toArray, List.append_toArray, List.nil_append, List.cons_append]
  go_wp2_with fail
  rw [HW0.out, HBY.out]
  refine wp_loop_ghost_k (fun gk a' V => ∃ (k : Nat) (X1 : Nat → Prop) (Ds : List Nat) (u : Nat → Value), gk = N - k ∧ k ≤ N ∧ a' = { tmps := #[.func (.yield y) #[] #[], .pointer (some ⟨BB, 0, none⟩), .pointer (some ⟨BY, 0, none⟩), u 3, u 4, u 5, u 6, .slice a N c, .int .i64 (N : Int), .int .i64 (k : Int), u 10, u 11, u 12, u 13, u 14, u 15, u 16, u 17, u 18, u 19, u 20, u 21, u 22, u 23, u 24, u 25, u 26, u 27, u 28], defers := mk Ds } ∧ AlR W J R X BY y l k X1 Ds V) N ⟨0, _, [], fun _ => undef, rfl, Nat.zero_le _, rfl, HSTART.out⟩ ?_
  rintro gk a' V ⟨k, X1, Ds, u, rfl, hk, rfl, hal⟩ Jg Kg hJg hKg
  have HJG := Lw.hid hJg; have HKG := Lw.hid hKg
  clear hJg hKg HSTART cb
  have HAL := Lw.hid hal
  have hVw := HV.out.keeps hal.k HRF.out
  by_cases hlt : k < N
  · obtain ⟨p, hp⟩ : ∃ p, l[k]? = some p := ⟨_, List.getElem?_eq_getElem (by rw [← HN.out]; exact hlt)⟩
    obtain ⟨b1, o1, oa, on, oc, e1, p0, p1, p2, p3, hao⟩ := hVw.elem.2 k p hp
    subst e1
    have hbl : b1 < V.heap.size := World.block_lt_of_cell? V _ p0
    have cY := heap_cell hal.box 0
    have hBYl : BY < V.heap.size := heap_lt hal.box
    have HP := Lw.hid hp; have HAO := Lw.hid hao
    -- the part's own block
    obtain ⟨V1, hV1⟩ : ∃ V1, V.alloc (.cells #[.int .i64 p.kind, .string (BA p.text), .slice oa on oc, .bool p.quoted] 46) = V1 := ⟨_, rfl⟩
    have K1 : Hid (Kept (fun _ => False) V V1) := Lw.hid (by rw [← hV1]; exact (Kept.refl _ V).alloc _)
    have HPA : Hid (PAt V1 V.heap.size p.kind p.text (.slice oa on oc) p.quoted) := Lw.hid (by rw [← hV1]; exact heap_alloc V _)
    have hs1 : V1.heap.size = V.heap.size + 1 := by rw [← hV1, World.size_alloc]
    have HV1 := Lw.hid hV1
    have cY1 := K1.out.cell cY (fun h => h)
    obtain ⟨⟨q0, q1, q2, q3⟩, -⟩ := HPA.out.cells
    -- the yield of the part itself
    obtain ⟨X2, hX2⟩ : ∃ X2 : Nat → Prop, X2 = fun b => X1 b ∨ b = V.heap.size := ⟨_, rfl⟩
    have HX2 := Lw.hid hX2
    have hj2 : J X2 (allL (l.take k)) V1 := HJ.out _ _ _ _ _ hal.j (K1.out.mono (fun _ _ h => h.elim)) (fun b hb => by rw [hX2] at hb; exact hb.imp id (fun e => by omega))
    have hx2 : ∀ b, X2 b → b < V1.heap.size := fun b hb => by
      rw [hX2] at hb
      rcases hb with h | h
      · have := hal.lt b h; omega
      · omega
    have hpre : allL (l.take k) ++ [(0, p)] <+: allL l := by
      refine List.IsPrefix.trans ?_ (allL_pre l (k + 1))
      rw [allL_take hp, allP_of]
      exact ⟨(allL p.orw).map upD, by simp⟩
    obtain ⟨fn, tmps, assign, body, hy, hRR⟩ := HY.out X2 X2 _ (0, p) V1 hj2 (fun _ h => h) hx2 hpre #[.int .i64 0, .agg #[.int .i64 p.kind, .string (BA p.text), .slice oa on oc, .bool p.quoted]] ⟨oa, on, oc, rfl, hao.kept K1.out (fun _ _ h => h)⟩
    clear hp hao hal hV1 hX2 hj2
    refine (wpIn_wide (n := 0)).1 ?_
    gi_wp2_with fail
    rw [HV1.out]
    rw [hy]
    gi_wp2_with fail
    refine ⟨rfl, (roundAny hRR).mono ?_⟩
    have hkv : k < l.length := by rw [← HN.out]; exact hlt
    have HAL1 := Lw.hid (HAL.out.lt)
    rintro e W3 (⟨rfl, hj3, hk3⟩ | ⟨rfl, hx3, hk3⟩)
    · have hX2V : X2 V.heap.size := by rw [HX2.out]; exact .inr rfl
      have hX12 : ∀ b, X1 b → X2 b := fun b hb => by rw [HX2.out]; exact .inl hb
      have HPA3 : Hid (PAt W3 V.heap.size p.kind p.text (.slice oa on oc) p.quoted) := Lw.hid (hk3.heap HPA.out (.inr hX2V))
      have HBX3 : Hid (W3.heap[BY]? = some (.cells #[.func (.yield y) #[] #[]] 108 (0, 0))) := Lw.hid (hk3.heap (K1.out.heap HAL.out.box (fun h => h)) (.inr (hX12 _ HAL.out.by')))
      have HKW3 : Hid (Keeps R W W3) := Lw.hid ((HAL.out.k.trans (K1.out.keeps (fun _ _ _ h => h))).trans (hk3.mono (fun b h => .inl h)))
      have HDS3 : Hid (∀ d ∈ Ds, W3.heap[d]? = some (.deferred (some []))) := Lw.hid (fun d hd => hk3.heap (K1.out.heap (HAL.out.ds d hd).2 (fun h => h)) (.inr (hX12 _ (HAL.out.ds d hd).1)))
      have HJ3 := Lw.hid hj3
      have HV3 := Lw.hid (HV.out.keeps HKW3.out HRF.out)
      have hAO3 : WAt W3 F (.slice oa on oc) p.orw := by
        obtain ⟨b2, o2, oa2, on2, oc2, e2, r0, r1, r2, r3, hao2⟩ := HV3.out.elem.2 k p HP.out
        have h2 : V.cell? ⟨b1, o1 + k * 4 + 2, none⟩ = some (.slice oa on oc) := p2
        have e3 : (⟨b1, o1, none⟩ : Addr) = ⟨b2, o2, none⟩ := Option.some.inj e2
        cases e3
        have hRb : R b1 := HRF.out b1 (by
          obtain ⟨ps, _, hrd, hb, _⟩ := HV.out.open
          exact (hb b1 rfl).1)
        have h4 := (K1.out.keeps (R := R) (fun _ _ _ h => h)).trans (hk3.mono (fun b h => .inl h))
        have h5 := h4.cell h2 hRb
        rw [h5] at r2
        cases r2
        exact hao2
      have HAO3 := Lw.hid hAO3
      have hs3 : V1.heap.size ≤ W3.heap.size := hk3.1
      obtain ⟨⟨z0, z1, z2, z3⟩, -⟩ := HPA3.out.cells
      clear hj3 hk3 hAO3 p0 p1 p2 p3 q0 q1 q2 q3 cY cY1 hy hVw
      gi_wp2_with fail
      refine ⟨trivial, rfl, (callsIn_wide.2 (all_any W3 oa on oc)).mono ?_⟩
      rintro e W4 ⟨BB2, rfl, hbb2, k4, hsz4⟩
      have hs4 := k4.size
      have hb2l : BB2 < W4.heap.size := heap_lt hbb2
      have HBB2 := Lw.hid hbb2; have K4 := Lw.hid k4
      obtain ⟨lo, hlo⟩ : ∃ lo, W4.heap.size = lo := ⟨_, rfl⟩
      have HLO := Lw.hid hlo
      obtain ⟨X3, hX3⟩ : ∃ X3 : Nat → Prop, X3 = fun b => X2 b ∨ (W3.heap.size ≤ b ∧ b < lo) := ⟨_, rfl⟩
      have HX3 := Lw.hid hX3
      obtain ⟨Z, hZ⟩ : ∃ Z : (Nat → Prop) → Nat → Prop, Z = fun X' b => X3 b ∨ X' b := ⟨_, rfl⟩
      have HZ := Lw.hid hZ
      have HX3L : Hid (∀ b, X3 b → b < lo) := Lw.hid (fun b hb => by
        rw [hX3] at hb
        rcases hb with h | h
        · have := hx2 b h; omega
        · omega)
      have HX23 : Hid (∀ b, X2 b → X3 b) := Lw.hid (fun b hb => by rw [hX3]; exact .inl hb)
      have HRL : Hid (∀ b, R b → b < lo) := Lw.hid (fun b hb => by have h1 := HRW.out b hb; have h2 := HKW3.out.1; omega)
      have HFL : Hid (∀ b, F b → b < lo) := Lw.hid (fun b hb => HRL.out b (HRF.out b hb))
      have HPO : Hid (szL p.orw ≤ n) := Lw.hid (by
        have h1 : szP p < szL l := szL_mem (List.mem_of_getElem? HP.out)
        have h2 := sizeOf_orw p
        have h3 := HSZ.out
        omega)
      have HJ4 : Hid (J X3 (allL (l.take k) ++ [(0, p)]) W4) := Lw.hid (HJ.out _ _ _ _ _ HJ3.out (k4.mono (fun _ _ h => h.elim)) (fun b hb => by rw [hX3] at hb; exact hb.imp id (fun h => by omega)))
      have HSEQ := Lw.hid (HC.out p.orw W4 BB2 (.slice oa on oc) F HPO.out hbb2 (HAO3.out.kept k4 (fun _ _ h => h)) (fun b hb => by rw [hlo]; exact HFL.out b hb))
      have HKW4 := Lw.hid (HKW3.out.trans (k4.keeps (R := R) (fun _ _ _ h => h)))
      have HBX4 := Lw.hid (k4.heap HBX3.out (fun h => h))
      have HDS4 : Hid (∀ d ∈ Ds, W4.heap[d]? = some (.deferred (some []))) := Lw.hid (fun d hd => k4.heap (HDS3.out d hd) (fun h => h))
      have HX3BY : Hid (X3 BY) := Lw.hid (HX23.out _ (hX12 _ HAL.out.by'))
      have HX3D : Hid (∀ d ∈ Ds, X3 d) := Lw.hid (fun d hd => HX23.out _ (hX12 _ (HAL.out.ds d hd).1))
      have HPRE : Hid (∀ (pre : List (Nat × Prt)) (x : Nat × Prt), pre ++ [x] <+: allL p.orw → (allL (l.take k) ++ [(0, p)] ++ pre.map upD) ++ [upD x] <+: allL l) := Lw.hid (by
        intro pre x hpx
        obtain ⟨rest, hr⟩ := hpx
        refine List.IsPrefix.trans ?_ (allL_pre l (k + 1))
        rw [allL_take HP.out, allP_of, ← hr]
        exact ⟨rest.map upD, by simp⟩)
      have HALL : Hid (allL (l.take k) ++ [(0, p)] ++ (allL p.orw).map upD = allL (l.take (k + 1))) := Lw.hid (by rw [allL_take HP.out, allP_of]; simp)
      have ZM : Hid (∀ (Xa Xb : Nat → Prop) (A A' : World), (∀ b, Xb b → Xa b ∨ (A.heap.size ≤ b ∧ b < A'.heap.size)) → ∀ b, Z Xb b → Z Xa b ∨ (A.heap.size ≤ b ∧ b < A'.heap.size)) := Lw.hid (fun Xa Xb A A' hx b hb => by
        rw [hZ] at hb ⊢
        rcases hb with h | h
        · exact .inl (.inl h)
        · exact (hx b h).imp .inr id)
      have ZLT : Hid (∀ (X' : Nat → Prop) (V' : World), lo ≤ V'.heap.size → (∀ b, X' b → b < V'.heap.size) → ∀ b, Z X' b → b < V'.heap.size) := Lw.hid (fun X' V' h1 h2 b hb => by
        rw [hZ] at hb
        rcases hb with h | h
        · have := HX3L.out b h; omega
        · exact h2 b h)
      clear hbb2 k4 hlo hX3 hZ z0 z1 z2 z3 hX12 hX2V hx2 hpre
      gi_wp2_with fail
      refine (wpIn_wide (n := 0)).2 ?_
      refine wp_nm2 (fun ac hac => ?_)
      refine wp_rangeE (gf := 64) (lb := #[.pointer (some ⟨BB2, 0, none⟩)]) (by rw [hac.out]; rfl) (Go.Proofs.enters_of Tryd.func64 (by kernel_rfl) rfl)
        HSEQ.out (AE.mono F) (fun b hb => by rw [HLO.out]; rcases hb with rfl | hb; exact (by have := HLO.out; omega); exact HFL.out b hb) (fun _ _ _ x A W h => by obtain ⟨_, _, _, rfl, _⟩ := h; rfl)
        (fun X' pre V' => J (Z X') (allL (l.take k) ++ [(0, p)] ++ pre.map upD) V' ∧ V'.heap[BY]? = some (.cells #[.func (.yield y) #[] #[]] 108 (0, 0)) ∧ (∀ b, X' b → lo ≤ b) ∧ Keeps R W V' ∧ lo ≤ V'.heap.size ∧ ∀ d ∈ Ds, V'.heap[d]? = some (.deferred (some [])))
        (fun c X' pre V' => c = .ret ∧ Jx (Z X') (allL (l.take k) ++ [(0, p)] ++ pre.map upD) V' ∧ (∀ b, X' b → lo ≤ b) ∧ lo ≤ V'.heap.size ∧ ∀ d ∈ Ds, V'.heap[d]? = some (.deferred (some [])))
        ?_ ?_ ?_ (fun X' Xp q V' => ∃ (kq : Nat) (qa : Option Addr) (qn qc : Nat), PAt V' kq q.2.1.2.kind q.2.1.2.text (.slice qa qn qc) q.2.1.2.quoted ∧ ¬ X' kq ∧ WAt V' F (.slice qa qn qc) q.2.1.2.orw ∧ (∀ b, X' b → lo ≤ b) ∧ lo ≤ V'.heap.size ∧ q.2.2 = { tmps := (((ac.tmps.setIfInBounds 20 (.int .i64 (q.2.1.1 : Int))).setIfInBounds 21 (.agg #[.int .i64 q.2.1.2.kind, .string (BA q.2.1.2.text), .slice qa qn qc, .bool q.2.1.2.quoted])).setIfInBounds 5 (.int .i64 (q.2.1.1 : Int))).setIfInBounds 6 (.pointer (some ⟨kq, 0, none⟩)), defers := [] }) ?_ ?assign ?body ?done ?stop
      · rintro Xa Xb s A A' ⟨h1, h2, h3, h4, h5, h6⟩ hk hx
        refine ⟨HJ.out _ _ _ _ _ h1 (hk.mono (fun i _ h => by rw [HZ.out]; exact .inr h)) (ZM.out _ _ _ _ hx), hk.heap h2 (fun h => by have h7 := h3 _ h; have h8 := HX3L.out BY HX3BY.out; omega), fun b hb => ?_, h4.trans (hk.keeps (fun i hi hr hX => by have h7 := h3 i hX; have h8 := HRL.out i hr; omega)), Nat.le_trans h5 hk.size, fun d hd => hk.heap (h6 d hd) (fun h => by have h7 := h3 _ h; have h8 := HX3L.out d (HX3D.out d hd); omega)⟩
        rcases hx b hb with h | h
        · exact h3 b h
        · omega
      · rintro c Xa Xb s A A' ⟨h0, h1, h3, h5, h6⟩ hk hx
        refine ⟨h0, HJX.out _ _ _ _ _ h1 (hk.mono (fun i _ h => by rw [HZ.out]; exact .inr h)) (ZM.out _ _ _ _ hx), fun b hb => ?_, Nat.le_trans h5 hk.size, fun d hd => hk.heap (h6 d hd) (fun h => by have h7 := h3 _ h; have h8 := HX3L.out d (HX3D.out d hd); omega)⟩
        rcases hx b hb with h | h
        · exact h3 b h
        · omega
      · refine ⟨?_, HBX4.out, fun _ h => h.elim, HKW4.out, by rw [HLO.out]; exact Nat.le_refl _, HDS4.out⟩
        rw [List.map_nil, List.append_nil]
        exact HJ.out _ _ _ _ _ HJ4.out (Kept.refl _ _) (fun b hb => by rw [HZ.out] at hb; exact hb.elim .inl (fun h => h.elim))
      · rintro Xa Xb Xp Xp' q A A' ⟨kq, qa, qn, qc, g1, g2, g3, g4, g45, g5⟩ hk hx hp
        refine ⟨kq, qa, qn, qc, hk.heap g1 g2, fun h => ?_, g3.kept hk (fun b hb hX => by have h7 := g4 b hX; have h8 := HFL.out b hb; omega), fun b hb => ?_, Nat.le_trans g45 hk.size, g5⟩
        · rcases hx kq h with h | h
          · exact g2 h
          · have := heap_lt g1; omega
        · rcases hx b hb with h | h
          · exact g4 b h
          · omega
      case assign =>
        rintro q X' Xp pre x A V' K hi hXX ⟨qa, qn, qc, rfl, hwq⟩ hXb hpx hsz hK
        have hac' := hac.out
        rw [hac'] at hK ⊢
        have HI := Lw.hid hi; have HXB := Lw.hid hXb; have HWQ := Lw.hid hwq
        have KQ : Hid (Kept (fun _ => False) V' (V'.alloc (.cells #[.int .i64 x.2.kind, .string (BA x.2.text), .slice qa qn qc, .bool x.2.quoted] 46))) := Lw.hid ((Kept.refl _ V').alloc _)
        clear hi hXb hwq
        gi_wp2
        have hi := HI.out
        refine hK _ _ (KQ.out.keeps (fun _ _ _ h => h)) ⟨HJ.out _ _ _ _ _ hi.1 (KQ.out.mono (fun _ _ h => h.elim)) (fun _ h => .inl h), KQ.out.heap hi.2.1 (fun h => h), hi.2.2.1, hi.2.2.2.1.trans (KQ.out.keeps (fun _ _ _ h => h)), Nat.le_trans hi.2.2.2.2.1 KQ.out.size, fun d hd => KQ.out.heap (hi.2.2.2.2.2 d hd) (fun h => h)⟩
          ⟨V'.heap.size, qa, qn, qc, heap_alloc V' _, fun h => by have := (HXB.out _ (hXX _ h)).2; omega, HWQ.out.kept KQ.out (fun _ _ h => h), fun b hb => hi.2.2.1 b (hXX b hb), Nat.le_trans hi.2.2.2.2.1 KQ.out.size, rfl⟩
      case body =>
        rintro q X' Xp pre x a' V' ⟨h1, h2, h3, h4, h5, h6⟩ hXX ⟨kq, qa, qn, qc, g1, g2, g3, g4, g45, hax⟩ hXb hpx hsz
        dsimp only at hax g1 g3
        subst hax
        rw [hac.out]
        simp only [List.setIfInBounds_toArray, List.set_cons_zero, List.set_cons_succ]
        have hxm : x ∈ allL p.orw := hpx.subset (by simp)
        have hd9 : x.1 < 1000000000 := by have h7 := allL_depth _ p.orw (Nat.le_refl _) x hxm; have h8 := HPO.out; omega
        have HH1 := Lw.hid h1; have HH2 := Lw.hid h2; have HH3 := Lw.hid h3; have HH4 := Lw.hid h4; have HH6 := Lw.hid h6; have HXB := Lw.hid hXb; have HXX := Lw.hid hXX
        obtain ⟨⟨r0, r1, r2, r3⟩, -⟩ := PAt.cells g1
        have cY := heap_cell h2 0
        obtain ⟨fn2, tmps2, assign2, body2, hy2, hRR2⟩ := HY.out (Z X') (Z Xp) _ (upD x) V' (HJ.out _ _ _ _ _ h1 (Kept.refl _ _) (fun b hb => .inl hb)) (fun b hb => by rw [HZ.out] at hb ⊢; exact hb.imp id (HXX.out b)) (ZLT.out Xp V' h5 (fun b hb => (HXB.out b hb).2)) (HPRE.out pre x hpx) #[.int .i64 ((x.1 : Int) + 1), .agg #[.int .i64 x.2.kind, .string (BA x.2.text), .slice qa qn qc, .bool x.2.quoted]] ⟨qa, qn, qc, by simp [upD], g3⟩
        clear h1 h2 h3 h4 h6 hXb hXX g1 g3 hxm
        gi_wp2_with fail
        refine ⟨rfl, RoundIn.mono (F := Fence.wide.inRound q) (roundAny hRR2) ?_⟩
        have kk : ∀ {W5 : World}, Keeps (fun b => R b ∨ Z X' b) V' W5 → Keeps (fun b => (b = BB2 ∨ F b) ∨ X' b) V' W5 := fun hk5 => hk5.mono (fun i hi => by
          rcases hi with (h | h) | h
          · refine .inr ?_
            rw [HZ.out, HX3.out]
            exact .inl (.inr (by have := HLO.out; omega))
          · exact .inl (HRF.out i h)
          · exact .inr (by rw [HZ.out]; exact .inr h))
        rintro e W5 (⟨rfl, hj5, hk5⟩ | ⟨rfl, hx5, hk5⟩)
        · gi_wp2
          refine ⟨kk hk5, ?_, hk5.heap HH2.out (.inr (by rw [HZ.out]; exact .inl HX3BY.out)), fun b hb => HH3.out b (HXX.out b hb), HH4.out.trans (hk5.mono (fun i h => .inl h)), Nat.le_trans h5 hk5.1, fun d hd => hk5.heap (HH6.out d hd) (.inr (by rw [HZ.out]; exact .inl (HX3D.out d hd)))⟩
          rw [List.map_append, ← List.append_assoc]
          exact hj5
        · gi_wp2
          refine ⟨kk hk5, rfl, ?_, fun b hb => HH3.out b (HXX.out b hb), Nat.le_trans h5 hk5.1, fun d hd => hk5.heap (HH6.out d hd) (.inr (by rw [HZ.out]; exact .inl (HX3D.out d hd)))⟩
          rw [List.map_append, ← List.append_assoc]
          exact hx5
      case done =>
        rintro X' D' V' hD' hXD hXb ⟨h1, h2, h3, h4, h5, h6⟩ hdf
        rw [HALL.out] at h1
        have HAL9 : Hid (AlR W J R X BY y l (k + 1) (Z X') (D' :: Ds) V') := Lw.hid ⟨h1, fun b hb => by rw [HZ.out]; exact .inl (HX23.out b (by rw [HX2.out]; exact .inl (HAL.out.x b hb))), ZLT.out X' V' h5 (fun b hb => (hXb b hb).2), by rw [HZ.out]; exact .inl HX3BY.out, h2, h4,
          List.nodup_cons.2 ⟨fun hd => by have h7 := HX3L.out D' (HX3D.out D' hd); have h8 := HLO.out; omega, HAL.out.nd⟩,
          fun d hd => by
            rcases List.mem_cons.1 hd with rfl | hd
            · exact ⟨by rw [HZ.out]; exact .inr hXD, hdf⟩
            · exact ⟨by rw [HZ.out]; exact .inl (HX3D.out d hd), h6 d hd⟩⟩
        rw [hac.out]
        clear h1 h2 h3 h4 h5 h6
        gi_wp2_with fail
        refine HKG.out _ _ (Handed.intro (N - (k + 1)) (by omega) (HJG.out _ _ _ ⟨k + 1, Z X', D' :: Ds, fun i => if i = 4 then .pointer (some ⟨V.heap.size, 0, none⟩) else if i = 10 then .bool true else if i = 11 then .pointer (some ⟨b1, o1 + k * 4, none⟩) else if i = 12 then .agg #[.int .i64 p.kind, .string (BA p.text), .slice oa on oc, .bool p.quoted] else if i = 13 then .func (.yield y) #[] #[] else if i = 14 then .agg #[.int .i64 p.kind, .string (BA p.text), .slice oa on oc, .bool p.quoted] else if i = 15 then .bool true else if i = 16 then .bool false else if i = 17 then .pointer (some ⟨V.heap.size, 2, none⟩) else if i = 18 then .slice oa on oc else if i = 19 then .func (.func 64) #[] #[.pointer (some ⟨BB2, 0, none⟩)] else if i = 28 then .int .i64 ((k : Int) + 1) else u i, rfl, hlt, rfl, HAL9.out⟩))
      case stop =>
        rintro X' c pre D' V' hD' hXD hXb hpre hne ⟨rfl, h2, h3, h5, h6⟩ hdf
        rw [hac.out]
        go_wp2
        have hnd : (D' :: Ds).Nodup := List.nodup_cons.2 ⟨fun hd => by have h7 := HX3L.out D' (HX3D.out D' hd); have h8 := HLO.out; omega, HAL.out.nd⟩
        refine leaves_marks (D' :: Ds) V' hnd (fun r hr => by
          rcases List.mem_cons.1 hr with rfl | hr
          · exact hdf
          · exact h6 r hr) (fun V9 hk9 => ?_)
        refine ⟨_, results_none rfl _ _ _, ⟨_, rfl⟩, .inr ⟨Z X', _, fun b hb => Nat.lt_of_lt_of_le (ZLT.out X' V' h5 (fun b hb => (hXb b hb).2) b hb) hk9.size, fun b hb => by rw [HZ.out]; exact .inl (HX23.out b (by rw [HX2.out]; exact .inl (HAL.out.x b hb))), ?_, by simp, HJX.out _ _ _ _ _ h2 (hk9.mono (fun i _ h => ?_)) (fun i h => .inl h)⟩⟩
        · refine List.IsPrefix.trans ?_ (allL_pre l (k + 1))
          rw [← HALL.out]
          obtain ⟨rest, hr⟩ := hpre
          exact ⟨rest.map upD, by rw [← hr]; simp⟩
        · rw [HZ.out]
          rcases List.mem_cons.1 h with rfl | h
          · exact .inr hXD
          · exact .inl (HX3D.out i h)
    · have hX12 : ∀ b, X1 b → X2 b := fun b hb => by rw [HX2.out]; exact .inl hb
      have hds : ∀ d ∈ Ds, W3.heap[d]? = some (.deferred (some [])) := fun d hd => hk3.heap (K1.out.heap (HAL.out.ds d hd).2 (fun h => h)) (.inr (hX12 _ (HAL.out.ds d hd).1))
      have HDS := Lw.hid hds
      clear hds p0 p1 p2 p3 q0 q1 q2 q3 cY cY1 hy hVw
      gi_wp2_with fail
      refine leaves_marks Ds W3 HAL.out.nd HDS.out (fun V9 hk9 => ?_)
      exact ⟨_, results_none rfl _ _ _, ⟨_, rfl⟩, .inr ⟨X2, _, fun b hb => Nat.lt_of_lt_of_le (Nat.lt_of_lt_of_le (hx2 b hb) hk3.1) hk9.size, fun b hb => hX12 b (HAL.out.x b hb), hpre, by simp, HJX.out _ _ _ _ _ hx3 (hk9.mono (fun i _ h => hX12 i (HAL.out.ds i h).1)) (fun i h => .inl h)⟩⟩
  · obtain rfl : k = N := by omega
    have hke : l.take k = l := List.take_of_length_le (by rw [← HN.out]; exact Nat.le_refl _)
    have hjl := hal.j
    rw [hke] at hjl
    have HJL := Lw.hid hjl
    clear hal hjl hVw hke
    go_wp2_with fail
    refine leaves_marks Ds V HAL.out.nd (fun d hd => (HAL.out.ds d hd).2) (fun V9 hk9 => ?_)
    exact ⟨_, results_none rfl _ _ _, ⟨_, rfl⟩, .inl ⟨X1, fun b hb => Nat.lt_of_lt_of_le (HAL.out.lt b hb) hk9.size, HAL.out.x, HJ.out _ _ _ _ _ HJL.out (hk9.mono (fun i _ h => (HAL.out.ds i h).1)) (fun i h => .inl h)⟩⟩
/-- All's range. -/
theorem all_iter (n : Nat) : n ≤ 1000000000 → CAll n := by
  induction n using Nat.strongRecOn with
  | ind n ih =>
    intro hn l w BB v F hsz hbb hv hF
    have hpos := szL_pos l
    exact allw_iter (n - 1) (by omega) (Lw.hid (ih (n - 1) (by omega) (by omega))) l w BB v F (by omega) hbb hv hF
end Go.Proofs.YtifcgeanippepaaDoor
