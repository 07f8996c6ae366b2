/- Of the proof of TopBooks: JF, JG, StC. -/
import Derived.Test.YtgegjjnfcnalfaaGreatDoorG18
import Derived.Test.YtgegjjnfcnalfaaGreatDoorG14
import Derived.Test.YtgegjjnfcnalfaaGreatDoorG15
namespace Go.Proofs.YtgegjjnfcnalfaaGreatDoor
open Go Go.RowKit Go.Lw
set_option maxRecDepth 100000
set_option linter.unusedVariables false
set_option linter.unusedSimpArgs false
attribute [local go_sem] BA_toList
theorem JAt.cf {w : World} {F : Nat → Prop} {j BL sp : Nat} {va : Value} {J : Jr} (h : JAt w F j BL va sp J) {cs : List Cmd} {c : Cmd} (hc : J.cs = cs ++ [c]) {b n cap : Nat} (hn : cs.length = n) (hv : va = .slice (some ⟨b, 0, none⟩) (n + 1) cap) (i : Nat) (hi : i < 8) :
    w.cell? ⟨b, n * 8 + i, none⟩ = c.cells[i]? ∧ w.frozen? ⟨b, n * 8 + i, none⟩ = false := by
  subst hn
  obtain ⟨b', cap', hv', _, _, h3⟩ := h.cell hc
  rw [hv] at hv'; cases hv'
  refine ⟨h3 i hi, ?_⟩
  have hr := h.row
  rw [show J.cs.length = cs.length + 1 by rw [hc]; simp, hv] at hr
  exact hr.frozenAt _
theorem JAt.setn {w : World} {F : Nat → Prop} {j BL sp : Nat} {va : Value} {J : Jr} (h : JAt w F j BL va sp J) {cs : List Cmd} {x : Cmd} (hc : J.cs = cs ++ [x]) {b n cap : Nat} (hn : cs.length = n) (hv : va = .slice (some ⟨b, 0, none⟩) (n + 1) cap) (i : Nat) (hi : i < 8) (u : Value) (y : Cmd) (hu : x.cells.set i u = y.cells) :
    JAt (w.setCell ⟨b, n * 8 + i, none⟩ u) F j BL va sp { J with cs := cs ++ [y] } ∧ Kept F w (w.setCell ⟨b, n * 8 + i, none⟩ u) := by
  subst hn
  exact h.setc hc hv i hi u y hu
theorem JAt.sets {w : World} {F G : Nat → Prop} {j BL sp q : Nat} {va : Value} {J : Jr} (h : JAt w F j BL va sp J) {st : Int} {o : Option (List UInt8)} (hs : StAt w G q st o) (hG : ∀ k, G k → k ≠ j ∧ ¬ blk va k) :
    JAt (w.setCell ⟨j, 2, none⟩ (.pointer (some ⟨q, 0, none⟩))) (fun k => F k ∨ G k) j BL va q { J with st := st, v := o } ∧ Kept F w (w.setCell ⟨j, 2, none⟩ (.pointer (some ⟨q, 0, none⟩))) := by
  have k1 : Kept (fun k => k = j) w (w.setCell ⟨j, 2, none⟩ (.pointer (some ⟨q, 0, none⟩))) := (Kept.refl (fun k => k = j) w).set j 2 (fun _ => rfl) _
  have hb := heap_set h.box 2 (.pointer (some ⟨q, 0, none⟩))
  refine ⟨⟨hb, own_kept k1 h.row (fun k hk e => (h.fr k hk).2 e), ?_, .inl h.fj, fun k hk => ⟨.inl (h.fr k hk).1, (h.fr k hk).2⟩⟩, k1.mono (fun i _ e => by rw [e]; exact h.fj)⟩
  exact (hs.kept k1 (fun k hk e => (hG k hk).1 e)).mono (fun k _ hk => ⟨.inr hk, hG k hk⟩)
set_option maxHeartbeats 8000000 in
theorem cut_any (w : World) (F : Nat → Prop) (j BL sp : Nat) (va : Value) (J : Jr) (h : JAt w F j BL va sp J) (cs : List Cmd) (c : Cmd) (hc : J.cs = cs ++ [c]) (ho : c.over = false) (id : Int) (t : List UInt8) (ch off num : Int) (sq : Option Addr) (a b d : Int) :
    Calls Tryz.prog 73 #[.pointer (some ⟨j, 0, none⟩), rv 5 id t ch off num sq a b d] w fun e w' => e = .returned (.tuple #[]) ∧ JPost w w' F F j BL { J with cs := cs ++ [{ c with status := 125, over := true, cut := true }] } := by
  unfold rv
  have H := Lw.hid h
  obtain ⟨b0, cap, rfl, hq1, hq2, hcl⟩ := h.cell hc
  obtain ⟨n, hcn⟩ : ∃ n, cs.length = n := ⟨_, rfl⟩
  have HC := Lw.hid hc; have HO := Lw.hid ho; have HCN := Lw.hid hcn
  unfold maxLen at hq2
  rw [hcn] at H hq1
  clear h hc ho hcl hcn
  go_enter Tryz.func73, Tryz.ntmps73
  go_wp2_with fail
  obtain ⟨w1, hw1⟩ : ∃ w1, w.alloc (.cells #[.int .u8 5, .int .u32 id, .string (BA t), .int .i64 ch, .int .i64 off, .int .i64 num, .pointer sq, .int .u32 a, .int .u32 b, .int .u32 d] 69) = w1 := ⟨_, rfl⟩
  have K1 : Hid (Kept (fun _ => False) w w1) := Lw.hid (by rw [← hw1]; exact (Kept.refl _ w).alloc _)
  have H1 := Lw.hid (H.out.kept K1.out (fun _ _ h => h))
  rw [hw1]
  clear hw1
  refine (jopen_yes w1 F j BL sp _ J H1.out cs c HC.out HO.out b0 cap (by rw [HCN.out])).mono ?_
  rw [HCN.out]
  rintro e w2 ⟨rfl, rfl⟩
  obtain ⟨x5, y5⟩ := H1.out.cf HC.out HCN.out rfl 5 (by decide)
  obtain ⟨q1, p1⟩ := H1.out.setn HC.out HCN.out rfl 5 (by decide) (.int .i64 125) { c with status := 125 } rfl
  obtain ⟨x6, y6⟩ := q1.cf rfl HCN.out rfl 6 (by decide)
  obtain ⟨q2, p2⟩ := q1.setn rfl HCN.out rfl 6 (by decide) (.bool true) { c with status := 125, over := true } rfl
  obtain ⟨x7, y7⟩ := q2.cf rfl HCN.out rfl 7 (by decide)
  obtain ⟨q3, p3⟩ := q2.setn rfl HCN.out rfl 7 (by decide) (.bool true) { c with status := 125, over := true, cut := true } rfl
  simp only [Cmd.cells, List.getElem?_cons_zero, List.getElem?_cons_succ] at x5 x6 x7
  have Q := Lw.hid q3; have P := Lw.hid ((p1.trans p2 (fun _ _ h => h)).trans p3 (fun _ _ h => h))
  clear q1 q2 q3 p1 p2 p3
  go_wp2_with fail
  refine bodyPost_end (results_none rfl _ _ _) rfl ?_
  exact ⟨rfl, F, _, _, Q.out, fun k hk => .inl hk, (K1.out.mono (fun _ _ h => h.elim)).trans P.out (fun _ _ h => h)⟩
set_option maxHeartbeats 8000000 in
theorem end_any (w : World) (F G : Nat → Prop) (j BL sp q : Nat) (va : Value) (J : Jr) (h : JAt w F j BL va sp J) (st : Int) (o : Option (List UInt8)) (hs : StAt w G q st o) (hG : ∀ k, G k → k ≠ j ∧ ¬ blk va k) (cs : List Cmd) (c : Cmd) (hc : J.cs = cs ++ [c]) (ho : c.over = false) (id : Int) (t : List UInt8) (ch off num : Int) (a b d : Int) :
    Calls Tryz.prog 72 #[.pointer (some ⟨j, 0, none⟩), rv 4 id t ch off num (some ⟨q, 0, none⟩) a b d] w fun e w' => e = .returned (.tuple #[]) ∧ JPost w w' (fun k => F k ∨ G k) (fun k => F k ∨ G k) j BL { J with cs := cs ++ [{ c with status := num, over := true }], st := st, v := o } := by
  unfold rv
  obtain ⟨w1, hw1⟩ : ∃ w1, w.alloc (.cells #[.int .u8 4, .int .u32 id, .string (BA t), .int .i64 ch, .int .i64 off, .int .i64 num, .pointer (some ⟨q, 0, none⟩), .int .u32 a, .int .u32 b, .int .u32 d] 69) = w1 := ⟨_, rfl⟩
  obtain ⟨r, hr⟩ : ∃ r, w.heap.size = r := ⟨_, rfl⟩
  have k1 : Kept (fun _ => False) w w1 := by rw [← hw1]; exact (Kept.refl _ w).alloc _
  have hrb : w1.heap[r]? = some (.cells #[.int .u8 4, .int .u32 id, .string (BA t), .int .i64 ch, .int .i64 off, .int .i64 num, .pointer (some ⟨q, 0, none⟩), .int .u32 a, .int .u32 b, .int .u32 d] 69 (0, 0)) := by rw [← hw1, ← hr]; exact heap_alloc w _
  have h1 := h.kept k1 (fun _ _ h => h)
  have hs1 := hs.kept k1 (fun _ _ h => h)
  have hne : j ≠ r := by rw [← hr]; exact Nat.ne_of_lt (heap_lt h.box)
  obtain ⟨b0, cap, rfl, hq1, hq2, hcl⟩ := h.cell hc
  obtain ⟨n, hcn⟩ : ∃ n, cs.length = n := ⟨_, rfl⟩
  rw [hcn] at h1 hq1 hG
  have j2 := heap_cell h1.box 2; have f2 := heap_free h1.box 2
  obtain ⟨h2, k2⟩ := h1.sets hs1 hG
  obtain ⟨W2, hW2⟩ : ∃ W2, w1.setCell ⟨j, 2, none⟩ (.pointer (some ⟨q, 0, none⟩)) = W2 := ⟨_, rfl⟩
  rw [hW2] at h2 k2
  have r0 := heap_cell hrb 6
  have kj : Kept (fun k => k = j) w1 W2 := by rw [← hW2]; exact (Kept.refl (fun k => k = j) w1).set j 2 (fun _ => rfl) _
  have r5 := heap_cell (kj.heap hrb (fun e => hne e.symm)) 5
  have HC := Lw.hid hc; have HO := Lw.hid ho; have HCN := Lw.hid hcn
  have H2 := Lw.hid h2; have K2 := Lw.hid k2; have K1 := Lw.hid k1; have HW1 := Lw.hid hw1; have HW2 := Lw.hid hW2; have HR := Lw.hid hr
  unfold maxLen at hq2
  rw [← hw1] at j2 f2 r0
  rw [← hr] at r0 r5
  clear h h1 hs hs1 h2 k1 k2 hc ho hcl hcn hrb hw1 hr hW2 kj hne
  go_enter Tryz.func72, Tryz.ntmps72
  go_wp2_with fail
  rw [HW1.out, HW2.out]
  refine (jopen_yes W2 _ j BL q _ _ H2.out cs c HC.out HO.out b0 cap (by rw [HCN.out])).mono ?_
  rw [HCN.out]
  rintro e w2 ⟨rfl, rfl⟩
  obtain ⟨x5, y5⟩ := H2.out.cf HC.out HCN.out rfl 5 (by decide)
  obtain ⟨q1, p1⟩ := H2.out.setn HC.out HCN.out rfl 5 (by decide) (.int .i64 num) { c with status := num } rfl
  obtain ⟨x6, y6⟩ := q1.cf rfl HCN.out rfl 6 (by decide)
  obtain ⟨q2, p2⟩ := q1.setn rfl HCN.out rfl 6 (by decide) (.bool true) { c with status := num, over := true } rfl
  simp only [Cmd.cells, List.getElem?_cons_zero, List.getElem?_cons_succ] at x5 x6
  have Q := Lw.hid q2; have P := Lw.hid (p1.trans p2 (fun _ _ h => h))
  clear q1 q2 p1 p2
  go_wp2_with fail
  refine bodyPost_end (results_none rfl _ _ _) rfl ?_
  exact ⟨rfl, _, _, _, Q.out, fun k hk => .inl hk, ((K1.out.mono (fun _ _ h => h.elim)).trans K2.out (fun _ _ h => .inl h)).trans P.out (fun _ _ h => h)⟩
def bR (va : Value) (γ : Bool) (w : World) (γ' : Bool) (w' : World) : Prop := Kept (blk va) w w' ∧ (γ = true → γ' = true ∧ Kept (fun _ => False) w w')
structure BI (w1 : World) (va : Value) (D : Nat → Bool) (γ : Bool) (w : World) : Prop where
  kept : Kept (blk va) w1 w
  no : D 11 = false → γ = false ∧ Kept (fun _ => False) w1 w
  yes : D 11 = true → γ = true
theorem BI.start {w1 w : World} {va : Value} (k : Kept (fun _ => False) w1 w) : BI w1 va (fun _ => false) false w := ⟨k.mono (fun _ _ h => h.elim), fun _ => ⟨rfl, k⟩, fun h => by cases h⟩
theorem BI.pure {w1 w w' : World} {va : Value} {D : Nat → Bool} {γ : Bool} (h : BI w1 va D γ w) (k : Kept (fun _ => False) w w') {j : Nat} (hj : (11 : Nat) ≠ j) : BI w1 va (fun k => if k = j then true else D k) γ w' := by
  have e : (if (11 : Nat) = j then true else D 11) = D 11 := if_neg hj
  exact ⟨h.kept.trans k (fun _ _ h => h.elim), fun h1 => ⟨(h.no (e ▸ h1)).1, (h.no (e ▸ h1)).2.trans k (fun _ _ h => h)⟩, fun h1 => h.yes (e ▸ h1)⟩
theorem bR.pure {w w' : World} {va : Value} {γ : Bool} (k : Kept (fun _ => False) w w') : bR va γ w γ w' := ⟨k.mono (fun _ _ h => h.elim), fun h => ⟨h, k⟩⟩
def bRd8 (va : Value) (b0 : Nat) (hva : ∀ k, blk va k → k < b0) (l : List Value) : StableG (bR va) := ⟨fun v _ w => ∃ b, v = .slice (some ⟨b, 0, none⟩) 1 1 ∧ Rd w 8 v 1 l ∧ b0 ≤ b, fun v γ w γ' w' hr ⟨b, h1, h2, h3⟩ => ⟨b, h1, Rd.kept hr.1 h2 (fun k hk e => by
  have h4 := hva k e
  rw [h1] at hk
  cases hk
  have h5 : b < b0 := h4
  omega), h3⟩⟩
def bApp (va : Value) (b0 n : Nat) (xs : List Value) : StableG (bR va) := ⟨fun v γ w => γ = true ∧ (∃ ad cap, v = .slice ad n cap) ∧ w.ownsRow 0 54 8 v n xs ∧ ∀ k, blk v k → blk va k ∨ b0 ≤ k, fun v γ w γ' w' hr ⟨h0, h1, h2, h3⟩ => ⟨(hr.2 h0).1, h1, own_kept (hr.2 h0).2 h2 (fun _ _ h => h), h3⟩⟩
def cmd0 (id : Nat) (t : List UInt8) : Cmd := ⟨id, t, [], [], -1, 0, false, false⟩
theorem oneC (c : Cmd) : ∀ u ∈ c.cells, u.oneCell' = true := by
  intro u hu
  simp only [Cmd.cells, List.mem_cons, List.not_mem_nil, or_false] at hu
  rcases hu with rfl | rfl | rfl | rfl | rfl | rfl | rfl | rfl <;> rfl
set_option maxHeartbeats 8000000 in
theorem begin_any (w : World) (F : Nat → Prop) (j BL sp : Nat) (va : Value) (J : Jr) (h : JAt w F j BL va sp J) (hl : J.cs.length ≤ 1000000) (id : Nat) (t : List UInt8) (ch off num : Int) (sq : Option Addr) (a b d : Int) :
    Calls Tryz.prog 69 #[.pointer (some ⟨j, 0, none⟩), rv 1 id t ch off num sq a b d] w fun e w' => e = .returned (.tuple #[]) ∧ JPost w w' F F j BL { J with cs := J.cs ++ [cmd0 id t] } := by
  unfold rv
  have H := Lw.hid h
  obtain ⟨n, hn⟩ : ∃ n, J.cs.length = n := ⟨_, rfl⟩
  obtain ⟨ad, cap, rfl, hq1, hq2, _⟩ := own_slice (hn ▸ h.row)
  have HN := Lw.hid hn
  rw [hn] at hl
  unfold maxLen at hq2
  clear h hn
  obtain ⟨w1, hw1⟩ : ∃ w1, w.alloc (.cells #[.int .u8 1, .int .u32 (id : Int), .string (BA t), .int .i64 ch, .int .i64 off, .int .i64 num, .pointer sq, .int .u32 a, .int .u32 b, .int .u32 d] 69) = w1 := ⟨_, rfl⟩
  obtain ⟨r, hr⟩ : ∃ r, w.heap.size = r := ⟨_, rfl⟩
  have K1 : Hid (Kept (fun _ => False) w w1) := Lw.hid (by rw [← hw1]; exact (Kept.refl _ w).alloc _)
  have HRB : Hid (w1.heap[r]? = some (.cells #[.int .u8 1, .int .u32 (id : Int), .string (BA t), .int .i64 ch, .int .i64 off, .int .i64 num, .pointer sq, .int .u32 a, .int .u32 b, .int .u32 d] 69 (0, 0))) := Lw.hid (by rw [← hw1, ← hr]; exact heap_alloc w _)
  have H1 := Lw.hid (H.out.kept K1.out (fun _ _ h => h))
  have HR := Lw.hid hr
  have HW := Lw.hid hw1
  clear hw1 hr
  have hjw : j < w1.heap.size := heap_lt H1.out.box
  have HVA : Hid (∀ k, blk (.slice ad n cap) k → k < w1.heap.size) := Lw.hid (own_lt H1.out.row)
  have HNR : Hid (¬ blk (.slice ad n cap) r) := Lw.hid (fun e => by have := own_lt H.out.row r e; rw [HR.out] at this; omega)
  go_enter Tryz.func69, Tryz.ntmps69
  go_wp2_with fail
  rw [HW.out, HR.out]
  refine wp_region_set 14 (BI w1 (.slice ad n cap)) (bR (.slice ad n cap)) [gV (.pointer (some ⟨j, 0, none⟩)), gV (.pointer (some ⟨j, 0, none⟩)), gV (.pointer (some ⟨j, 0, none⟩)), gV (.pointer (some ⟨j, 1, none⟩)), gV (.slice ad n cap), gV (.pointer (some ⟨r, 1, none⟩)), gV (.int .u32 (id : Int)), gV (.pointer (some ⟨r, 2, none⟩)), gV (.string (BA t)), gV (.agg #[.int .u32 (id : Int), .string (BA t), .string ⟨#[]⟩, .string ⟨#[]⟩, .int .i64 (-1), .int .i64 0, .bool false, .bool false]), bRd8 (.slice ad n cap) w1.heap.size HVA.out (cmd0 id t).cells, bApp (.slice ad n cap) w1.heap.size (n + 1) (J.cs.flatMap Cmd.cells ++ (cmd0 id t).cells), gV (.pointer (some ⟨j, 0, none⟩)), gV (.pointer (some ⟨j, 1, none⟩))] (false) (by kernel_rfl) (by kernel_rfl) (BI.start ((Kept.refl _ w1).drew)) ?_ ?_
  · refine gsteps_cons (fun D γ a' w' hI hD0 hdep hcl hag hlt hf K hK => ?_) ?_
    · have s0 := hag.same 0 (by decide)
      clear hlt
      clear hag
      go_wp2_with fail
      exact hK _ _ _ (hI.pure (Kept.refl _ _) (by decide)) (bR.pure (Kept.refl _ _)) rfl
    refine gsteps_cons (fun D γ a' w' hI hD0 hdep hcl hag hlt hf K hK => ?_) ?_
    · have s0 := hag.same 0 (by decide)
      clear hlt
      clear hag
      go_wp2_with fail
      exact hK _ _ _ (hI.pure (Kept.refl _ _) (by decide)) (bR.pure (Kept.refl _ _)) rfl
    refine gsteps_cons (fun D γ a' w' hI hD0 hdep hcl hag hlt hf K hK => ?_) ?_
    · obtain ⟨⟨_, h1, rfl⟩, -⟩ : SFacts _ _ a' w' [1] := hf
      clear hlt
      clear hag
      go_wp2_with fail
      exact hK _ _ _ (hI.pure (Kept.refl _ _) (by decide)) (bR.pure (Kept.refl _ _)) rfl
    refine gsteps_cons (fun D γ a' w' hI hD0 hdep hcl hag hlt hf K hK => ?_) ?_
    · obtain ⟨⟨_, h2, rfl⟩, -⟩ : SFacts _ _ a' w' [2] := hf
      clear hlt
      clear hag
      go_wp2_with fail
      exact hK _ _ _ (hI.pure (Kept.refl _ _) (by decide)) (bR.pure (Kept.refl _ _)) rfl
    refine gsteps_cons (fun D γ a' w' hI hD0 hdep hcl hag hlt hf K hK => ?_) ?_
    · obtain ⟨⟨_, h3, rfl⟩, -⟩ : SFacts _ _ a' w' [3] := hf
      clear hlt
      clear hag
      have c1 := heap_cell (hI.kept.heap H1.out.box (fun e => (H1.out.fr j e).2 rfl)) 1
      go_wp2_with fail
      exact hK _ _ _ (hI.pure (Kept.refl _ _) (by decide)) (bR.pure (Kept.refl _ _)) rfl
    refine gsteps_cons (fun D γ a' w' hI hD0 hdep hcl hag hlt hf K hK => ?_) ?_
    · have s3 := hag.same 3 (by decide)
      clear hlt
      clear hag
      go_wp2_with fail
      exact hK _ _ _ (hI.pure (Kept.refl _ _) (by decide)) (bR.pure (Kept.refl _ _)) rfl
    refine gsteps_cons (fun D γ a' w' hI hD0 hdep hcl hag hlt hf K hK => ?_) ?_
    · obtain ⟨⟨_, h5, rfl⟩, -⟩ : SFacts _ _ a' w' [5] := hf
      clear hlt
      clear hag
      have c1 := heap_cell (hI.kept.heap HRB.out (fun e => HNR.out e)) 1
      go_wp2_with fail
      exact hK _ _ _ (hI.pure (Kept.refl _ _) (by decide)) (bR.pure (Kept.refl _ _)) rfl
    refine gsteps_cons (fun D γ a' w' hI hD0 hdep hcl hag hlt hf K hK => ?_) ?_
    · have s3 := hag.same 3 (by decide)
      clear hlt
      clear hag
      go_wp2_with fail
      exact hK _ _ _ (hI.pure (Kept.refl _ _) (by decide)) (bR.pure (Kept.refl _ _)) rfl
    refine gsteps_cons (fun D γ a' w' hI hD0 hdep hcl hag hlt hf K hK => ?_) ?_
    · obtain ⟨⟨_, h7, rfl⟩, -⟩ : SFacts _ _ a' w' [7] := hf
      clear hlt
      clear hag
      have c2 := heap_cell (hI.kept.heap HRB.out (fun e => HNR.out e)) 2
      go_wp2_with fail
      exact hK _ _ _ (hI.pure (Kept.refl _ _) (by decide)) (bR.pure (Kept.refl _ _)) rfl
    refine gsteps_cons (fun D γ a' w' hI hD0 hdep hcl hag hlt hf K hK => ?_) ?_
    · obtain ⟨⟨_, h6, rfl⟩, ⟨_, h8, rfl⟩, -⟩ : SFacts _ _ a' w' [6, 8] := hf
      clear hlt
      clear hag
      go_wp2_with fail
      exact hK _ _ _ (hI.pure (Kept.refl _ _) (by decide)) (bR.pure (Kept.refl _ _)) rfl
    refine gsteps_cons (fun D γ a' w' hI hD0 hdep hcl hag hlt hf K hK => ?_) ?_
    · obtain ⟨⟨_, h9, rfl⟩, -⟩ : SFacts _ _ a' w' [9] := hf
      clear hlt
      clear hag
      have HI := Lw.hid hI
      clear hI
      go_wp2_with fail
      exact hK _ _ _ (HI.out.pure ((Kept.refl _ w').alloc _) (by decide)) (bR.pure ((Kept.refl _ w').alloc _)) ⟨w'.heap.size, rfl, Rd.lit w' (cmd0 id t).cells _ 8 _ 1 rfl rfl (by decide), HI.out.kept.size⟩
    refine gsteps_cons (fun D γ a' w' hI hD0 hdep hcl hag hlt hf K hK => ?_) ?_
    · obtain ⟨⟨_, h4, rfl⟩, ⟨v10, h10, e10⟩, -⟩ : SFacts _ _ a' w' [4, 10] := hf
      clear hlt
      clear hag
      obtain ⟨bl, rfl, hrd, hbl⟩ := e10
      have HRD := Lw.hid hrd; have HI := Lw.hid hI
      obtain ⟨hg0, hk0⟩ := hI.no hD0
      have hrow := (H1.out.kept hk0 (fun _ _ h => h)).row
      rw [HN.out] at hrow
      have hz0 := hk0.size
      clear hI hrd
      refine wpList_app rfl _ _ _ rfl EC (.slice ad n cap) n _ (by simp [Act.eval, h4]) hrow _ 1 _ (by simp [Act.eval, h10]) HRD.out (oneC _) (by unfold maxLen; omega) (by omega) ?_
      intro ad' cap' w5 ho hg hf
      have kg : Kept (blk (.slice ad n cap)) w' w5 := (Kept.refl (blk (.slice ad n cap)) w').grown hg (fun k hk _ => hk)
      exact wpList_nil (hK _ true _ ⟨HI.out.kept.trans kg (fun _ _ h => h), fun h => by simp at h, fun _ => rfl⟩ ⟨kg, fun h => by rw [hg0] at h; cases h⟩ ⟨rfl, ⟨ad', cap', rfl⟩, ho, fun k hk => (hf k hk).imp (fun h => h) (fun h => by omega)⟩)
    refine gsteps_cons (fun D γ a' w' hI hD0 hdep hcl hag hlt hf K hK => ?_) ?_
    · obtain ⟨⟨_, h0, rfl⟩, -⟩ : SFacts _ _ a' w' [0, 1, 2, 3, 4, 5, 6, 7, 8, 9, 10, 11] := hf
      clear hlt
      clear hag
      go_wp2_with fail
      exact hK _ _ _ (hI.pure (Kept.refl _ _) (by decide)) (bR.pure (Kept.refl _ _)) rfl
    refine gsteps_cons (fun D γ a' w' hI hD0 hdep hcl hag hlt hf K hK => ?_) ?_
    · obtain ⟨⟨_, h12, rfl⟩, -⟩ : SFacts _ _ a' w' [12, 0, 1, 2, 3, 4, 5, 6, 7, 8, 9, 10, 11] := hf
      clear hlt
      clear hag
      go_wp2_with fail
      exact hK _ _ _ (hI.pure (Kept.refl _ _) (by decide)) (bR.pure (Kept.refl _ _)) rfl
    exact trivial
  · intro vs γ wz hI hvs
    have q0 : vs 0 = (.pointer (some ⟨j, 0, none⟩)) := hvs 0 _ _ rfl rfl
    have q1 : vs 1 = (.pointer (some ⟨j, 0, none⟩)) := hvs 1 _ _ rfl rfl
    have q2 : vs 2 = (.pointer (some ⟨j, 0, none⟩)) := hvs 2 _ _ rfl rfl
    have q3 : vs 3 = (.pointer (some ⟨j, 1, none⟩)) := hvs 3 _ _ rfl rfl
    have q4 : vs 4 = (.slice ad n cap) := hvs 4 _ _ rfl rfl
    have q5 : vs 5 = (.pointer (some ⟨r, 1, none⟩)) := hvs 5 _ _ rfl rfl
    have q6 : vs 6 = (.int .u32 (id : Int)) := hvs 6 _ _ rfl rfl
    have q7 : vs 7 = (.pointer (some ⟨r, 2, none⟩)) := hvs 7 _ _ rfl rfl
    have q8 : vs 8 = (.string (BA t)) := hvs 8 _ _ rfl rfl
    have q9 : vs 9 = (.agg #[.int .u32 (id : Int), .string (BA t), .string ⟨#[]⟩, .string ⟨#[]⟩, .int .i64 (-1), .int .i64 0, .bool false, .bool false]) := hvs 9 _ _ rfl rfl
    have q10 := hvs 10 _ _ rfl rfl
    have q11 := hvs 11 _ _ rfl rfl
    have q12 : vs 12 = (.pointer (some ⟨j, 0, none⟩)) := hvs 12 _ _ rfl rfl
    have q13 : vs 13 = (.pointer (some ⟨j, 1, none⟩)) := hvs 13 _ _ rfl rfl
    clear hvs
    simp only [List.take_succ_cons, List.take_zero, List.drop_succ_cons, List.drop_zero, putAll, Act.put, List.setIfInBounds_toArray, List.set_cons_zero, List.set_cons_succ, Nat.reduceAdd, q0, q1, q2, q3, q4, q5, q6, q7, q8, q9, q12, q13]
    clear q0 q1 q2 q3 q4 q5 q6 q7 q8 q9 q12 q13
    generalize vs 10 = x10 at *
    generalize vs 11 = x11 at *
    obtain ⟨hγ, ⟨ad', cap', rfl⟩, ho, hf⟩ := q11
    have HO := Lw.hid ho; have HFR := Lw.hid hf; have KZ := Lw.hid hI.kept
    clear hI ho hf q10
    have hb5 := KZ.out.heap H1.out.box (fun e => (H1.out.fr j e).2 rfl)
    have j1 := heap_cell hb5 1; have f1 := heap_free hb5 1
    go_wp2_with fail
    refine bodyPost_end (results_none rfl _ _ _) rfl ?_
    have ks : Kept (fun k => k = j) wz (wz.setCell ⟨j, 1, none⟩ (.slice ad' (n + 1) cap')) := (Kept.refl (fun k => k = j) wz).set j 1 (fun _ => rfl) _
    have hb6 := heap_set hb5 1 (.slice ad' (n + 1) cap')
    have hsz := KZ.out.size; have hs1 := K1.out.size
    have hnj : ∀ k, blk (.slice ad' (n + 1) cap') k → k ≠ j ∧ (F k ∨ w1.heap.size ≤ k) := fun k hk => by
      rcases HFR.out k hk with h | h
      · exact ⟨(H1.out.fr k h).2, .inl (H1.out.fr k h).1⟩
      · exact ⟨by omega, .inr h⟩
    refine ⟨rfl, fun k => F k ∨ w1.heap.size ≤ k, _, sp, ⟨hb6, ?_, ?_, .inl H1.out.fj, fun k hk => ⟨(hnj k hk).2, (hnj k hk).1⟩⟩, fun k hk => hk.imp (fun h => h) (fun h => by omega), ?_⟩
    · have := own_kept ks HO.out (fun k hk e => (hnj k hk).1 e)
      show World.ownsRow _ 0 _ 8 _ (J.cs ++ [cmd0 id t]).length _
      rw [show (J.cs ++ [cmd0 id t]).length = n + 1 by rw [List.length_append, HN.out]; rfl, List.flatMap_append]
      simp only [List.flatMap_cons, List.flatMap_nil, List.append_nil]
      exact this
    · have hst := H1.out.st.mono (G := fun k => (F k ∧ k ≠ j ∧ ¬ blk (.slice ad n cap) k) ∧ k < w1.heap.size) (fun k hk h => ⟨h, hk⟩)
      have hst2 := (hst.kept KZ.out (fun k hk e => hk.1.2.2 e)).kept ks (fun k hk e => hk.1.2.1 e)
      refine hst2.mono (fun k _ hk => ⟨.inl hk.1.1, hk.1.2.1, fun e => ?_⟩)
      rcases HFR.out k e with h | h
      · exact hk.1.2.2 h
      · have := hk.2; omega
    · exact ((K1.out.mono (fun _ _ h => h.elim)).trans (KZ.out.mono (fun k _ hk => (H1.out.fr k hk).1)) (fun _ _ h => h)).trans (ks.mono (fun k _ e => by rw [e]; exact H1.out.fj)) (fun _ _ h => h)
theorem own_new (w : World) (l : List UInt8) (a : Array Value) (n : Nat) (ha : a = (l.map bv).toArray) (hn : n = l.length) (hl : l.length ≤ 1000) : (w.alloc (.cells a 5)).ownsRow 0 5 1 (.slice (some ⟨w.heap.size, 0, none⟩) n n) l.length (l.map bv) := by
  subst ha hn
  refine ⟨by simp, .inr ⟨w.heap.size, l.length, (l.map bv).toArray, rfl, Nat.zero_le _, heap_alloc _ _, Nat.le_refl _, by unfold maxLen; omega, by simp, ?_⟩⟩
  rw [Nat.mul_one, ← List.map_take, List.take_length]
set_option maxHeartbeats 4000000 in
theorem ftwo_any (w : World) (n : Nat) (hn : n < 65536) : Calls Tryz.prog 86 #[.int .i64 (n : Int)] w fun e w' => ∃ v, e = .returned v ∧ IsOwn w.heap.size (be 2 n) v w' ∧ Kept (fun _ => False) w w' := by
  go_enter Tryz.func86, Tryz.ntmps86
  go_wp2_with fail
  go_ret
  refine ⟨_, rfl, ⟨own_new w (be 2 n) _ _ ?_ (be_length 2 n).symm (by rw [be_length]; omega), fun k hk => ?_⟩, (Kept.refl _ w).alloc _⟩
  · simp only [be, List.nil_append, List.cons_append, List.map_cons, List.map_nil, bv_lo]
    rw [show n / 256 % 256 = n / 256 by omega]; rfl
  · rw [blk_some hk]
    exact Nat.le_refl _
set_option maxHeartbeats 4000000 in
theorem ftold_any (w : World) (s : List UInt8) (hs : s.length < 65536) : Calls Tryz.prog 85 #[.string (BA s)] w fun e w' => ∃ v, e = .returned v ∧ IsOwn w.heap.size (be 2 s.length ++ s) v w' ∧ Kept (fun _ => False) w w' := by
  have HZ : Hid ((BA s).size = s.length) := Lw.hid (BA_size s)
  go_enter Tryz.func85, Tryz.ntmps85
  go_wp2_with fail
  rw [HZ.out]
  refine (ftwo_any w s.length hs).mono ?_
  rintro e w1 ⟨v, rfl, ⟨ho, hb⟩, k1⟩
  rw [be_length] at ho
  have HO := Lw.hid ho; have HB := Lw.hid hb; have K1 := Lw.hid k1
  clear ho hb k1
  obtain ⟨i, hi1, hi2, hi3, hi4⟩ := diskInfoB
  go_wp2_with (at_builtin; refine wpList_apps rfl _ _ _ _ rfl Tryz.underlying36 Tryz.underlying9 hi1 hi2 hi3 hi4 v 2 _ rfl HO.out (BA s) rfl (by rw [HZ.out]; omega) ?_; intro ad cap w2 ho2 hg2 hf2)
  go_ret
  have hl : (be 2 s.length ++ s).length = 2 + s.length := by simp [be_length]
  rw [HZ.out, show (BA s).data.toList = s from (ByteArray.toList_eq _).symm.trans (BA_toList s), ← List.map_append] at ho2
  rw [HZ.out] at hf2
  refine ⟨_, rfl, ⟨by rw [hl]; rw [HZ.out]; exact ho2, fun k hk => ?_⟩, K1.out.grown hg2 (fun k hk hl => ?_)⟩
  · rw [HZ.out] at hk
    rcases hf2 k hk with h | h
    · exact HB.out k h
    · exact Nat.le_trans K1.out.size h
  · have := HB.out k hk; omega
end Go.Proofs.YtgegjjnfcnalfaaGreatDoor
