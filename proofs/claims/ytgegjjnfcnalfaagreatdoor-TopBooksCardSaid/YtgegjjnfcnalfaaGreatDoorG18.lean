/- Of the proof of TopBooks: JE. -/
import Derived.Test.YtgegjjnfcnalfaaGreatDoorG17
import Derived.Test.YtgegjjnfcnalfaaGreatDoorG02
namespace Go.Proofs.YtgegjjnfcnalfaaGreatDoor
open Go Go.RowKit Go.Lw
set_option maxRecDepth 100000
set_option linter.unusedVariables false
set_option linter.unusedSimpArgs false
attribute [local go_sem] BA_toList
theorem EC : ElemT Tryz.prog 34 54 8 80 := by
  refine ElemT.of (z := .agg #[.int .u32 0, .string ⟨#[]⟩, .string ⟨#[]⟩, .string ⟨#[]⟩, .int .i64 0, .int .i64 0, .bool false, .bool false]) Tryz.underlying34 ?_ rfl (by decide)
  kernel_rfl
def JPost (w w' : World) (F B : Nat → Prop) (j BL : Nat) (J : Jr) : Prop := ∃ F' va sp, JAt w' F' j BL va sp J ∧ (∀ k, F' k → B k ∨ w.heap.size ≤ k) ∧ Kept F w w'
theorem JAt.setc {w : World} {F : Nat → Prop} {j BL sp : Nat} {va : Value} {J : Jr} (h : JAt w F j BL va sp J) {cs : List Cmd} {x : Cmd} (hc : J.cs = cs ++ [x]) {b cap : Nat} (hv : va = .slice (some ⟨b, 0, none⟩) (cs.length + 1) cap) (i : Nat) (hi : i < 8) (u : Value) (y : Cmd) (hu : x.cells.set i u = y.cells) :
    JAt (w.setCell ⟨b, cs.length * 8 + i, none⟩ u) F j BL va sp { J with cs := cs ++ [y] } ∧ Kept F w (w.setCell ⟨b, cs.length * 8 + i, none⟩ u) := by
  subst hv
  have hb := h.fr b rfl
  have k1 : Kept (fun k => k = b) w (w.setCell ⟨b, cs.length * 8 + i, none⟩ u) := (Kept.refl (fun k => k = b) w).set b _ (fun _ => rfl) u
  have hl : J.cs.length = cs.length + 1 := by rw [hc]; simp
  have hr := h.row
  rw [hl] at hr
  have hs := (hr.stored (cs.length * 8 + i) u).1
  rw [hc, cc_set cs x y i hi u hu] at hs
  refine ⟨⟨k1.heap h.box (fun e => hb.2 e.symm), ?_, h.st.kept k1 (fun k hk e => hk.2.2 (by rw [e]; rfl)), h.fj, h.fr⟩, k1.mono (fun i _ e => by rw [e]; exact hb.1)⟩
  show World.ownsRow _ 0 _ 8 _ (cs ++ [y]).length _
  rw [show (cs ++ [y]).length = cs.length + 1 by simp]
  exact hs
theorem JAt.setm {w : World} {F : Nat → Prop} {j BL sp : Nat} {va : Value} {J : Jr} (h : JAt w F j BL va sp J) (w' : World) (k : Kept (fun k => k = j) w w') (m : Mk) (hb : w'.heap[j]? = some (jbox BL va sp m)) : JAt w' F j BL va sp { J with mark := m } ∧ Kept F w w' :=
  ⟨⟨hb, own_kept k h.row (fun k hk e => (h.fr k hk).2 e), h.st.kept k (fun k hk e => hk.2.1 e), h.fj, h.fr⟩, k.mono (fun i _ e => by rw [e]; exact h.fj)⟩
set_option maxHeartbeats 8000000 in
theorem note_any (w : World) (F : Nat → Prop) (j BL sp : Nat) (va : Value) (J : Jr) (h : JAt w F j BL va sp J) (id : Int) (t : List UInt8) (ch off num : Int) (sq : Option Addr) (a b d : Nat) :
    Calls Tryz.prog 74 #[.pointer (some ⟨j, 0, none⟩), rv 6 id t ch off num sq a b d] w fun e w' => e = .returned (.tuple #[]) ∧ JPost w w' F F j BL { J with mark := ⟨a, b, d⟩ } := by
  unfold rv
  obtain ⟨w1, hw1⟩ : ∃ w1, w.alloc (.cells #[.int .u8 6, .int .u32 id, .string (BA t), .int .i64 ch, .int .i64 off, .int .i64 num, .pointer sq, .int .u32 (a : Int), .int .u32 (b : Int), .int .u32 (d : Int)] 69) = w1 := ⟨_, rfl⟩
  have K1 : Hid (Kept (fun _ => False) w w1) := Lw.hid (by rw [← hw1]; exact (Kept.refl _ w).alloc _)
  have hrb : w1.heap[w.heap.size]? = some (.cells #[.int .u8 6, .int .u32 id, .string (BA t), .int .i64 ch, .int .i64 off, .int .i64 num, .pointer sq, .int .u32 (a : Int), .int .u32 (b : Int), .int .u32 (d : Int)] 69 (0, 0)) := by rw [← hw1]; exact heap_alloc w _
  have h1 : JAt w1 F j BL va sp J := h.kept K1.out (fun _ _ h => h)
  have hA := heap_set h1.box 3 (.int .u32 (a : Int))
  have hB := heap_set hA 4 (.int .u32 (b : Int))
  simp only [List.setIfInBounds_toArray, List.set_cons_zero, List.set_cons_succ] at hA hB
  have j3 := heap_cell h1.box 3; have f3 := heap_free h1.box 3
  have j4 := heap_cell hA 4; have f4 := heap_free hA 4
  have j5 := heap_cell hB 5; have f5 := heap_free hB 5
  have hs := heap_set (heap_set (heap_set h1.box 3 (.int .u32 (a : Int))) 4 (.int .u32 (b : Int))) 5 (.int .u32 (d : Int))
  have ks := (((Kept.refl (fun k => k = j) w1).set j 3 (fun _ => rfl) (.int .u32 (a : Int))).set j 4 (fun _ => rfl) (.int .u32 (b : Int))).set j 5 (fun _ => rfl) (.int .u32 (d : Int))
  have HQ := Lw.hid (h1.setm _ ks ⟨a, b, d⟩ hs)
  clear hs ks hA hB hrb h1 h
  rw [← hw1] at j3 f3 j4 f4 j5 f5 HQ K1
  clear hw1 w1
  go_enter Tryz.func74, Tryz.ntmps74
  go_wp2_with fail
  refine bodyPost_end (results_none rfl _ _ _) rfl ?_
  exact ⟨rfl, F, _, _, HQ.out.1, fun k hk => .inl hk, (K1.out.mono (fun _ _ h => h.elim)).trans HQ.out.2 (fun _ _ h => h)⟩
set_option maxHeartbeats 8000000 in
theorem stop_any (w : World) (F : Nat → Prop) (j BL sp : Nat) (va : Value) (J : Jr) (h : JAt w F j BL va sp J) (cs : List Cmd) (c : Cmd) (hc : J.cs = cs ++ [c]) (ho : c.over = false) (id : Int) (t : List UInt8) (ch off num : Int) (sq : Option Addr) (a b d : Int) :
    Calls Tryz.prog 71 #[.pointer (some ⟨j, 0, none⟩), rv 3 id t ch off num sq a b d] w fun e w' => e = .returned (.tuple #[]) ∧ JPost w w' F F j BL { J with cs := cs ++ [{ c with sig := num }] } := by
  unfold rv
  have H := Lw.hid h
  obtain ⟨b0, cap, rfl, hq1, hq2, hcl⟩ := h.cell hc
  obtain ⟨n, hcn⟩ : ∃ n, cs.length = n := ⟨_, rfl⟩
  have HC := Lw.hid hc; have HO := Lw.hid ho; have HCN := Lw.hid hcn
  rw [hcn] at hq1
  unfold maxLen at hq2
  clear h hc ho hcl hcn
  go_enter Tryz.func71, Tryz.ntmps71
  go_wp2_with fail
  obtain ⟨w1, hw1⟩ : ∃ w1, w.alloc (.cells #[.int .u8 3, .int .u32 id, .string (BA t), .int .i64 ch, .int .i64 off, .int .i64 num, .pointer sq, .int .u32 a, .int .u32 b, .int .u32 d] 69) = w1 := ⟨_, rfl⟩
  obtain ⟨r, hr⟩ : ∃ r, w.heap.size = r := ⟨_, rfl⟩
  have K1 : Hid (Kept (fun _ => False) w w1) := Lw.hid (by rw [← hw1]; exact (Kept.refl _ w).alloc _)
  have hrb : w1.heap[r]? = some (.cells #[.int .u8 3, .int .u32 id, .string (BA t), .int .i64 ch, .int .i64 off, .int .i64 num, .pointer sq, .int .u32 a, .int .u32 b, .int .u32 d] 69 (0, 0)) := by rw [← hw1, ← hr]; exact heap_alloc w _
  have h1 : JAt w1 F j BL _ sp J := H.out.kept K1.out (fun _ _ h => h)
  have hne : j ≠ r := by rw [← hr]; exact Nat.ne_of_lt (heap_lt H.out.box)
  rw [hw1, hr]
  have HRB := Lw.hid hrb
  have H1 := Lw.hid h1
  have HR := Lw.hid hr
  clear hw1 hr hrb h1
  refine wp_region_tail 6 [stV (.pointer (some ⟨j, 0, none⟩)), stV (.pointer (some ⟨b0, n * 8, none⟩)), stV (.pointer (some ⟨r, 5, none⟩)), stV (.int .i64 num), stV (.pointer (some ⟨b0, n * 8, none⟩)), stV (.pointer (some ⟨b0, n * 8 + 4, none⟩))] (by kernel_rfl) (by kernel_rfl) ?_ ?_
  · refine ssteps_cons (fun a' w' hI hag hf K hK => ?_) ?_
    · have s0 := hag.same 0 (by decide)
      clear hag
      go_wp2_with fail
      exact hK _ _ hI (Kept.refl _ _) rfl
    refine ssteps_cons (fun a' w' hI hag hf K hK => ?_) ?_
    · obtain ⟨⟨_, h0, rfl⟩, -⟩ : SFacts _ _ a' w' [0] := hf
      clear hag
      have HI := Lw.hid hI
      clear hI
      go_wp2_with fail
      refine (jopen_yes w' F j BL sp _ J (H1.out.kept HI.out (fun _ _ h => h)) cs c HC.out HO.out b0 cap (by rw [HCN.out])).mono ?_
      rw [HCN.out]
      rintro e w4 ⟨rfl, rfl⟩
      go_wp2_with fail
      exact hK _ _ HI.out (Kept.refl _ _) rfl
    iterate 4
      refine ssteps_cons (fun a' w' hI hag hf K hK => ?_) ?_
      · obtain ⟨⟨_, h0, rfl⟩, ⟨_, h1, rfl⟩, ⟨_, h2, rfl⟩, ⟨_, h3, rfl⟩, ⟨_, h4, rfl⟩, -⟩ := hf
        have s3 := hag.same 3 (by decide)
        clear hag
        have c5 := heap_cell (hI.heap HRB.out (fun h => h)) 5
        go_wp2_with fail
        exact hK _ _ hI (Kept.refl _ _) rfl
    exact trivial
  · intro vs wz hI hvs
    simp only [pzz, putAll, Act.put, Nat.reduceAdd, spv (hvs 0 _ _ rfl rfl) rfl, spv (hvs 1 _ _ rfl rfl) rfl, spv (hvs 2 _ _ rfl rfl) rfl, spv (hvs 3 _ _ rfl rfl) rfl, spv (hvs 4 _ _ rfl rfl) rfl, spv (hvs 5 _ _ rfl rfl) rfl]
    clear hvs
    have HZ := Lw.hid (H1.out.kept hI (fun _ _ h => h))
    have hcz : wz.cell? ⟨b0, n * 8 + 4, none⟩ = c.cells[4]? := by obtain ⟨b', cap', hv', _, _, h3⟩ := HZ.out.cell HC.out; rw [HCN.out] at hv'; cases hv'; have := h3 4 (by decide); rw [HCN.out] at this; exact this
    have hfz : wz.frozen? ⟨b0, n * 8 + 4, none⟩ = false := by have hr := HZ.out.row; rw [show J.cs.length = cs.length + 1 by rw [HC.out]; simp] at hr; exact hr.frozenAt _
    simp only [Cmd.cells, List.getElem?_cons_zero, List.getElem?_cons_succ] at hcz
    have HI := Lw.hid hI
    clear hI
    go_wp2_with fail
    obtain ⟨q1, q2⟩ := HZ.out.setc HC.out (b := b0) (cap := cap) (by rw [HCN.out]) 4 (by decide) (.int .i64 num) { c with sig := num } rfl
    rw [HCN.out] at q1 q2
    refine bodyPost_end (results_none rfl _ _ _) rfl ?_
    exact ⟨rfl, F, _, _, q1, fun k hk => .inl hk, ((K1.out.trans HI.out (fun _ _ h => h)).mono (fun _ _ h => h.elim)).trans q2 (fun _ _ h => h)⟩
set_option maxHeartbeats 8000000 in
theorem more2_any (w : World) (F : Nat → Prop) (j BL sp : Nat) (va : Value) (J : Jr) (h : JAt w F j BL va sp J) (cs : List Cmd) (c : Cmd) (hc : J.cs = cs ++ [c]) (ho : c.over = false) (id : Int) (t : List UInt8) (off num : Int) (sq : Option Addr) (a b d : Int) (ht : t.length ≤ 60) (hl : c.out.length + c.err.length ≤ 60000) :
    Calls Tryz.prog 70 #[.pointer (some ⟨j, 0, none⟩), rv 2 id t 2 off num sq a b d] w fun e w' => e = .returned (.tuple #[]) ∧ JPost w w' F F j BL { J with cs := cs ++ [{ c with out := c.out ++ t }] } := by
  unfold rv
  have H := Lw.hid h
  obtain ⟨b0, cap, rfl, hq1, hq2, hcl⟩ := h.cell hc
  obtain ⟨n, hcn⟩ : ∃ n, cs.length = n := ⟨_, rfl⟩
  have HC := Lw.hid hc; have HO := Lw.hid ho; have HCN := Lw.hid hcn
  rw [hcn] at hq1
  unfold maxLen at hq2
  clear h hc ho hcl hcn
  have hbt : (BA t).size ≤ 60 := by rw [BA_size]; exact ht
  have hbo : (BA c.out).size + (BA c.err).size ≤ 60000 := by rw [BA_size, BA_size]; exact hl
  go_enter Tryz.func70, Tryz.ntmps70
  go_wp2_with fail
  obtain ⟨w1, hw1⟩ : ∃ w1, w.alloc (.cells #[.int .u8 2, .int .u32 id, .string (BA t), .int .i64 2, .int .i64 off, .int .i64 num, .pointer sq, .int .u32 a, .int .u32 b, .int .u32 d] 69) = w1 := ⟨_, rfl⟩
  obtain ⟨r, hr⟩ : ∃ r, w.heap.size = r := ⟨_, rfl⟩
  have K1 : Hid (Kept (fun _ => False) w w1) := Lw.hid (by rw [← hw1]; exact (Kept.refl _ w).alloc _)
  have hrb : w1.heap[r]? = some (.cells #[.int .u8 2, .int .u32 id, .string (BA t), .int .i64 2, .int .i64 off, .int .i64 num, .pointer sq, .int .u32 a, .int .u32 b, .int .u32 d] 69 (0, 0)) := by rw [← hw1, ← hr]; exact heap_alloc w _
  have h1 : JAt w1 F j BL _ sp J := H.out.kept K1.out (fun _ _ h => h)
  have hne : j ≠ r := by rw [← hr]; exact Nat.ne_of_lt (heap_lt H.out.box)
  rw [hw1, hr]
  have HRB := Lw.hid hrb
  have H1 := Lw.hid h1
  have HR := Lw.hid hr
  clear hw1 hr hrb h1
  refine wp_region_tail 11 [stV (.pointer (some ⟨j, 0, none⟩)), stV (.pointer (some ⟨b0, n * 8, none⟩)), stV (.pointer (some ⟨r, 3, none⟩)), stV (.int .i64 2), stV (.pointer (some ⟨b0, n * 8 + 2, none⟩)), stV (.pointer (some ⟨b0, n * 8 + 2, none⟩)), stV (.string (BA c.out)), stV (.pointer (some ⟨r, 2, none⟩)), stV (.string (BA t)), stV (.string (BA (c.out ++ t))), stV (.pointer (some ⟨b0, n * 8 + 2, none⟩))] (by kernel_rfl) (by kernel_rfl) ?_ ?_
  · refine ssteps_cons (fun a' w' hI hag hf K hK => ?_) ?_
    · have s0 := hag.same 0 (by decide)
      clear hag
      go_wp2_with fail
      exact hK _ _ hI (Kept.refl _ _) rfl
    refine ssteps_cons (fun a' w' hI hag hf K hK => ?_) ?_
    · obtain ⟨⟨_, h0, rfl⟩, -⟩ : SFacts _ _ a' w' [0] := hf
      clear hag
      have HI := Lw.hid hI
      clear hI
      go_wp2_with fail
      refine (jopen_yes w' F j BL sp _ J (H1.out.kept HI.out (fun _ _ h => h)) cs c HC.out HO.out b0 cap (by rw [HCN.out])).mono ?_
      rw [HCN.out]
      rintro e w4 ⟨rfl, rfl⟩
      go_wp2_with fail
      exact hK _ _ HI.out (Kept.refl _ _) rfl
    iterate 2
      refine ssteps_cons (fun a' w' hI hag hf K hK => ?_) ?_
      · obtain ⟨⟨_, h0, rfl⟩, -⟩ := hf
        have s3 := hag.same 3 (by decide)
        clear hag
        have c3 := heap_cell (hI.heap HRB.out (fun h => h)) 3
        go_wp2_with fail
        exact hK _ _ hI (Kept.refl _ _) rfl
    refine ssteps_cons (fun a' w' hI hag hf K hK => ?_) ?_
    · obtain ⟨⟨_, h1, rfl⟩, ⟨_, h3, rfl⟩, -⟩ : SFacts _ _ a' w' [1, 3] := hf
      clear hag
      go_wp2_with fail
      refine (channel_any w' b0 (n * 8) 2).mono ?_
      rintro e w4 ⟨rfl, rfl⟩
      go_wp2_with fail
      exact hK _ _ hI (Kept.refl _ _) rfl
    refine ssteps_cons (fun a' w' hI hag hf K hK => ?_) ?_
    · obtain ⟨⟨_, h0, rfl⟩, -⟩ := hf
      clear hag
      go_wp2_with fail
      exact hK _ _ hI (Kept.refl _ _) rfl
    refine ssteps_cons (fun a' w' hI hag hf K hK => ?_) ?_
    · obtain ⟨⟨_, h5, rfl⟩, -⟩ : SFacts _ _ a' w' [5] := hf
      clear hag
      have HZ := Lw.hid (H1.out.kept hI (fun _ _ h => h))
      have hcz : w'.cell? ⟨b0, n * 8 + 2, none⟩ = c.cells[2]? := by obtain ⟨b', cap', hv', _, _, h3⟩ := HZ.out.cell HC.out; rw [HCN.out] at hv'; cases hv'; have := h3 2 (by decide); rw [HCN.out] at this; exact this
      simp only [Cmd.cells, List.getElem?_cons_zero, List.getElem?_cons_succ] at hcz
      have HI := Lw.hid hI
      clear hI
      go_wp2_with fail
      exact hK _ _ HI.out (Kept.refl _ _) rfl
    iterate 2
      refine ssteps_cons (fun a' w' hI hag hf K hK => ?_) ?_
      · obtain ⟨⟨_, h0, rfl⟩, -⟩ := hf
        have s3 := hag.same 3 (by decide)
        clear hag
        have c2 := heap_cell (hI.heap HRB.out (fun h => h)) 2
        go_wp2_with fail
        exact hK _ _ hI (Kept.refl _ _) rfl
    refine ssteps_cons (fun a' w' hI hag hf K hK => ?_) ?_
    · obtain ⟨⟨_, h6, rfl⟩, ⟨_, h8, rfl⟩, -⟩ : SFacts _ _ a' w' [6, 8] := hf
      clear hag
      go_wp2_with fail
      exact hK _ _ hI (Kept.refl _ _) (congrArg Value.string (BA_append _ _))
    refine ssteps_cons (fun a' w' hI hag hf K hK => ?_) ?_
    · obtain ⟨⟨_, h0, rfl⟩, ⟨_, h1, rfl⟩, ⟨_, h2, rfl⟩, ⟨_, h3, rfl⟩, ⟨_, h4, rfl⟩, ⟨_, h5, rfl⟩, ⟨_, h6, rfl⟩, ⟨_, h7, rfl⟩, ⟨_, h8, rfl⟩, ⟨_, h9, rfl⟩, -⟩ := hf
      clear hag
      go_wp2_with fail
      exact hK _ _ hI (Kept.refl _ _) rfl
    exact trivial
  · intro vs wz hI hvs
    simp only [pzz, putAll, Act.put, Nat.reduceAdd, spv (hvs 0 _ _ rfl rfl) rfl, spv (hvs 1 _ _ rfl rfl) rfl, spv (hvs 2 _ _ rfl rfl) rfl, spv (hvs 3 _ _ rfl rfl) rfl, spv (hvs 4 _ _ rfl rfl) rfl, spv (hvs 5 _ _ rfl rfl) rfl, spv (hvs 6 _ _ rfl rfl) rfl, spv (hvs 7 _ _ rfl rfl) rfl, spv (hvs 8 _ _ rfl rfl) rfl, spv (hvs 9 _ _ rfl rfl) rfl, spv (hvs 10 _ _ rfl rfl) rfl]
    clear hvs
    have HZ := Lw.hid (H1.out.kept hI (fun _ _ h => h))
    have hcz : wz.cell? ⟨b0, n * 8 + 2, none⟩ = c.cells[2]? := by obtain ⟨b', cap', hv', _, _, h3⟩ := HZ.out.cell HC.out; rw [HCN.out] at hv'; cases hv'; have := h3 2 (by decide); rw [HCN.out] at this; exact this
    have hfz : wz.frozen? ⟨b0, n * 8 + 2, none⟩ = false := by have hr := HZ.out.row; rw [show J.cs.length = cs.length + 1 by rw [HC.out]; simp] at hr; exact hr.frozenAt _
    simp only [Cmd.cells, List.getElem?_cons_zero, List.getElem?_cons_succ] at hcz
    have HI := Lw.hid hI
    clear hI
    go_wp2_with fail
    obtain ⟨q1, q2⟩ := HZ.out.setc HC.out (b := b0) (cap := cap) (by rw [HCN.out]) 2 (by decide) (.string (BA (c.out ++ t))) { c with out := c.out ++ t } rfl
    rw [HCN.out] at q1 q2
    refine bodyPost_end (results_none rfl _ _ _) rfl ?_
    exact ⟨rfl, F, _, _, q1, fun k hk => .inl hk, ((K1.out.trans HI.out (fun _ _ h => h)).mono (fun _ _ h => h.elim)).trans q2 (fun _ _ h => h)⟩
set_option maxHeartbeats 8000000 in
theorem more3_any (w : World) (F : Nat → Prop) (j BL sp : Nat) (va : Value) (J : Jr) (h : JAt w F j BL va sp J) (cs : List Cmd) (c : Cmd) (hc : J.cs = cs ++ [c]) (ho : c.over = false) (id : Int) (t : List UInt8) (off num : Int) (sq : Option Addr) (a b d : Int) (ht : t.length ≤ 60) (hl : c.out.length + c.err.length ≤ 60000) :
    Calls Tryz.prog 70 #[.pointer (some ⟨j, 0, none⟩), rv 2 id t 3 off num sq a b d] w fun e w' => e = .returned (.tuple #[]) ∧ JPost w w' F F j BL { J with cs := cs ++ [{ c with err := c.err ++ t }] } := by
  unfold rv
  have H := Lw.hid h
  obtain ⟨b0, cap, rfl, hq1, hq2, hcl⟩ := h.cell hc
  obtain ⟨n, hcn⟩ : ∃ n, cs.length = n := ⟨_, rfl⟩
  have HC := Lw.hid hc; have HO := Lw.hid ho; have HCN := Lw.hid hcn
  rw [hcn] at hq1
  unfold maxLen at hq2
  clear h hc ho hcl hcn
  have hbt : (BA t).size ≤ 60 := by rw [BA_size]; exact ht
  have hbo : (BA c.out).size + (BA c.err).size ≤ 60000 := by rw [BA_size, BA_size]; exact hl
  go_enter Tryz.func70, Tryz.ntmps70
  go_wp2_with fail
  obtain ⟨w1, hw1⟩ : ∃ w1, w.alloc (.cells #[.int .u8 2, .int .u32 id, .string (BA t), .int .i64 3, .int .i64 off, .int .i64 num, .pointer sq, .int .u32 a, .int .u32 b, .int .u32 d] 69) = w1 := ⟨_, rfl⟩
  obtain ⟨r, hr⟩ : ∃ r, w.heap.size = r := ⟨_, rfl⟩
  have K1 : Hid (Kept (fun _ => False) w w1) := Lw.hid (by rw [← hw1]; exact (Kept.refl _ w).alloc _)
  have hrb : w1.heap[r]? = some (.cells #[.int .u8 2, .int .u32 id, .string (BA t), .int .i64 3, .int .i64 off, .int .i64 num, .pointer sq, .int .u32 a, .int .u32 b, .int .u32 d] 69 (0, 0)) := by rw [← hw1, ← hr]; exact heap_alloc w _
  have h1 : JAt w1 F j BL _ sp J := H.out.kept K1.out (fun _ _ h => h)
  have hne : j ≠ r := by rw [← hr]; exact Nat.ne_of_lt (heap_lt H.out.box)
  rw [hw1, hr]
  have HRB := Lw.hid hrb
  have H1 := Lw.hid h1
  have HR := Lw.hid hr
  clear hw1 hr hrb h1
  refine wp_region_tail 11 [stV (.pointer (some ⟨j, 0, none⟩)), stV (.pointer (some ⟨b0, n * 8, none⟩)), stV (.pointer (some ⟨r, 3, none⟩)), stV (.int .i64 3), stV (.pointer (some ⟨b0, n * 8 + 3, none⟩)), stV (.pointer (some ⟨b0, n * 8 + 3, none⟩)), stV (.string (BA c.err)), stV (.pointer (some ⟨r, 2, none⟩)), stV (.string (BA t)), stV (.string (BA (c.err ++ t))), stV (.pointer (some ⟨b0, n * 8 + 3, none⟩))] (by kernel_rfl) (by kernel_rfl) ?_ ?_
  · refine ssteps_cons (fun a' w' hI hag hf K hK => ?_) ?_
    · have s0 := hag.same 0 (by decide)
      clear hag
      go_wp2_with fail
      exact hK _ _ hI (Kept.refl _ _) rfl
    refine ssteps_cons (fun a' w' hI hag hf K hK => ?_) ?_
    · obtain ⟨⟨_, h0, rfl⟩, -⟩ : SFacts _ _ a' w' [0] := hf
      clear hag
      have HI := Lw.hid hI
      clear hI
      go_wp2_with fail
      refine (jopen_yes w' F j BL sp _ J (H1.out.kept HI.out (fun _ _ h => h)) cs c HC.out HO.out b0 cap (by rw [HCN.out])).mono ?_
      rw [HCN.out]
      rintro e w4 ⟨rfl, rfl⟩
      go_wp2_with fail
      exact hK _ _ HI.out (Kept.refl _ _) rfl
    iterate 2
      refine ssteps_cons (fun a' w' hI hag hf K hK => ?_) ?_
      · obtain ⟨⟨_, h0, rfl⟩, -⟩ := hf
        have s3 := hag.same 3 (by decide)
        clear hag
        have c3 := heap_cell (hI.heap HRB.out (fun h => h)) 3
        go_wp2_with fail
        exact hK _ _ hI (Kept.refl _ _) rfl
    refine ssteps_cons (fun a' w' hI hag hf K hK => ?_) ?_
    · obtain ⟨⟨_, h1, rfl⟩, ⟨_, h3, rfl⟩, -⟩ : SFacts _ _ a' w' [1, 3] := hf
      clear hag
      go_wp2_with fail
      refine (channel_any w' b0 (n * 8) 3).mono ?_
      rintro e w4 ⟨rfl, rfl⟩
      go_wp2_with fail
      exact hK _ _ hI (Kept.refl _ _) rfl
    refine ssteps_cons (fun a' w' hI hag hf K hK => ?_) ?_
    · obtain ⟨⟨_, h0, rfl⟩, -⟩ := hf
      clear hag
      go_wp2_with fail
      exact hK _ _ hI (Kept.refl _ _) rfl
    refine ssteps_cons (fun a' w' hI hag hf K hK => ?_) ?_
    · obtain ⟨⟨_, h5, rfl⟩, -⟩ : SFacts _ _ a' w' [5] := hf
      clear hag
      have HZ := Lw.hid (H1.out.kept hI (fun _ _ h => h))
      have hcz : w'.cell? ⟨b0, n * 8 + 3, none⟩ = c.cells[3]? := by obtain ⟨b', cap', hv', _, _, h3⟩ := HZ.out.cell HC.out; rw [HCN.out] at hv'; cases hv'; have := h3 3 (by decide); rw [HCN.out] at this; exact this
      simp only [Cmd.cells, List.getElem?_cons_zero, List.getElem?_cons_succ] at hcz
      have HI := Lw.hid hI
      clear hI
      go_wp2_with fail
      exact hK _ _ HI.out (Kept.refl _ _) rfl
    iterate 2
      refine ssteps_cons (fun a' w' hI hag hf K hK => ?_) ?_
      · obtain ⟨⟨_, h0, rfl⟩, -⟩ := hf
        have s3 := hag.same 3 (by decide)
        clear hag
        have c2 := heap_cell (hI.heap HRB.out (fun h => h)) 2
        go_wp2_with fail
        exact hK _ _ hI (Kept.refl _ _) rfl
    refine ssteps_cons (fun a' w' hI hag hf K hK => ?_) ?_
    · obtain ⟨⟨_, h6, rfl⟩, ⟨_, h8, rfl⟩, -⟩ : SFacts _ _ a' w' [6, 8] := hf
      clear hag
      go_wp2_with fail
      exact hK _ _ hI (Kept.refl _ _) (congrArg Value.string (BA_append _ _))
    refine ssteps_cons (fun a' w' hI hag hf K hK => ?_) ?_
    · obtain ⟨⟨_, h0, rfl⟩, ⟨_, h1, rfl⟩, ⟨_, h2, rfl⟩, ⟨_, h3, rfl⟩, ⟨_, h4, rfl⟩, ⟨_, h5, rfl⟩, ⟨_, h6, rfl⟩, ⟨_, h7, rfl⟩, ⟨_, h8, rfl⟩, ⟨_, h9, rfl⟩, -⟩ := hf
      clear hag
      go_wp2_with fail
      exact hK _ _ hI (Kept.refl _ _) rfl
    exact trivial
  · intro vs wz hI hvs
    simp only [pzz, putAll, Act.put, Nat.reduceAdd, spv (hvs 0 _ _ rfl rfl) rfl, spv (hvs 1 _ _ rfl rfl) rfl, spv (hvs 2 _ _ rfl rfl) rfl, spv (hvs 3 _ _ rfl rfl) rfl, spv (hvs 4 _ _ rfl rfl) rfl, spv (hvs 5 _ _ rfl rfl) rfl, spv (hvs 6 _ _ rfl rfl) rfl, spv (hvs 7 _ _ rfl rfl) rfl, spv (hvs 8 _ _ rfl rfl) rfl, spv (hvs 9 _ _ rfl rfl) rfl, spv (hvs 10 _ _ rfl rfl) rfl]
    clear hvs
    have HZ := Lw.hid (H1.out.kept hI (fun _ _ h => h))
    have hcz : wz.cell? ⟨b0, n * 8 + 3, none⟩ = c.cells[3]? := by obtain ⟨b', cap', hv', _, _, h3⟩ := HZ.out.cell HC.out; rw [HCN.out] at hv'; cases hv'; have := h3 3 (by decide); rw [HCN.out] at this; exact this
    have hfz : wz.frozen? ⟨b0, n * 8 + 3, none⟩ = false := by have hr := HZ.out.row; rw [show J.cs.length = cs.length + 1 by rw [HC.out]; simp] at hr; exact hr.frozenAt _
    simp only [Cmd.cells, List.getElem?_cons_zero, List.getElem?_cons_succ] at hcz
    have HI := Lw.hid hI
    clear hI
    go_wp2_with fail
    obtain ⟨q1, q2⟩ := HZ.out.setc HC.out (b := b0) (cap := cap) (by rw [HCN.out]) 3 (by decide) (.string (BA (c.err ++ t))) { c with err := c.err ++ t } rfl
    rw [HCN.out] at q1 q2
    refine bodyPost_end (results_none rfl _ _ _) rfl ?_
    exact ⟨rfl, F, _, _, q1, fun k hk => .inl hk, ((K1.out.trans HI.out (fun _ _ h => h)).mono (fun _ _ h => h.elim)).trans q2 (fun _ _ h => h)⟩
end Go.Proofs.YtgegjjnfcnalfaaGreatDoor
