/- Of the proof of TopBooks: JC. -/
import Derived.Test.YtgegjjnfcnalfaaGreatDoorG15
import Derived.BigQuiet
namespace Go.Proofs.YtgegjjnfcnalfaaGreatDoor
open Go Go.RowKit Go.Lw
set_option maxRecDepth 100000
set_option linter.unusedVariables false
set_option linter.unusedSimpArgs false
attribute [local go_sem] BA_toList
theorem right_raw (w : World) (k id : Int) (t : List UInt8) (ch off num : Int) (sp : Option Addr) (a b c : Int) (hk : IsKind k) :
    Calls Tryz.prog 66 #[.agg #[.int .u8 k, .int .u32 id, .string (BA t), .int .i64 ch, .int .i64 off, .int .i64 num, .pointer sp, .int .u32 a, .int .u32 b, .int .u32 c]] w fun e w' => e = .returned (.bool (rightB k ch num)) ∧ Kept (fun _ => False) w w' := right_any w k id t ch off num sp a b c hk
theorem drewN_kept (w : World) (n : Nat) : Kept (fun _ => False) w (w.drewN n) := ⟨rfl, rfl, rfl, Nat.le_refl _, fun _ _ _ => rfl⟩
set_option maxHeartbeats 4000000 in
theorem fits6_no (w : World) (F : Nat → Prop) (j BL sp : Nat) (va : Value) (J : Jr) (h : JAt w F j BL va sp J) (hn : J.opn = none) (id : Int) (t : List UInt8) (ch off num : Int) (sq : Option Addr) (a b d : Int)  :
    Calls Tryz.prog 67 #[.pointer (some ⟨j, 0, none⟩), rv 6 id t ch off num sq a b d] w fun e w' => e = .returned (.int .i64 0) ∧ Kept (fun _ => False) w w' := by
  unfold rv
  have hb := h.box
  have HB := Lw.hid hb
  have H := Lw.hid h
  have HN := Lw.hid hn
  clear h hn hb
  go_enter Tryz.func67, Tryz.ntmps67
  go_wp2_with fail
  obtain ⟨w1, hw1⟩ : ∃ w1, w.alloc (.cells #[.int .u8 6, .int .u32 id, .string (BA t), .int .i64 ch, .int .i64 off, .int .i64 num, .pointer sq, .int .u32 a, .int .u32 b, .int .u32 d] 69) = w1 := ⟨_, rfl⟩
  obtain ⟨r, hr⟩ : ∃ r, w.heap.size = r := ⟨_, rfl⟩
  have K1 : Hid (Kept (fun _ => False) w w1) := Lw.hid (by rw [← hw1]; exact (Kept.refl _ w).alloc _)
  have hrb : w1.heap[r]? = some (.cells #[.int .u8 6, .int .u32 id, .string (BA t), .int .i64 ch, .int .i64 off, .int .i64 num, .pointer sq, .int .u32 a, .int .u32 b, .int .u32 d] 69 (0, 0)) := by rw [← hw1, ← hr]; exact heap_alloc w _
  rw [hw1, hr]
  have HRB := Lw.hid hrb
  have r0 := heap_cell hrb 0; have r1 := heap_cell hrb 1; have r2 := heap_cell hrb 2; have r3 := heap_cell hrb 3; have r4 := heap_cell hrb 4; have r5 := heap_cell hrb 5; have r6 := heap_cell hrb 6; have r7 := heap_cell hrb 7; have r8 := heap_cell hrb 8; have r9 := heap_cell hrb 9
  have H1 := Lw.hid (H.out.kept K1.out (fun _ _ h => h))
  clear hw1 hr hrb
  refine (jopen_no w1 F j BL sp va J H1.out HN.out).mono ?_
  rintro e w2 ⟨rfl, rfl⟩
  go_wp2_with fail
  go_ret
  exact ⟨by simp, K1.out⟩
set_option maxHeartbeats 4000000 in
theorem fits6_yes (w : World) (F : Nat → Prop) (j BL sp : Nat) (va : Value) (J : Jr) (h : JAt w F j BL va sp J) (cs : List Cmd) (c : Cmd) (hc : J.cs = cs ++ [c]) (ho : c.over = false) (id : Int) (t : List UInt8) (ch off num : Int) (sq : Option Addr) (a b d : Int)  :
    Calls Tryz.prog 67 #[.pointer (some ⟨j, 0, none⟩), rv 6 id t ch off num sq a b d] w fun e w' => e = .returned (.int .i64 0) ∧ Kept (fun _ => False) w w' := by
  unfold rv
  have hb := h.box
  have HB := Lw.hid hb
  have H := Lw.hid h
  obtain ⟨b0, cap, rfl, hq1, hq2, hcl⟩ := h.cell hc
  have c2 := hcl 2 (by decide); have c3 := hcl 3 (by decide); have c4 := hcl 4 (by decide)
  simp only [Cmd.cells, List.getElem?_cons_zero, List.getElem?_cons_succ] at c2 c3 c4
  obtain ⟨n, hcn⟩ : ∃ n, cs.length = n := ⟨_, rfl⟩
  obtain ⟨sg, hsg⟩ : ∃ sg, c.sig = sg := ⟨_, rfl⟩
  have HC := Lw.hid hc; have HO := Lw.hid ho; have HCN := Lw.hid hcn; have HSG := Lw.hid hsg
  rw [hcn] at c2 c3 c4
  rw [hsg] at c4
  unfold maxLen at hq2
  clear h hc ho hcl hcn hb hsg
  go_enter Tryz.func67, Tryz.ntmps67
  go_wp2_with fail
  obtain ⟨w1, hw1⟩ : ∃ w1, w.alloc (.cells #[.int .u8 6, .int .u32 id, .string (BA t), .int .i64 ch, .int .i64 off, .int .i64 num, .pointer sq, .int .u32 a, .int .u32 b, .int .u32 d] 69) = w1 := ⟨_, rfl⟩
  obtain ⟨r, hr⟩ : ∃ r, w.heap.size = r := ⟨_, rfl⟩
  have K1 : Hid (Kept (fun _ => False) w w1) := Lw.hid (by rw [← hw1]; exact (Kept.refl _ w).alloc _)
  have hrb : w1.heap[r]? = some (.cells #[.int .u8 6, .int .u32 id, .string (BA t), .int .i64 ch, .int .i64 off, .int .i64 num, .pointer sq, .int .u32 a, .int .u32 b, .int .u32 d] 69 (0, 0)) := by rw [← hw1, ← hr]; exact heap_alloc w _
  rw [hw1, hr]
  have HRB := Lw.hid hrb
  have r0 := heap_cell hrb 0; have r1 := heap_cell hrb 1; have r2 := heap_cell hrb 2; have r3 := heap_cell hrb 3; have r4 := heap_cell hrb 4; have r5 := heap_cell hrb 5; have r6 := heap_cell hrb 6; have r7 := heap_cell hrb 7; have r8 := heap_cell hrb 8; have r9 := heap_cell hrb 9
  have H1 := Lw.hid (H.out.kept K1.out (fun _ _ h => h))
  clear hw1 hr hrb
  have d2 := K1.out.cell c2 (fun h => h); have d3 := K1.out.cell c3 (fun h => h); have d4 := K1.out.cell c4 (fun h => h)
  refine (jopen_yes w1 F j BL sp _ J H1.out cs c HC.out HO.out b0 cap (by rw [HCN.out])).mono ?_
  rw [HCN.out]
  rintro e w2 ⟨rfl, rfl⟩
  go_wp2_with fail
  go_ret
  exact ⟨by simp, K1.out⟩
set_option maxHeartbeats 4000000 in
theorem fits1_no (w : World) (F : Nat → Prop) (j BL sp : Nat) (va : Value) (J : Jr) (h : JAt w F j BL va sp J) (hn : J.opn = none) (id : Int) (t : List UInt8) (ch off num : Int) (sq : Option Addr) (a b d : Int) (ht : t.length ≤ 60) (hR : rightB 1 ch num = true) :
    Calls Tryz.prog 67 #[.pointer (some ⟨j, 0, none⟩), rv 1 id t ch off num sq a b d] w fun e w' => e = .returned (.int .i64 0) ∧ Kept (fun _ => False) w w' := by
  have hbl : (BA t).size ≤ 60 := by rw [BA_size]; exact ht
  unfold rv
  have hb := h.box
  have HB := Lw.hid hb
  have H := Lw.hid h
  have HN := Lw.hid hn
  clear h hn hb
  go_enter Tryz.func67, Tryz.ntmps67
  go_wp2_with fail
  obtain ⟨w1, hw1⟩ : ∃ w1, w.alloc (.cells #[.int .u8 1, .int .u32 id, .string (BA t), .int .i64 ch, .int .i64 off, .int .i64 num, .pointer sq, .int .u32 a, .int .u32 b, .int .u32 d] 69) = w1 := ⟨_, rfl⟩
  obtain ⟨r, hr⟩ : ∃ r, w.heap.size = r := ⟨_, rfl⟩
  have K1 : Hid (Kept (fun _ => False) w w1) := Lw.hid (by rw [← hw1]; exact (Kept.refl _ w).alloc _)
  have hrb : w1.heap[r]? = some (.cells #[.int .u8 1, .int .u32 id, .string (BA t), .int .i64 ch, .int .i64 off, .int .i64 num, .pointer sq, .int .u32 a, .int .u32 b, .int .u32 d] 69 (0, 0)) := by rw [← hw1, ← hr]; exact heap_alloc w _
  rw [hw1, hr]
  have HRB := Lw.hid hrb
  have r0 := heap_cell hrb 0; have r1 := heap_cell hrb 1; have r2 := heap_cell hrb 2; have r3 := heap_cell hrb 3; have r4 := heap_cell hrb 4; have r5 := heap_cell hrb 5; have r6 := heap_cell hrb 6; have r7 := heap_cell hrb 7; have r8 := heap_cell hrb 8; have r9 := heap_cell hrb 9
  have H1 := Lw.hid (H.out.kept K1.out (fun _ _ h => h))
  clear hw1 hr hrb
  refine (jopen_no w1 F j BL sp va J H1.out HN.out).mono ?_
  rintro e w2 ⟨rfl, rfl⟩
  go_wp2_with fail
  refine (right_raw w1 1 id t ch off num sq a b d (by unfold IsKind; decide)).mono ?_
  rw [hR]
  rintro e w2 ⟨rfl, k2⟩
  have KX := Lw.hid (K1.out.trans k2 (fun _ _ h => h))
  have s0 := k2.cell r0 (fun h => h); have s2 := k2.cell r2 (fun h => h)
  clear k2 r0 r1 r2 r3 r4 r5 r6 r7 r8 r9
  go_wp2_with fail
  go_quiet (fail)
  go_wp2_with fail
  go_ret
  exact ⟨by simp, KX.out.trans (drewN_kept _ _) (fun _ _ h => h)⟩
set_option maxHeartbeats 4000000 in
theorem fits1_yes (w : World) (F : Nat → Prop) (j BL sp : Nat) (va : Value) (J : Jr) (h : JAt w F j BL va sp J) (cs : List Cmd) (c : Cmd) (hc : J.cs = cs ++ [c]) (ho : c.over = false) (id : Int) (t : List UInt8) (ch off num : Int) (sq : Option Addr) (a b d : Int)  (hR : rightB 1 ch num = true) :
    Calls Tryz.prog 67 #[.pointer (some ⟨j, 0, none⟩), rv 1 id t ch off num sq a b d] w fun e w' => e = .returned (.int .i64 10) ∧ Kept (fun _ => False) w w' := by
  unfold rv
  have hb := h.box
  have HB := Lw.hid hb
  have H := Lw.hid h
  obtain ⟨b0, cap, rfl, hq1, hq2, hcl⟩ := h.cell hc
  have c2 := hcl 2 (by decide); have c3 := hcl 3 (by decide); have c4 := hcl 4 (by decide)
  simp only [Cmd.cells, List.getElem?_cons_zero, List.getElem?_cons_succ] at c2 c3 c4
  obtain ⟨n, hcn⟩ : ∃ n, cs.length = n := ⟨_, rfl⟩
  obtain ⟨sg, hsg⟩ : ∃ sg, c.sig = sg := ⟨_, rfl⟩
  have HC := Lw.hid hc; have HO := Lw.hid ho; have HCN := Lw.hid hcn; have HSG := Lw.hid hsg
  rw [hcn] at c2 c3 c4
  rw [hsg] at c4
  unfold maxLen at hq2
  clear h hc ho hcl hcn hb hsg
  go_enter Tryz.func67, Tryz.ntmps67
  go_wp2_with fail
  obtain ⟨w1, hw1⟩ : ∃ w1, w.alloc (.cells #[.int .u8 1, .int .u32 id, .string (BA t), .int .i64 ch, .int .i64 off, .int .i64 num, .pointer sq, .int .u32 a, .int .u32 b, .int .u32 d] 69) = w1 := ⟨_, rfl⟩
  obtain ⟨r, hr⟩ : ∃ r, w.heap.size = r := ⟨_, rfl⟩
  have K1 : Hid (Kept (fun _ => False) w w1) := Lw.hid (by rw [← hw1]; exact (Kept.refl _ w).alloc _)
  have hrb : w1.heap[r]? = some (.cells #[.int .u8 1, .int .u32 id, .string (BA t), .int .i64 ch, .int .i64 off, .int .i64 num, .pointer sq, .int .u32 a, .int .u32 b, .int .u32 d] 69 (0, 0)) := by rw [← hw1, ← hr]; exact heap_alloc w _
  rw [hw1, hr]
  have HRB := Lw.hid hrb
  have r0 := heap_cell hrb 0; have r1 := heap_cell hrb 1; have r2 := heap_cell hrb 2; have r3 := heap_cell hrb 3; have r4 := heap_cell hrb 4; have r5 := heap_cell hrb 5; have r6 := heap_cell hrb 6; have r7 := heap_cell hrb 7; have r8 := heap_cell hrb 8; have r9 := heap_cell hrb 9
  have H1 := Lw.hid (H.out.kept K1.out (fun _ _ h => h))
  clear hw1 hr hrb
  have d2 := K1.out.cell c2 (fun h => h); have d3 := K1.out.cell c3 (fun h => h); have d4 := K1.out.cell c4 (fun h => h)
  refine (jopen_yes w1 F j BL sp _ J H1.out cs c HC.out HO.out b0 cap (by rw [HCN.out])).mono ?_
  rw [HCN.out]
  rintro e w2 ⟨rfl, rfl⟩
  go_wp2_with fail
  refine (right_raw w1 1 id t ch off num sq a b d (by unfold IsKind; decide)).mono ?_
  rw [hR]
  rintro e w2 ⟨rfl, k2⟩
  have KX := Lw.hid (K1.out.trans k2 (fun _ _ h => h))
  have s0 := k2.cell r0 (fun h => h); have s2 := k2.cell r2 (fun h => h)
  have x2 := k2.cell d2 (fun h => h); have x3 := k2.cell d3 (fun h => h); have x4 := k2.cell d4 (fun h => h)
  clear k2 r0 r1 r2 r3 r4 r5 r6 r7 r8 r9
  go_wp2_with fail
  go_ret
  exact ⟨by simp, KX.out⟩
set_option maxHeartbeats 4000000 in
theorem fits2_nor (w : World) (F : Nat → Prop) (j BL sp : Nat) (va : Value) (J : Jr) (h : JAt w F j BL va sp J) (hn : J.opn = none) (id : Int) (t : List UInt8) (ch off num : Int) (sq : Option Addr) (a b d : Int)  (hR : rightB 2 ch num = true) :
    Calls Tryz.prog 67 #[.pointer (some ⟨j, 0, none⟩), rv 2 id t ch off num sq a b d] w fun e w' => e = .returned (.int .i64 10) ∧ Kept (fun _ => False) w w' := by
  unfold rv
  have hb := h.box
  have HB := Lw.hid hb
  have H := Lw.hid h
  have HN := Lw.hid hn
  clear h hn hb
  go_enter Tryz.func67, Tryz.ntmps67
  go_wp2_with fail
  obtain ⟨w1, hw1⟩ : ∃ w1, w.alloc (.cells #[.int .u8 2, .int .u32 id, .string (BA t), .int .i64 ch, .int .i64 off, .int .i64 num, .pointer sq, .int .u32 a, .int .u32 b, .int .u32 d] 69) = w1 := ⟨_, rfl⟩
  obtain ⟨r, hr⟩ : ∃ r, w.heap.size = r := ⟨_, rfl⟩
  have K1 : Hid (Kept (fun _ => False) w w1) := Lw.hid (by rw [← hw1]; exact (Kept.refl _ w).alloc _)
  have hrb : w1.heap[r]? = some (.cells #[.int .u8 2, .int .u32 id, .string (BA t), .int .i64 ch, .int .i64 off, .int .i64 num, .pointer sq, .int .u32 a, .int .u32 b, .int .u32 d] 69 (0, 0)) := by rw [← hw1, ← hr]; exact heap_alloc w _
  rw [hw1, hr]
  have HRB := Lw.hid hrb
  have r0 := heap_cell hrb 0; have r1 := heap_cell hrb 1; have r2 := heap_cell hrb 2; have r3 := heap_cell hrb 3; have r4 := heap_cell hrb 4; have r5 := heap_cell hrb 5; have r6 := heap_cell hrb 6; have r7 := heap_cell hrb 7; have r8 := heap_cell hrb 8; have r9 := heap_cell hrb 9
  have H1 := Lw.hid (H.out.kept K1.out (fun _ _ h => h))
  clear hw1 hr hrb
  refine (jopen_no w1 F j BL sp va J H1.out HN.out).mono ?_
  rintro e w2 ⟨rfl, rfl⟩
  go_wp2_with fail
  refine (right_raw w1 2 id t ch off num sq a b d (by unfold IsKind; decide)).mono ?_
  rw [hR]
  rintro e w2 ⟨rfl, k2⟩
  have KX := Lw.hid (K1.out.trans k2 (fun _ _ h => h))
  have s0 := k2.cell r0 (fun h => h); have s2 := k2.cell r2 (fun h => h)
  clear k2 r0 r1 r2 r3 r4 r5 r6 r7 r8 r9
  go_wp2_with fail
  go_ret
  exact ⟨by simp, KX.out⟩
set_option maxHeartbeats 4000000 in
theorem fits2_now (w : World) (F : Nat → Prop) (j BL sp : Nat) (va : Value) (J : Jr) (h : JAt w F j BL va sp J) (hn : J.opn = none) (id : Int) (t : List UInt8) (ch off num : Int) (sq : Option Addr) (a b d : Int)  (hR : rightB 2 ch num = false) :
    Calls Tryz.prog 67 #[.pointer (some ⟨j, 0, none⟩), rv 2 id t ch off num sq a b d] w fun e w' => e = .returned (.int .i64 1) ∧ Kept (fun _ => False) w w' := by
  unfold rv
  have hb := h.box
  have HB := Lw.hid hb
  have H := Lw.hid h
  have HN := Lw.hid hn
  clear h hn hb
  go_enter Tryz.func67, Tryz.ntmps67
  go_wp2_with fail
  obtain ⟨w1, hw1⟩ : ∃ w1, w.alloc (.cells #[.int .u8 2, .int .u32 id, .string (BA t), .int .i64 ch, .int .i64 off, .int .i64 num, .pointer sq, .int .u32 a, .int .u32 b, .int .u32 d] 69) = w1 := ⟨_, rfl⟩
  obtain ⟨r, hr⟩ : ∃ r, w.heap.size = r := ⟨_, rfl⟩
  have K1 : Hid (Kept (fun _ => False) w w1) := Lw.hid (by rw [← hw1]; exact (Kept.refl _ w).alloc _)
  have hrb : w1.heap[r]? = some (.cells #[.int .u8 2, .int .u32 id, .string (BA t), .int .i64 ch, .int .i64 off, .int .i64 num, .pointer sq, .int .u32 a, .int .u32 b, .int .u32 d] 69 (0, 0)) := by rw [← hw1, ← hr]; exact heap_alloc w _
  rw [hw1, hr]
  have HRB := Lw.hid hrb
  have r0 := heap_cell hrb 0; have r1 := heap_cell hrb 1; have r2 := heap_cell hrb 2; have r3 := heap_cell hrb 3; have r4 := heap_cell hrb 4; have r5 := heap_cell hrb 5; have r6 := heap_cell hrb 6; have r7 := heap_cell hrb 7; have r8 := heap_cell hrb 8; have r9 := heap_cell hrb 9
  have H1 := Lw.hid (H.out.kept K1.out (fun _ _ h => h))
  clear hw1 hr hrb
  refine (jopen_no w1 F j BL sp va J H1.out HN.out).mono ?_
  rintro e w2 ⟨rfl, rfl⟩
  go_wp2_with fail
  refine (right_raw w1 2 id t ch off num sq a b d (by unfold IsKind; decide)).mono ?_
  rw [hR]
  rintro e w2 ⟨rfl, k2⟩
  have KX := Lw.hid (K1.out.trans k2 (fun _ _ h => h))
  have s0 := k2.cell r0 (fun h => h); have s2 := k2.cell r2 (fun h => h)
  clear k2 r0 r1 r2 r3 r4 r5 r6 r7 r8 r9
  go_wp2_with fail
  go_ret
  exact ⟨by simp, KX.out⟩
set_option maxHeartbeats 4000000 in
theorem fits2_yese (w : World) (F : Nat → Prop) (j BL sp : Nat) (va : Value) (J : Jr) (h : JAt w F j BL va sp J) (cs : List Cmd) (c : Cmd) (hc : J.cs = cs ++ [c]) (ho : c.over = false) (id : Int) (t : List UInt8) (ch off num : Int) (sq : Option Addr) (a b d : Int)  (hR : rightB 2 ch num = true) (ht : t = []) :
    Calls Tryz.prog 67 #[.pointer (some ⟨j, 0, none⟩), rv 2 id t ch off num sq a b d] w fun e w' => e = .returned (.int .i64 3) ∧ Kept (fun _ => False) w w' := by
  have hne : (BA t == (⟨#[]⟩ : ByteArray)) = true := by rw [ht]; rfl
  have hne2 : t.isEmpty = true := by rw [ht]; rfl
  clear ht
  unfold rv
  have hb := h.box
  have HB := Lw.hid hb
  have H := Lw.hid h
  obtain ⟨b0, cap, rfl, hq1, hq2, hcl⟩ := h.cell hc
  have c2 := hcl 2 (by decide); have c3 := hcl 3 (by decide); have c4 := hcl 4 (by decide)
  simp only [Cmd.cells, List.getElem?_cons_zero, List.getElem?_cons_succ] at c2 c3 c4
  obtain ⟨n, hcn⟩ : ∃ n, cs.length = n := ⟨_, rfl⟩
  obtain ⟨sg, hsg⟩ : ∃ sg, c.sig = sg := ⟨_, rfl⟩
  have HC := Lw.hid hc; have HO := Lw.hid ho; have HCN := Lw.hid hcn; have HSG := Lw.hid hsg
  rw [hcn] at c2 c3 c4
  rw [hsg] at c4
  unfold maxLen at hq2
  clear h hc ho hcl hcn hb hsg
  go_enter Tryz.func67, Tryz.ntmps67
  go_wp2_with fail
  obtain ⟨w1, hw1⟩ : ∃ w1, w.alloc (.cells #[.int .u8 2, .int .u32 id, .string (BA t), .int .i64 ch, .int .i64 off, .int .i64 num, .pointer sq, .int .u32 a, .int .u32 b, .int .u32 d] 69) = w1 := ⟨_, rfl⟩
  obtain ⟨r, hr⟩ : ∃ r, w.heap.size = r := ⟨_, rfl⟩
  have K1 : Hid (Kept (fun _ => False) w w1) := Lw.hid (by rw [← hw1]; exact (Kept.refl _ w).alloc _)
  have hrb : w1.heap[r]? = some (.cells #[.int .u8 2, .int .u32 id, .string (BA t), .int .i64 ch, .int .i64 off, .int .i64 num, .pointer sq, .int .u32 a, .int .u32 b, .int .u32 d] 69 (0, 0)) := by rw [← hw1, ← hr]; exact heap_alloc w _
  rw [hw1, hr]
  have HRB := Lw.hid hrb
  have r0 := heap_cell hrb 0; have r1 := heap_cell hrb 1; have r2 := heap_cell hrb 2; have r3 := heap_cell hrb 3; have r4 := heap_cell hrb 4; have r5 := heap_cell hrb 5; have r6 := heap_cell hrb 6; have r7 := heap_cell hrb 7; have r8 := heap_cell hrb 8; have r9 := heap_cell hrb 9
  have H1 := Lw.hid (H.out.kept K1.out (fun _ _ h => h))
  clear hw1 hr hrb
  have d2 := K1.out.cell c2 (fun h => h); have d3 := K1.out.cell c3 (fun h => h); have d4 := K1.out.cell c4 (fun h => h)
  refine (jopen_yes w1 F j BL sp _ J H1.out cs c HC.out HO.out b0 cap (by rw [HCN.out])).mono ?_
  rw [HCN.out]
  rintro e w2 ⟨rfl, rfl⟩
  go_wp2_with fail
  refine (right_raw w1 2 id t ch off num sq a b d (by unfold IsKind; decide)).mono ?_
  rw [hR]
  rintro e w2 ⟨rfl, k2⟩
  have KX := Lw.hid (K1.out.trans k2 (fun _ _ h => h))
  have s0 := k2.cell r0 (fun h => h); have s2 := k2.cell r2 (fun h => h)
  have x2 := k2.cell d2 (fun h => h); have x3 := k2.cell d3 (fun h => h); have x4 := k2.cell d4 (fun h => h)
  clear k2 r0 r1 r2 r3 r4 r5 r6 r7 r8 r9
  go_wp2_with fail
  go_quiet (fail)
  go_wp2_with fail
  go_ret
  exact ⟨by simp, KX.out.trans (drewN_kept _ _) (fun _ _ h => h)⟩
set_option maxHeartbeats 4000000 in
theorem fits2_yesr (w : World) (F : Nat → Prop) (j BL sp : Nat) (va : Value) (J : Jr) (h : JAt w F j BL va sp J) (cs : List Cmd) (c : Cmd) (hc : J.cs = cs ++ [c]) (ho : c.over = false) (id : Int) (t : List UInt8) (ch off num : Int) (sq : Option Addr) (a b d : Int)  (hR : rightB 2 ch num = true) (ht : t ≠ []) (hl : t.length ≤ 60) (hl2 : c.out.length + c.err.length ≤ 60000) :
    Calls Tryz.prog 67 #[.pointer (some ⟨j, 0, none⟩), rv 2 id t ch off num sq a b d] w fun e w' => e = .returned (.int .i64 0) ∧ Kept (fun _ => False) w w' := by
  have hne := BA_ne_nil ht
  have hbl : (BA t).size ≤ 60 := by rw [BA_size]; exact hl
  have hbo : (BA c.out).size + (BA c.err).size ≤ 60000 := by rw [BA_size, BA_size]; exact hl2
  have hb5 : decide (4096 < ((BA t).size : Int)) = false := by simp; omega
  have hb6 : decide (65536 < ((BA c.out).size : Int) + ((BA c.err).size : Int) + ((BA t).size : Int)) = false := by simp; omega
  have hne2 : t.isEmpty = false := by cases t with
    | nil => exact absurd rfl ht
    | cons c t => rfl
  clear ht hl hl2
  unfold rv
  have hb := h.box
  have HB := Lw.hid hb
  have H := Lw.hid h
  obtain ⟨b0, cap, rfl, hq1, hq2, hcl⟩ := h.cell hc
  have c2 := hcl 2 (by decide); have c3 := hcl 3 (by decide); have c4 := hcl 4 (by decide)
  simp only [Cmd.cells, List.getElem?_cons_zero, List.getElem?_cons_succ] at c2 c3 c4
  obtain ⟨n, hcn⟩ : ∃ n, cs.length = n := ⟨_, rfl⟩
  obtain ⟨sg, hsg⟩ : ∃ sg, c.sig = sg := ⟨_, rfl⟩
  have HC := Lw.hid hc; have HO := Lw.hid ho; have HCN := Lw.hid hcn; have HSG := Lw.hid hsg
  rw [hcn] at c2 c3 c4
  rw [hsg] at c4
  unfold maxLen at hq2
  clear h hc ho hcl hcn hb hsg
  go_enter Tryz.func67, Tryz.ntmps67
  go_wp2_with fail
  obtain ⟨w1, hw1⟩ : ∃ w1, w.alloc (.cells #[.int .u8 2, .int .u32 id, .string (BA t), .int .i64 ch, .int .i64 off, .int .i64 num, .pointer sq, .int .u32 a, .int .u32 b, .int .u32 d] 69) = w1 := ⟨_, rfl⟩
  obtain ⟨r, hr⟩ : ∃ r, w.heap.size = r := ⟨_, rfl⟩
  have K1 : Hid (Kept (fun _ => False) w w1) := Lw.hid (by rw [← hw1]; exact (Kept.refl _ w).alloc _)
  have hrb : w1.heap[r]? = some (.cells #[.int .u8 2, .int .u32 id, .string (BA t), .int .i64 ch, .int .i64 off, .int .i64 num, .pointer sq, .int .u32 a, .int .u32 b, .int .u32 d] 69 (0, 0)) := by rw [← hw1, ← hr]; exact heap_alloc w _
  rw [hw1, hr]
  have HRB := Lw.hid hrb
  have r0 := heap_cell hrb 0; have r1 := heap_cell hrb 1; have r2 := heap_cell hrb 2; have r3 := heap_cell hrb 3; have r4 := heap_cell hrb 4; have r5 := heap_cell hrb 5; have r6 := heap_cell hrb 6; have r7 := heap_cell hrb 7; have r8 := heap_cell hrb 8; have r9 := heap_cell hrb 9
  have H1 := Lw.hid (H.out.kept K1.out (fun _ _ h => h))
  clear hw1 hr hrb
  have d2 := K1.out.cell c2 (fun h => h); have d3 := K1.out.cell c3 (fun h => h); have d4 := K1.out.cell c4 (fun h => h)
  refine (jopen_yes w1 F j BL sp _ J H1.out cs c HC.out HO.out b0 cap (by rw [HCN.out])).mono ?_
  rw [HCN.out]
  rintro e w2 ⟨rfl, rfl⟩
  go_wp2_with fail
  refine (right_raw w1 2 id t ch off num sq a b d (by unfold IsKind; decide)).mono ?_
  rw [hR]
  rintro e w2 ⟨rfl, k2⟩
  have KX := Lw.hid (K1.out.trans k2 (fun _ _ h => h))
  have s0 := k2.cell r0 (fun h => h); have s2 := k2.cell r2 (fun h => h)
  have x2 := k2.cell d2 (fun h => h); have x3 := k2.cell d3 (fun h => h); have x4 := k2.cell d4 (fun h => h)
  clear k2 r0 r1 r2 r3 r4 r5 r6 r7 r8 r9
  go_wp2_with fail
  go_quiet (fail)
  go_wp2_with fail
  go_ret
  exact ⟨by simp, KX.out.trans (drewN_kept _ _) (fun _ _ h => h)⟩
set_option maxHeartbeats 4000000 in
theorem fits2_yesw (w : World) (F : Nat → Prop) (j BL sp : Nat) (va : Value) (J : Jr) (h : JAt w F j BL va sp J) (cs : List Cmd) (c : Cmd) (hc : J.cs = cs ++ [c]) (ho : c.over = false) (id : Int) (t : List UInt8) (ch off num : Int) (sq : Option Addr) (a b d : Int)  (hR : rightB 2 ch num = false) :
    Calls Tryz.prog 67 #[.pointer (some ⟨j, 0, none⟩), rv 2 id t ch off num sq a b d] w fun e w' => e = .returned (.int .i64 1) ∧ Kept (fun _ => False) w w' := by
  unfold rv
  have hb := h.box
  have HB := Lw.hid hb
  have H := Lw.hid h
  obtain ⟨b0, cap, rfl, hq1, hq2, hcl⟩ := h.cell hc
  have c2 := hcl 2 (by decide); have c3 := hcl 3 (by decide); have c4 := hcl 4 (by decide)
  simp only [Cmd.cells, List.getElem?_cons_zero, List.getElem?_cons_succ] at c2 c3 c4
  obtain ⟨n, hcn⟩ : ∃ n, cs.length = n := ⟨_, rfl⟩
  obtain ⟨sg, hsg⟩ : ∃ sg, c.sig = sg := ⟨_, rfl⟩
  have HC := Lw.hid hc; have HO := Lw.hid ho; have HCN := Lw.hid hcn; have HSG := Lw.hid hsg
  rw [hcn] at c2 c3 c4
  rw [hsg] at c4
  unfold maxLen at hq2
  clear h hc ho hcl hcn hb hsg
  go_enter Tryz.func67, Tryz.ntmps67
  go_wp2_with fail
  obtain ⟨w1, hw1⟩ : ∃ w1, w.alloc (.cells #[.int .u8 2, .int .u32 id, .string (BA t), .int .i64 ch, .int .i64 off, .int .i64 num, .pointer sq, .int .u32 a, .int .u32 b, .int .u32 d] 69) = w1 := ⟨_, rfl⟩
  obtain ⟨r, hr⟩ : ∃ r, w.heap.size = r := ⟨_, rfl⟩
  have K1 : Hid (Kept (fun _ => False) w w1) := Lw.hid (by rw [← hw1]; exact (Kept.refl _ w).alloc _)
  have hrb : w1.heap[r]? = some (.cells #[.int .u8 2, .int .u32 id, .string (BA t), .int .i64 ch, .int .i64 off, .int .i64 num, .pointer sq, .int .u32 a, .int .u32 b, .int .u32 d] 69 (0, 0)) := by rw [← hw1, ← hr]; exact heap_alloc w _
  rw [hw1, hr]
  have HRB := Lw.hid hrb
  have r0 := heap_cell hrb 0; have r1 := heap_cell hrb 1; have r2 := heap_cell hrb 2; have r3 := heap_cell hrb 3; have r4 := heap_cell hrb 4; have r5 := heap_cell hrb 5; have r6 := heap_cell hrb 6; have r7 := heap_cell hrb 7; have r8 := heap_cell hrb 8; have r9 := heap_cell hrb 9
  have H1 := Lw.hid (H.out.kept K1.out (fun _ _ h => h))
  clear hw1 hr hrb
  have d2 := K1.out.cell c2 (fun h => h); have d3 := K1.out.cell c3 (fun h => h); have d4 := K1.out.cell c4 (fun h => h)
  refine (jopen_yes w1 F j BL sp _ J H1.out cs c HC.out HO.out b0 cap (by rw [HCN.out])).mono ?_
  rw [HCN.out]
  rintro e w2 ⟨rfl, rfl⟩
  go_wp2_with fail
  refine (right_raw w1 2 id t ch off num sq a b d (by unfold IsKind; decide)).mono ?_
  rw [hR]
  rintro e w2 ⟨rfl, k2⟩
  have KX := Lw.hid (K1.out.trans k2 (fun _ _ h => h))
  have s0 := k2.cell r0 (fun h => h); have s2 := k2.cell r2 (fun h => h)
  have x2 := k2.cell d2 (fun h => h); have x3 := k2.cell d3 (fun h => h); have x4 := k2.cell d4 (fun h => h)
  clear k2 r0 r1 r2 r3 r4 r5 r6 r7 r8 r9
  go_wp2_with fail
  go_ret
  exact ⟨by simp, KX.out⟩
set_option maxHeartbeats 4000000 in
theorem fits3_nor (w : World) (F : Nat → Prop) (j BL sp : Nat) (va : Value) (J : Jr) (h : JAt w F j BL va sp J) (hn : J.opn = none) (id : Int) (t : List UInt8) (ch off num : Int) (sq : Option Addr) (a b d : Int)  (hR : rightB 3 ch num = true) :
    Calls Tryz.prog 67 #[.pointer (some ⟨j, 0, none⟩), rv 3 id t ch off num sq a b d] w fun e w' => e = .returned (.int .i64 10) ∧ Kept (fun _ => False) w w' := by
  unfold rv
  have hb := h.box
  have HB := Lw.hid hb
  have H := Lw.hid h
  have HN := Lw.hid hn
  clear h hn hb
  go_enter Tryz.func67, Tryz.ntmps67
  go_wp2_with fail
  obtain ⟨w1, hw1⟩ : ∃ w1, w.alloc (.cells #[.int .u8 3, .int .u32 id, .string (BA t), .int .i64 ch, .int .i64 off, .int .i64 num, .pointer sq, .int .u32 a, .int .u32 b, .int .u32 d] 69) = w1 := ⟨_, rfl⟩
  obtain ⟨r, hr⟩ : ∃ r, w.heap.size = r := ⟨_, rfl⟩
  have K1 : Hid (Kept (fun _ => False) w w1) := Lw.hid (by rw [← hw1]; exact (Kept.refl _ w).alloc _)
  have hrb : w1.heap[r]? = some (.cells #[.int .u8 3, .int .u32 id, .string (BA t), .int .i64 ch, .int .i64 off, .int .i64 num, .pointer sq, .int .u32 a, .int .u32 b, .int .u32 d] 69 (0, 0)) := by rw [← hw1, ← hr]; exact heap_alloc w _
  rw [hw1, hr]
  have HRB := Lw.hid hrb
  have r0 := heap_cell hrb 0; have r1 := heap_cell hrb 1; have r2 := heap_cell hrb 2; have r3 := heap_cell hrb 3; have r4 := heap_cell hrb 4; have r5 := heap_cell hrb 5; have r6 := heap_cell hrb 6; have r7 := heap_cell hrb 7; have r8 := heap_cell hrb 8; have r9 := heap_cell hrb 9
  have H1 := Lw.hid (H.out.kept K1.out (fun _ _ h => h))
  clear hw1 hr hrb
  refine (jopen_no w1 F j BL sp va J H1.out HN.out).mono ?_
  rintro e w2 ⟨rfl, rfl⟩
  go_wp2_with fail
  refine (right_raw w1 3 id t ch off num sq a b d (by unfold IsKind; decide)).mono ?_
  rw [hR]
  rintro e w2 ⟨rfl, k2⟩
  have KX := Lw.hid (K1.out.trans k2 (fun _ _ h => h))
  have s0 := k2.cell r0 (fun h => h); have s2 := k2.cell r2 (fun h => h)
  clear k2 r0 r1 r2 r3 r4 r5 r6 r7 r8 r9
  go_wp2_with fail
  go_ret
  exact ⟨by simp, KX.out⟩
set_option maxHeartbeats 4000000 in
theorem fits3_now (w : World) (F : Nat → Prop) (j BL sp : Nat) (va : Value) (J : Jr) (h : JAt w F j BL va sp J) (hn : J.opn = none) (id : Int) (t : List UInt8) (ch off num : Int) (sq : Option Addr) (a b d : Int)  (hR : rightB 3 ch num = false) :
    Calls Tryz.prog 67 #[.pointer (some ⟨j, 0, none⟩), rv 3 id t ch off num sq a b d] w fun e w' => e = .returned (.int .i64 1) ∧ Kept (fun _ => False) w w' := by
  unfold rv
  have hb := h.box
  have HB := Lw.hid hb
  have H := Lw.hid h
  have HN := Lw.hid hn
  clear h hn hb
  go_enter Tryz.func67, Tryz.ntmps67
  go_wp2_with fail
  obtain ⟨w1, hw1⟩ : ∃ w1, w.alloc (.cells #[.int .u8 3, .int .u32 id, .string (BA t), .int .i64 ch, .int .i64 off, .int .i64 num, .pointer sq, .int .u32 a, .int .u32 b, .int .u32 d] 69) = w1 := ⟨_, rfl⟩
  obtain ⟨r, hr⟩ : ∃ r, w.heap.size = r := ⟨_, rfl⟩
  have K1 : Hid (Kept (fun _ => False) w w1) := Lw.hid (by rw [← hw1]; exact (Kept.refl _ w).alloc _)
  have hrb : w1.heap[r]? = some (.cells #[.int .u8 3, .int .u32 id, .string (BA t), .int .i64 ch, .int .i64 off, .int .i64 num, .pointer sq, .int .u32 a, .int .u32 b, .int .u32 d] 69 (0, 0)) := by rw [← hw1, ← hr]; exact heap_alloc w _
  rw [hw1, hr]
  have HRB := Lw.hid hrb
  have r0 := heap_cell hrb 0; have r1 := heap_cell hrb 1; have r2 := heap_cell hrb 2; have r3 := heap_cell hrb 3; have r4 := heap_cell hrb 4; have r5 := heap_cell hrb 5; have r6 := heap_cell hrb 6; have r7 := heap_cell hrb 7; have r8 := heap_cell hrb 8; have r9 := heap_cell hrb 9
  have H1 := Lw.hid (H.out.kept K1.out (fun _ _ h => h))
  clear hw1 hr hrb
  refine (jopen_no w1 F j BL sp va J H1.out HN.out).mono ?_
  rintro e w2 ⟨rfl, rfl⟩
  go_wp2_with fail
  refine (right_raw w1 3 id t ch off num sq a b d (by unfold IsKind; decide)).mono ?_
  rw [hR]
  rintro e w2 ⟨rfl, k2⟩
  have KX := Lw.hid (K1.out.trans k2 (fun _ _ h => h))
  have s0 := k2.cell r0 (fun h => h); have s2 := k2.cell r2 (fun h => h)
  clear k2 r0 r1 r2 r3 r4 r5 r6 r7 r8 r9
  go_wp2_with fail
  go_ret
  exact ⟨by simp, KX.out⟩
set_option maxHeartbeats 4000000 in
theorem fits3_yesr (w : World) (F : Nat → Prop) (j BL sp : Nat) (va : Value) (J : Jr) (h : JAt w F j BL va sp J) (cs : List Cmd) (c : Cmd) (hc : J.cs = cs ++ [c]) (ho : c.over = false) (id : Int) (t : List UInt8) (ch off num : Int) (sq : Option Addr) (a b d : Int)  (hR : rightB 3 ch num = true) (hs : c.sig = -1) :
    Calls Tryz.prog 67 #[.pointer (some ⟨j, 0, none⟩), rv 3 id t ch off num sq a b d] w fun e w' => e = .returned (.int .i64 0) ∧ Kept (fun _ => False) w w' := by
  have HS : Hid (c.sig = -1) := Lw.hid hs
  clear hs
  unfold rv
  have hb := h.box
  have HB := Lw.hid hb
  have H := Lw.hid h
  obtain ⟨b0, cap, rfl, hq1, hq2, hcl⟩ := h.cell hc
  have c2 := hcl 2 (by decide); have c3 := hcl 3 (by decide); have c4 := hcl 4 (by decide)
  simp only [Cmd.cells, List.getElem?_cons_zero, List.getElem?_cons_succ] at c2 c3 c4
  obtain ⟨n, hcn⟩ : ∃ n, cs.length = n := ⟨_, rfl⟩
  obtain ⟨sg, hsg⟩ : ∃ sg, c.sig = sg := ⟨_, rfl⟩
  have HC := Lw.hid hc; have HO := Lw.hid ho; have HCN := Lw.hid hcn; have HSG := Lw.hid hsg
  rw [hcn] at c2 c3 c4
  rw [hsg] at c4
  unfold maxLen at hq2
  clear h hc ho hcl hcn hb hsg
  obtain rfl : sg = -1 := by rw [← HSG.out]; exact HS.out
  go_enter Tryz.func67, Tryz.ntmps67
  go_wp2_with fail
  obtain ⟨w1, hw1⟩ : ∃ w1, w.alloc (.cells #[.int .u8 3, .int .u32 id, .string (BA t), .int .i64 ch, .int .i64 off, .int .i64 num, .pointer sq, .int .u32 a, .int .u32 b, .int .u32 d] 69) = w1 := ⟨_, rfl⟩
  obtain ⟨r, hr⟩ : ∃ r, w.heap.size = r := ⟨_, rfl⟩
  have K1 : Hid (Kept (fun _ => False) w w1) := Lw.hid (by rw [← hw1]; exact (Kept.refl _ w).alloc _)
  have hrb : w1.heap[r]? = some (.cells #[.int .u8 3, .int .u32 id, .string (BA t), .int .i64 ch, .int .i64 off, .int .i64 num, .pointer sq, .int .u32 a, .int .u32 b, .int .u32 d] 69 (0, 0)) := by rw [← hw1, ← hr]; exact heap_alloc w _
  rw [hw1, hr]
  have HRB := Lw.hid hrb
  have r0 := heap_cell hrb 0; have r1 := heap_cell hrb 1; have r2 := heap_cell hrb 2; have r3 := heap_cell hrb 3; have r4 := heap_cell hrb 4; have r5 := heap_cell hrb 5; have r6 := heap_cell hrb 6; have r7 := heap_cell hrb 7; have r8 := heap_cell hrb 8; have r9 := heap_cell hrb 9
  have H1 := Lw.hid (H.out.kept K1.out (fun _ _ h => h))
  clear hw1 hr hrb
  have d2 := K1.out.cell c2 (fun h => h); have d3 := K1.out.cell c3 (fun h => h); have d4 := K1.out.cell c4 (fun h => h)
  refine (jopen_yes w1 F j BL sp _ J H1.out cs c HC.out HO.out b0 cap (by rw [HCN.out])).mono ?_
  rw [HCN.out]
  rintro e w2 ⟨rfl, rfl⟩
  go_wp2_with fail
  refine (right_raw w1 3 id t ch off num sq a b d (by unfold IsKind; decide)).mono ?_
  rw [hR]
  rintro e w2 ⟨rfl, k2⟩
  have KX := Lw.hid (K1.out.trans k2 (fun _ _ h => h))
  have s0 := k2.cell r0 (fun h => h); have s2 := k2.cell r2 (fun h => h)
  have x2 := k2.cell d2 (fun h => h); have x3 := k2.cell d3 (fun h => h); have x4 := k2.cell d4 (fun h => h)
  clear k2 r0 r1 r2 r3 r4 r5 r6 r7 r8 r9
  go_wp2_with fail
  go_quiet (fail)
  go_wp2_with fail
  go_ret
  exact ⟨by simp, KX.out.trans (drewN_kept _ _) (fun _ _ h => h)⟩
set_option maxHeartbeats 4000000 in
theorem fits3_yess (w : World) (F : Nat → Prop) (j BL sp : Nat) (va : Value) (J : Jr) (h : JAt w F j BL va sp J) (cs : List Cmd) (c : Cmd) (hc : J.cs = cs ++ [c]) (ho : c.over = false) (id : Int) (t : List UInt8) (ch off num : Int) (sq : Option Addr) (a b d : Int)  (hR : rightB 3 ch num = true) (hs : c.sig ≠ -1) :
    Calls Tryz.prog 67 #[.pointer (some ⟨j, 0, none⟩), rv 3 id t ch off num sq a b d] w fun e w' => e = .returned (.int .i64 10) ∧ Kept (fun _ => False) w w' := by
  have HS : Hid (c.sig ≠ -1) := Lw.hid hs
  clear hs
  unfold rv
  have hb := h.box
  have HB := Lw.hid hb
  have H := Lw.hid h
  obtain ⟨b0, cap, rfl, hq1, hq2, hcl⟩ := h.cell hc
  have c2 := hcl 2 (by decide); have c3 := hcl 3 (by decide); have c4 := hcl 4 (by decide)
  simp only [Cmd.cells, List.getElem?_cons_zero, List.getElem?_cons_succ] at c2 c3 c4
  obtain ⟨n, hcn⟩ : ∃ n, cs.length = n := ⟨_, rfl⟩
  obtain ⟨sg, hsg⟩ : ∃ sg, c.sig = sg := ⟨_, rfl⟩
  have HC := Lw.hid hc; have HO := Lw.hid ho; have HCN := Lw.hid hcn; have HSG := Lw.hid hsg
  rw [hcn] at c2 c3 c4
  rw [hsg] at c4
  unfold maxLen at hq2
  clear h hc ho hcl hcn hb hsg
  have hsn : (sg == -1) = false := by rw [beq_eq_false_iff_ne, ← HSG.out]; exact HS.out
  have hsn' : (sg != -1) = true := by rw [bne_iff_ne, ← HSG.out]; exact HS.out
  go_enter Tryz.func67, Tryz.ntmps67
  go_wp2_with fail
  obtain ⟨w1, hw1⟩ : ∃ w1, w.alloc (.cells #[.int .u8 3, .int .u32 id, .string (BA t), .int .i64 ch, .int .i64 off, .int .i64 num, .pointer sq, .int .u32 a, .int .u32 b, .int .u32 d] 69) = w1 := ⟨_, rfl⟩
  obtain ⟨r, hr⟩ : ∃ r, w.heap.size = r := ⟨_, rfl⟩
  have K1 : Hid (Kept (fun _ => False) w w1) := Lw.hid (by rw [← hw1]; exact (Kept.refl _ w).alloc _)
  have hrb : w1.heap[r]? = some (.cells #[.int .u8 3, .int .u32 id, .string (BA t), .int .i64 ch, .int .i64 off, .int .i64 num, .pointer sq, .int .u32 a, .int .u32 b, .int .u32 d] 69 (0, 0)) := by rw [← hw1, ← hr]; exact heap_alloc w _
  rw [hw1, hr]
  have HRB := Lw.hid hrb
  have r0 := heap_cell hrb 0; have r1 := heap_cell hrb 1; have r2 := heap_cell hrb 2; have r3 := heap_cell hrb 3; have r4 := heap_cell hrb 4; have r5 := heap_cell hrb 5; have r6 := heap_cell hrb 6; have r7 := heap_cell hrb 7; have r8 := heap_cell hrb 8; have r9 := heap_cell hrb 9
  have H1 := Lw.hid (H.out.kept K1.out (fun _ _ h => h))
  clear hw1 hr hrb
  have d2 := K1.out.cell c2 (fun h => h); have d3 := K1.out.cell c3 (fun h => h); have d4 := K1.out.cell c4 (fun h => h)
  refine (jopen_yes w1 F j BL sp _ J H1.out cs c HC.out HO.out b0 cap (by rw [HCN.out])).mono ?_
  rw [HCN.out]
  rintro e w2 ⟨rfl, rfl⟩
  go_wp2_with fail
  refine (right_raw w1 3 id t ch off num sq a b d (by unfold IsKind; decide)).mono ?_
  rw [hR]
  rintro e w2 ⟨rfl, k2⟩
  have KX := Lw.hid (K1.out.trans k2 (fun _ _ h => h))
  have s0 := k2.cell r0 (fun h => h); have s2 := k2.cell r2 (fun h => h)
  have x2 := k2.cell d2 (fun h => h); have x3 := k2.cell d3 (fun h => h); have x4 := k2.cell d4 (fun h => h)
  clear k2 r0 r1 r2 r3 r4 r5 r6 r7 r8 r9
  go_wp2_with fail
  go_ret
  exact ⟨by simp, KX.out⟩
set_option maxHeartbeats 4000000 in
theorem fits3_yesw (w : World) (F : Nat → Prop) (j BL sp : Nat) (va : Value) (J : Jr) (h : JAt w F j BL va sp J) (cs : List Cmd) (c : Cmd) (hc : J.cs = cs ++ [c]) (ho : c.over = false) (id : Int) (t : List UInt8) (ch off num : Int) (sq : Option Addr) (a b d : Int)  (hR : rightB 3 ch num = false) :
    Calls Tryz.prog 67 #[.pointer (some ⟨j, 0, none⟩), rv 3 id t ch off num sq a b d] w fun e w' => e = .returned (.int .i64 1) ∧ Kept (fun _ => False) w w' := by
  unfold rv
  have hb := h.box
  have HB := Lw.hid hb
  have H := Lw.hid h
  obtain ⟨b0, cap, rfl, hq1, hq2, hcl⟩ := h.cell hc
  have c2 := hcl 2 (by decide); have c3 := hcl 3 (by decide); have c4 := hcl 4 (by decide)
  simp only [Cmd.cells, List.getElem?_cons_zero, List.getElem?_cons_succ] at c2 c3 c4
  obtain ⟨n, hcn⟩ : ∃ n, cs.length = n := ⟨_, rfl⟩
  obtain ⟨sg, hsg⟩ : ∃ sg, c.sig = sg := ⟨_, rfl⟩
  have HC := Lw.hid hc; have HO := Lw.hid ho; have HCN := Lw.hid hcn; have HSG := Lw.hid hsg
  rw [hcn] at c2 c3 c4
  rw [hsg] at c4
  unfold maxLen at hq2
  clear h hc ho hcl hcn hb hsg
  go_enter Tryz.func67, Tryz.ntmps67
  go_wp2_with fail
  obtain ⟨w1, hw1⟩ : ∃ w1, w.alloc (.cells #[.int .u8 3, .int .u32 id, .string (BA t), .int .i64 ch, .int .i64 off, .int .i64 num, .pointer sq, .int .u32 a, .int .u32 b, .int .u32 d] 69) = w1 := ⟨_, rfl⟩
  obtain ⟨r, hr⟩ : ∃ r, w.heap.size = r := ⟨_, rfl⟩
  have K1 : Hid (Kept (fun _ => False) w w1) := Lw.hid (by rw [← hw1]; exact (Kept.refl _ w).alloc _)
  have hrb : w1.heap[r]? = some (.cells #[.int .u8 3, .int .u32 id, .string (BA t), .int .i64 ch, .int .i64 off, .int .i64 num, .pointer sq, .int .u32 a, .int .u32 b, .int .u32 d] 69 (0, 0)) := by rw [← hw1, ← hr]; exact heap_alloc w _
  rw [hw1, hr]
  have HRB := Lw.hid hrb
  have r0 := heap_cell hrb 0; have r1 := heap_cell hrb 1; have r2 := heap_cell hrb 2; have r3 := heap_cell hrb 3; have r4 := heap_cell hrb 4; have r5 := heap_cell hrb 5; have r6 := heap_cell hrb 6; have r7 := heap_cell hrb 7; have r8 := heap_cell hrb 8; have r9 := heap_cell hrb 9
  have H1 := Lw.hid (H.out.kept K1.out (fun _ _ h => h))
  clear hw1 hr hrb
  have d2 := K1.out.cell c2 (fun h => h); have d3 := K1.out.cell c3 (fun h => h); have d4 := K1.out.cell c4 (fun h => h)
  refine (jopen_yes w1 F j BL sp _ J H1.out cs c HC.out HO.out b0 cap (by rw [HCN.out])).mono ?_
  rw [HCN.out]
  rintro e w2 ⟨rfl, rfl⟩
  go_wp2_with fail
  refine (right_raw w1 3 id t ch off num sq a b d (by unfold IsKind; decide)).mono ?_
  rw [hR]
  rintro e w2 ⟨rfl, k2⟩
  have KX := Lw.hid (K1.out.trans k2 (fun _ _ h => h))
  have s0 := k2.cell r0 (fun h => h); have s2 := k2.cell r2 (fun h => h)
  have x2 := k2.cell d2 (fun h => h); have x3 := k2.cell d3 (fun h => h); have x4 := k2.cell d4 (fun h => h)
  clear k2 r0 r1 r2 r3 r4 r5 r6 r7 r8 r9
  go_wp2_with fail
  go_ret
  exact ⟨by simp, KX.out⟩
set_option maxHeartbeats 4000000 in
theorem fits4_nor (w : World) (F : Nat → Prop) (j BL sp : Nat) (va : Value) (J : Jr) (h : JAt w F j BL va sp J) (hn : J.opn = none) (id : Int) (t : List UInt8) (ch off num : Int) (sq : Option Addr) (a b d : Int)  (hR : rightB 4 ch num = true) :
    Calls Tryz.prog 67 #[.pointer (some ⟨j, 0, none⟩), rv 4 id t ch off num sq a b d] w fun e w' => e = .returned (.int .i64 10) ∧ Kept (fun _ => False) w w' := by
  unfold rv
  have hb := h.box
  have HB := Lw.hid hb
  have H := Lw.hid h
  have HN := Lw.hid hn
  clear h hn hb
  go_enter Tryz.func67, Tryz.ntmps67
  go_wp2_with fail
  obtain ⟨w1, hw1⟩ : ∃ w1, w.alloc (.cells #[.int .u8 4, .int .u32 id, .string (BA t), .int .i64 ch, .int .i64 off, .int .i64 num, .pointer sq, .int .u32 a, .int .u32 b, .int .u32 d] 69) = w1 := ⟨_, rfl⟩
  obtain ⟨r, hr⟩ : ∃ r, w.heap.size = r := ⟨_, rfl⟩
  have K1 : Hid (Kept (fun _ => False) w w1) := Lw.hid (by rw [← hw1]; exact (Kept.refl _ w).alloc _)
  have hrb : w1.heap[r]? = some (.cells #[.int .u8 4, .int .u32 id, .string (BA t), .int .i64 ch, .int .i64 off, .int .i64 num, .pointer sq, .int .u32 a, .int .u32 b, .int .u32 d] 69 (0, 0)) := by rw [← hw1, ← hr]; exact heap_alloc w _
  rw [hw1, hr]
  have HRB := Lw.hid hrb
  have r0 := heap_cell hrb 0; have r1 := heap_cell hrb 1; have r2 := heap_cell hrb 2; have r3 := heap_cell hrb 3; have r4 := heap_cell hrb 4; have r5 := heap_cell hrb 5; have r6 := heap_cell hrb 6; have r7 := heap_cell hrb 7; have r8 := heap_cell hrb 8; have r9 := heap_cell hrb 9
  have H1 := Lw.hid (H.out.kept K1.out (fun _ _ h => h))
  clear hw1 hr hrb
  refine (jopen_no w1 F j BL sp va J H1.out HN.out).mono ?_
  rintro e w2 ⟨rfl, rfl⟩
  go_wp2_with fail
  refine (right_raw w1 4 id t ch off num sq a b d (by unfold IsKind; decide)).mono ?_
  rw [hR]
  rintro e w2 ⟨rfl, k2⟩
  have KX := Lw.hid (K1.out.trans k2 (fun _ _ h => h))
  have s0 := k2.cell r0 (fun h => h); have s2 := k2.cell r2 (fun h => h)
  clear k2 r0 r1 r2 r3 r4 r5 r6 r7 r8 r9
  go_wp2_with fail
  go_ret
  exact ⟨by simp, KX.out⟩
set_option maxHeartbeats 4000000 in
theorem fits4_now (w : World) (F : Nat → Prop) (j BL sp : Nat) (va : Value) (J : Jr) (h : JAt w F j BL va sp J) (hn : J.opn = none) (id : Int) (t : List UInt8) (ch off num : Int) (sq : Option Addr) (a b d : Int)  (hR : rightB 4 ch num = false) :
    Calls Tryz.prog 67 #[.pointer (some ⟨j, 0, none⟩), rv 4 id t ch off num sq a b d] w fun e w' => e = .returned (.int .i64 1) ∧ Kept (fun _ => False) w w' := by
  unfold rv
  have hb := h.box
  have HB := Lw.hid hb
  have H := Lw.hid h
  have HN := Lw.hid hn
  clear h hn hb
  go_enter Tryz.func67, Tryz.ntmps67
  go_wp2_with fail
  obtain ⟨w1, hw1⟩ : ∃ w1, w.alloc (.cells #[.int .u8 4, .int .u32 id, .string (BA t), .int .i64 ch, .int .i64 off, .int .i64 num, .pointer sq, .int .u32 a, .int .u32 b, .int .u32 d] 69) = w1 := ⟨_, rfl⟩
  obtain ⟨r, hr⟩ : ∃ r, w.heap.size = r := ⟨_, rfl⟩
  have K1 : Hid (Kept (fun _ => False) w w1) := Lw.hid (by rw [← hw1]; exact (Kept.refl _ w).alloc _)
  have hrb : w1.heap[r]? = some (.cells #[.int .u8 4, .int .u32 id, .string (BA t), .int .i64 ch, .int .i64 off, .int .i64 num, .pointer sq, .int .u32 a, .int .u32 b, .int .u32 d] 69 (0, 0)) := by rw [← hw1, ← hr]; exact heap_alloc w _
  rw [hw1, hr]
  have HRB := Lw.hid hrb
  have r0 := heap_cell hrb 0; have r1 := heap_cell hrb 1; have r2 := heap_cell hrb 2; have r3 := heap_cell hrb 3; have r4 := heap_cell hrb 4; have r5 := heap_cell hrb 5; have r6 := heap_cell hrb 6; have r7 := heap_cell hrb 7; have r8 := heap_cell hrb 8; have r9 := heap_cell hrb 9
  have H1 := Lw.hid (H.out.kept K1.out (fun _ _ h => h))
  clear hw1 hr hrb
  refine (jopen_no w1 F j BL sp va J H1.out HN.out).mono ?_
  rintro e w2 ⟨rfl, rfl⟩
  go_wp2_with fail
  refine (right_raw w1 4 id t ch off num sq a b d (by unfold IsKind; decide)).mono ?_
  rw [hR]
  rintro e w2 ⟨rfl, k2⟩
  have KX := Lw.hid (K1.out.trans k2 (fun _ _ h => h))
  have s0 := k2.cell r0 (fun h => h); have s2 := k2.cell r2 (fun h => h)
  clear k2 r0 r1 r2 r3 r4 r5 r6 r7 r8 r9
  go_wp2_with fail
  go_ret
  exact ⟨by simp, KX.out⟩
set_option maxHeartbeats 4000000 in
theorem fits4_yesr (w : World) (F : Nat → Prop) (j BL sp : Nat) (va : Value) (J : Jr) (h : JAt w F j BL va sp J) (cs : List Cmd) (c : Cmd) (hc : J.cs = cs ++ [c]) (ho : c.over = false) (id : Int) (t : List UInt8) (ch off num : Int) (sq : Option Addr) (a b d : Int)  (hR : rightB 4 ch num = true) :
    Calls Tryz.prog 67 #[.pointer (some ⟨j, 0, none⟩), rv 4 id t ch off num sq a b d] w fun e w' => e = .returned (.int .i64 0) ∧ Kept (fun _ => False) w w' := by
  unfold rv
  have hb := h.box
  have HB := Lw.hid hb
  have H := Lw.hid h
  obtain ⟨b0, cap, rfl, hq1, hq2, hcl⟩ := h.cell hc
  have c2 := hcl 2 (by decide); have c3 := hcl 3 (by decide); have c4 := hcl 4 (by decide)
  simp only [Cmd.cells, List.getElem?_cons_zero, List.getElem?_cons_succ] at c2 c3 c4
  obtain ⟨n, hcn⟩ : ∃ n, cs.length = n := ⟨_, rfl⟩
  obtain ⟨sg, hsg⟩ : ∃ sg, c.sig = sg := ⟨_, rfl⟩
  have HC := Lw.hid hc; have HO := Lw.hid ho; have HCN := Lw.hid hcn; have HSG := Lw.hid hsg
  rw [hcn] at c2 c3 c4
  rw [hsg] at c4
  unfold maxLen at hq2
  clear h hc ho hcl hcn hb hsg
  go_enter Tryz.func67, Tryz.ntmps67
  go_wp2_with fail
  obtain ⟨w1, hw1⟩ : ∃ w1, w.alloc (.cells #[.int .u8 4, .int .u32 id, .string (BA t), .int .i64 ch, .int .i64 off, .int .i64 num, .pointer sq, .int .u32 a, .int .u32 b, .int .u32 d] 69) = w1 := ⟨_, rfl⟩
  obtain ⟨r, hr⟩ : ∃ r, w.heap.size = r := ⟨_, rfl⟩
  have K1 : Hid (Kept (fun _ => False) w w1) := Lw.hid (by rw [← hw1]; exact (Kept.refl _ w).alloc _)
  have hrb : w1.heap[r]? = some (.cells #[.int .u8 4, .int .u32 id, .string (BA t), .int .i64 ch, .int .i64 off, .int .i64 num, .pointer sq, .int .u32 a, .int .u32 b, .int .u32 d] 69 (0, 0)) := by rw [← hw1, ← hr]; exact heap_alloc w _
  rw [hw1, hr]
  have HRB := Lw.hid hrb
  have r0 := heap_cell hrb 0; have r1 := heap_cell hrb 1; have r2 := heap_cell hrb 2; have r3 := heap_cell hrb 3; have r4 := heap_cell hrb 4; have r5 := heap_cell hrb 5; have r6 := heap_cell hrb 6; have r7 := heap_cell hrb 7; have r8 := heap_cell hrb 8; have r9 := heap_cell hrb 9
  have H1 := Lw.hid (H.out.kept K1.out (fun _ _ h => h))
  clear hw1 hr hrb
  have d2 := K1.out.cell c2 (fun h => h); have d3 := K1.out.cell c3 (fun h => h); have d4 := K1.out.cell c4 (fun h => h)
  refine (jopen_yes w1 F j BL sp _ J H1.out cs c HC.out HO.out b0 cap (by rw [HCN.out])).mono ?_
  rw [HCN.out]
  rintro e w2 ⟨rfl, rfl⟩
  go_wp2_with fail
  refine (right_raw w1 4 id t ch off num sq a b d (by unfold IsKind; decide)).mono ?_
  rw [hR]
  rintro e w2 ⟨rfl, k2⟩
  have KX := Lw.hid (K1.out.trans k2 (fun _ _ h => h))
  have s0 := k2.cell r0 (fun h => h); have s2 := k2.cell r2 (fun h => h)
  have x2 := k2.cell d2 (fun h => h); have x3 := k2.cell d3 (fun h => h); have x4 := k2.cell d4 (fun h => h)
  clear k2 r0 r1 r2 r3 r4 r5 r6 r7 r8 r9
  go_wp2_with fail
  go_quiet (fail)
  go_wp2_with fail
  go_ret
  exact ⟨by simp, KX.out.trans (drewN_kept _ _) (fun _ _ h => h)⟩
set_option maxHeartbeats 4000000 in
theorem fits4_yesw (w : World) (F : Nat → Prop) (j BL sp : Nat) (va : Value) (J : Jr) (h : JAt w F j BL va sp J) (cs : List Cmd) (c : Cmd) (hc : J.cs = cs ++ [c]) (ho : c.over = false) (id : Int) (t : List UInt8) (ch off num : Int) (sq : Option Addr) (a b d : Int)  (hR : rightB 4 ch num = false) :
    Calls Tryz.prog 67 #[.pointer (some ⟨j, 0, none⟩), rv 4 id t ch off num sq a b d] w fun e w' => e = .returned (.int .i64 1) ∧ Kept (fun _ => False) w w' := by
  unfold rv
  have hb := h.box
  have HB := Lw.hid hb
  have H := Lw.hid h
  obtain ⟨b0, cap, rfl, hq1, hq2, hcl⟩ := h.cell hc
  have c2 := hcl 2 (by decide); have c3 := hcl 3 (by decide); have c4 := hcl 4 (by decide)
  simp only [Cmd.cells, List.getElem?_cons_zero, List.getElem?_cons_succ] at c2 c3 c4
  obtain ⟨n, hcn⟩ : ∃ n, cs.length = n := ⟨_, rfl⟩
  obtain ⟨sg, hsg⟩ : ∃ sg, c.sig = sg := ⟨_, rfl⟩
  have HC := Lw.hid hc; have HO := Lw.hid ho; have HCN := Lw.hid hcn; have HSG := Lw.hid hsg
  rw [hcn] at c2 c3 c4
  rw [hsg] at c4
  unfold maxLen at hq2
  clear h hc ho hcl hcn hb hsg
  go_enter Tryz.func67, Tryz.ntmps67
  go_wp2_with fail
  obtain ⟨w1, hw1⟩ : ∃ w1, w.alloc (.cells #[.int .u8 4, .int .u32 id, .string (BA t), .int .i64 ch, .int .i64 off, .int .i64 num, .pointer sq, .int .u32 a, .int .u32 b, .int .u32 d] 69) = w1 := ⟨_, rfl⟩
  obtain ⟨r, hr⟩ : ∃ r, w.heap.size = r := ⟨_, rfl⟩
  have K1 : Hid (Kept (fun _ => False) w w1) := Lw.hid (by rw [← hw1]; exact (Kept.refl _ w).alloc _)
  have hrb : w1.heap[r]? = some (.cells #[.int .u8 4, .int .u32 id, .string (BA t), .int .i64 ch, .int .i64 off, .int .i64 num, .pointer sq, .int .u32 a, .int .u32 b, .int .u32 d] 69 (0, 0)) := by rw [← hw1, ← hr]; exact heap_alloc w _
  rw [hw1, hr]
  have HRB := Lw.hid hrb
  have r0 := heap_cell hrb 0; have r1 := heap_cell hrb 1; have r2 := heap_cell hrb 2; have r3 := heap_cell hrb 3; have r4 := heap_cell hrb 4; have r5 := heap_cell hrb 5; have r6 := heap_cell hrb 6; have r7 := heap_cell hrb 7; have r8 := heap_cell hrb 8; have r9 := heap_cell hrb 9
  have H1 := Lw.hid (H.out.kept K1.out (fun _ _ h => h))
  clear hw1 hr hrb
  have d2 := K1.out.cell c2 (fun h => h); have d3 := K1.out.cell c3 (fun h => h); have d4 := K1.out.cell c4 (fun h => h)
  refine (jopen_yes w1 F j BL sp _ J H1.out cs c HC.out HO.out b0 cap (by rw [HCN.out])).mono ?_
  rw [HCN.out]
  rintro e w2 ⟨rfl, rfl⟩
  go_wp2_with fail
  refine (right_raw w1 4 id t ch off num sq a b d (by unfold IsKind; decide)).mono ?_
  rw [hR]
  rintro e w2 ⟨rfl, k2⟩
  have KX := Lw.hid (K1.out.trans k2 (fun _ _ h => h))
  have s0 := k2.cell r0 (fun h => h); have s2 := k2.cell r2 (fun h => h)
  have x2 := k2.cell d2 (fun h => h); have x3 := k2.cell d3 (fun h => h); have x4 := k2.cell d4 (fun h => h)
  clear k2 r0 r1 r2 r3 r4 r5 r6 r7 r8 r9
  go_wp2_with fail
  go_ret
  exact ⟨by simp, KX.out⟩
set_option maxHeartbeats 4000000 in
theorem fits5_yes (w : World) (F : Nat → Prop) (j BL sp : Nat) (va : Value) (J : Jr) (h : JAt w F j BL va sp J) (cs : List Cmd) (c : Cmd) (hc : J.cs = cs ++ [c]) (ho : c.over = false) (id : Int) (t : List UInt8) (ch off num : Int) (sq : Option Addr) (a b d : Int)  (hR : rightB 5 ch num = true) :
    Calls Tryz.prog 67 #[.pointer (some ⟨j, 0, none⟩), rv 5 id t ch off num sq a b d] w fun e w' => e = .returned (.int .i64 0) ∧ Kept (fun _ => False) w w' := by
  unfold rv
  have hb := h.box
  have HB := Lw.hid hb
  have H := Lw.hid h
  obtain ⟨b0, cap, rfl, hq1, hq2, hcl⟩ := h.cell hc
  have c2 := hcl 2 (by decide); have c3 := hcl 3 (by decide); have c4 := hcl 4 (by decide)
  simp only [Cmd.cells, List.getElem?_cons_zero, List.getElem?_cons_succ] at c2 c3 c4
  obtain ⟨n, hcn⟩ : ∃ n, cs.length = n := ⟨_, rfl⟩
  obtain ⟨sg, hsg⟩ : ∃ sg, c.sig = sg := ⟨_, rfl⟩
  have HC := Lw.hid hc; have HO := Lw.hid ho; have HCN := Lw.hid hcn; have HSG := Lw.hid hsg
  rw [hcn] at c2 c3 c4
  rw [hsg] at c4
  unfold maxLen at hq2
  clear h hc ho hcl hcn hb hsg
  go_enter Tryz.func67, Tryz.ntmps67
  go_wp2_with fail
  obtain ⟨w1, hw1⟩ : ∃ w1, w.alloc (.cells #[.int .u8 5, .int .u32 id, .string (BA t), .int .i64 ch, .int .i64 off, .int .i64 num, .pointer sq, .int .u32 a, .int .u32 b, .int .u32 d] 69) = w1 := ⟨_, rfl⟩
  obtain ⟨r, hr⟩ : ∃ r, w.heap.size = r := ⟨_, rfl⟩
  have K1 : Hid (Kept (fun _ => False) w w1) := Lw.hid (by rw [← hw1]; exact (Kept.refl _ w).alloc _)
  have hrb : w1.heap[r]? = some (.cells #[.int .u8 5, .int .u32 id, .string (BA t), .int .i64 ch, .int .i64 off, .int .i64 num, .pointer sq, .int .u32 a, .int .u32 b, .int .u32 d] 69 (0, 0)) := by rw [← hw1, ← hr]; exact heap_alloc w _
  rw [hw1, hr]
  have HRB := Lw.hid hrb
  have r0 := heap_cell hrb 0; have r1 := heap_cell hrb 1; have r2 := heap_cell hrb 2; have r3 := heap_cell hrb 3; have r4 := heap_cell hrb 4; have r5 := heap_cell hrb 5; have r6 := heap_cell hrb 6; have r7 := heap_cell hrb 7; have r8 := heap_cell hrb 8; have r9 := heap_cell hrb 9
  have H1 := Lw.hid (H.out.kept K1.out (fun _ _ h => h))
  clear hw1 hr hrb
  have d2 := K1.out.cell c2 (fun h => h); have d3 := K1.out.cell c3 (fun h => h); have d4 := K1.out.cell c4 (fun h => h)
  refine (jopen_yes w1 F j BL sp _ J H1.out cs c HC.out HO.out b0 cap (by rw [HCN.out])).mono ?_
  rw [HCN.out]
  rintro e w2 ⟨rfl, rfl⟩
  go_wp2_with fail
  refine (right_raw w1 5 id t ch off num sq a b d (by unfold IsKind; decide)).mono ?_
  rw [hR]
  rintro e w2 ⟨rfl, k2⟩
  have KX := Lw.hid (K1.out.trans k2 (fun _ _ h => h))
  have s0 := k2.cell r0 (fun h => h); have s2 := k2.cell r2 (fun h => h)
  have x2 := k2.cell d2 (fun h => h); have x3 := k2.cell d3 (fun h => h); have x4 := k2.cell d4 (fun h => h)
  clear k2 r0 r1 r2 r3 r4 r5 r6 r7 r8 r9
  go_wp2_with fail
  go_quiet (fail)
  go_wp2_with fail
  go_ret
  exact ⟨by simp, KX.out.trans (drewN_kept _ _) (fun _ _ h => h)⟩
end Go.Proofs.YtgegjjnfcnalfaaGreatDoor
