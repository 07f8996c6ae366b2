/- Of the proof of TopBooks: QE. -/
import Derived.Test.YtgegjjnfcnalfaaGreatDoorG31
namespace Go.Proofs.YtgegjjnfcnalfaaGreatDoor
open Go Go.RowKit Go.Lw
set_option maxRecDepth 100000
set_option linter.unusedVariables false
set_option linter.unusedSimpArgs false
attribute [local go_sem] BA_toList
set_option maxHeartbeats 8000000 in
theorem follows6 (w : World) (F : Nat → Prop) (j BL sp : Nat) (va : Value) (J : Jr) (h : JAt w F j BL va sp J) (n : Nat) (hn : J.cs.length = n) (hn9 : n ≤ 1000000) (id : Int) (t : List UInt8) (ch : Int) (off : Int) (num : Int) (sq : Option Addr) (a b d : Int)
    (hfit : ∀ w', Kept (fun _ => False) w w' → Calls Tryz.prog 67 #[.pointer (some ⟨j, 0, none⟩), rv 6 id t ch off num sq a b d] w' fun e w2 => e = .returned (.int .i64 0) ∧ Kept (fun _ => False) w' w2) :
    Calls Tryz.prog 27 #[.pointer (some ⟨j, 0, none⟩), rv 6 id t ch off num sq a b d] w fun e w' => e = .returned (.bool true) ∧ Kept (fun _ => False) w w' := by
  unfold rv at hfit ⊢
  have H := Lw.hid h; have HF := Lw.hid hfit
  have HLN : Hid (J.cs.length % 4294967296 = n) := Lw.hid (by rw [hn]; exact Nat.mod_eq_of_lt (by omega))
  obtain ⟨w1, hw1⟩ : ∃ w1, w.alloc (.cells #[.int .u8 6, .int .u32 id, .string (BA t), .int .i64 ch, .int .i64 off, .int .i64 num, .pointer sq, .int .u32 a, .int .u32 b, .int .u32 d] 69) = w1 := ⟨_, rfl⟩
  obtain ⟨r, hr⟩ : ∃ r, w.heap.size = r := ⟨_, rfl⟩
  have K1 : Hid (Kept (fun _ => False) w w1) := Lw.hid (by rw [← hw1]; exact (Kept.refl _ w).alloc _)
  have HRB : Hid (w1.heap[r]? = some (.cells #[.int .u8 6, .int .u32 id, .string (BA t), .int .i64 ch, .int .i64 off, .int .i64 num, .pointer sq, .int .u32 a, .int .u32 b, .int .u32 d] 69 (0, 0))) := Lw.hid (by rw [← hw1, ← hr]; exact heap_alloc w _)
  have HW1 := Lw.hid hw1; have HR := Lw.hid hr
  clear h hfit hw1 hr hn
  go_enter Tryz.func27, Tryz.ntmps27
  go_wp2_with fail
  rw [HW1.out, HR.out]
  refine (HF.out w1 K1.out).mono ?_
  rintro e w2 ⟨rfl, k2⟩
  have K2 := Lw.hid (K1.out.trans k2 (fun _ _ h => h))
  have HRB2 := Lw.hid (k2.heap HRB.out (fun h => h))
  have H2 := Lw.hid (H.out.kept K2.out (fun _ _ h => h))
  clear k2
  have u0 := heap_cell HRB2.out 0
  go_wp2_with fail
  go_ret
  exact ⟨rfl, K2.out⟩
set_option maxHeartbeats 8000000 in
theorem follows1 (w : World) (F : Nat → Prop) (j BL sp : Nat) (va : Value) (J : Jr) (h : JAt w F j BL va sp J) (n : Nat) (hn : J.cs.length = n) (hn9 : n ≤ 1000000) (t : List UInt8) (ch : Int) (off : Int) (num : Int) (sq : Option Addr) (a b d : Int)
    (hfit : ∀ w', Kept (fun _ => False) w w' → Calls Tryz.prog 67 #[.pointer (some ⟨j, 0, none⟩), rv 1 ((n : Int) + 1) t ch off num sq a b d] w' fun e w2 => e = .returned (.int .i64 0) ∧ Kept (fun _ => False) w' w2) :
    Calls Tryz.prog 27 #[.pointer (some ⟨j, 0, none⟩), rv 1 ((n : Int) + 1) t ch off num sq a b d] w fun e w' => e = .returned (.bool true) ∧ Kept (fun _ => False) w w' := by
  unfold rv at hfit ⊢
  have H := Lw.hid h; have HF := Lw.hid hfit
  have HLN : Hid (J.cs.length % 4294967296 = n) := Lw.hid (by rw [hn]; exact Nat.mod_eq_of_lt (by omega))
  obtain ⟨w1, hw1⟩ : ∃ w1, w.alloc (.cells #[.int .u8 1, .int .u32 ((n : Int) + 1), .string (BA t), .int .i64 ch, .int .i64 off, .int .i64 num, .pointer sq, .int .u32 a, .int .u32 b, .int .u32 d] 69) = w1 := ⟨_, rfl⟩
  obtain ⟨r, hr⟩ : ∃ r, w.heap.size = r := ⟨_, rfl⟩
  have K1 : Hid (Kept (fun _ => False) w w1) := Lw.hid (by rw [← hw1]; exact (Kept.refl _ w).alloc _)
  have HRB : Hid (w1.heap[r]? = some (.cells #[.int .u8 1, .int .u32 ((n : Int) + 1), .string (BA t), .int .i64 ch, .int .i64 off, .int .i64 num, .pointer sq, .int .u32 a, .int .u32 b, .int .u32 d] 69 (0, 0))) := Lw.hid (by rw [← hw1, ← hr]; exact heap_alloc w _)
  have HW1 := Lw.hid hw1; have HR := Lw.hid hr
  clear h hfit hw1 hr hn
  go_enter Tryz.func27, Tryz.ntmps27
  go_wp2_with fail
  rw [HW1.out, HR.out]
  refine (HF.out w1 K1.out).mono ?_
  rintro e w2 ⟨rfl, k2⟩
  have K2 := Lw.hid (K1.out.trans k2 (fun _ _ h => h))
  have HRB2 := Lw.hid (k2.heap HRB.out (fun h => h))
  have H2 := Lw.hid (H.out.kept K2.out (fun _ _ h => h))
  clear k2
  have u0 := heap_cell HRB2.out 0
  go_wp2_with fail
  clear u0
  refine wp_region_tail 7 [stV (.pointer (some ⟨r, 1, none⟩)), stV (.int .u32 ((n : Int) + 1)), stV (.pointer (some ⟨j, 0, none⟩)), stV (.int .u32 (n : Int)), stV (.int .u32 ((n : Int) + 1)), stV (.bool true), stV (.bool true)] (by kernel_rfl) (by kernel_rfl) ?_ ?_
  · iterate 3
      refine ssteps_cons (fun a' w' hI hag hf K hK => ?_) ?_
      · obtain ⟨⟨_, h0, rfl⟩, -⟩ := hf
        have s0 := hag.same 0 (by decide)
        have s3 := hag.same 3 (by decide)
        clear hag
        have c1 := heap_cell (hI.heap HRB2.out (fun h => h)) 1
        go_wp2_with fail
        exact hK _ _ hI (Kept.refl _ _) rfl
    refine ssteps_cons (fun a' w' hI hag hf K hK => ?_) ?_
    · obtain ⟨⟨_, h2, rfl⟩, -⟩ : SFacts _ _ a' w' [2] := hf
      clear hag
      have HI := Lw.hid hI
      clear hI
      go_wp2_with fail
      refine (jlast_any w' F j BL sp _ J (H2.out.kept HI.out (fun _ _ h => h))).mono ?_
      rw [HLN.out]
      rintro e w4 ⟨rfl, rfl⟩
      go_wp2_with fail
      exact hK _ _ HI.out (Kept.refl _ _) rfl
    iterate 3
      refine ssteps_cons (fun a' w' hI hag hf K hK => ?_) ?_
      · obtain ⟨⟨_, h0, rfl⟩, ⟨_, h1, rfl⟩, ⟨_, h2, rfl⟩, ⟨_, h3, rfl⟩, ⟨_, h4, rfl⟩, ⟨_, h5, rfl⟩, -⟩ := hf
        clear hag
        go_wp2_with fail
        exact hK _ _ hI (Kept.refl _ _) rfl
    exact trivial
  · intro vs wz hI hvs
    simp only [pzz, putAll, Act.put, Nat.reduceAdd, spv (hvs 0 _ _ rfl rfl) rfl, spv (hvs 1 _ _ rfl rfl) rfl, spv (hvs 2 _ _ rfl rfl) rfl, spv (hvs 3 _ _ rfl rfl) rfl, spv (hvs 4 _ _ rfl rfl) rfl, spv (hvs 5 _ _ rfl rfl) rfl, spv (hvs 6 _ _ rfl rfl) rfl]
    clear hvs
    have KZ := Lw.hid (K2.out.trans hI (fun _ _ h => h))
    clear hI
    go_wp2_with fail
    go_ret
    exact ⟨rfl, KZ.out⟩
set_option maxHeartbeats 8000000 in
theorem follows3 (w : World) (F : Nat → Prop) (j BL sp : Nat) (va : Value) (J : Jr) (h : JAt w F j BL va sp J) (n : Nat) (hn : J.cs.length = n) (hn9 : n ≤ 1000000) (t : List UInt8) (ch : Int) (off : Int) (num : Int) (sq : Option Addr) (a b d : Int)
    (hfit : ∀ w', Kept (fun _ => False) w w' → Calls Tryz.prog 67 #[.pointer (some ⟨j, 0, none⟩), rv 3 (n : Int) t ch off num sq a b d] w' fun e w2 => e = .returned (.int .i64 0) ∧ Kept (fun _ => False) w' w2) :
    Calls Tryz.prog 27 #[.pointer (some ⟨j, 0, none⟩), rv 3 (n : Int) t ch off num sq a b d] w fun e w' => e = .returned (.bool true) ∧ Kept (fun _ => False) w w' := by
  unfold rv at hfit ⊢
  have H := Lw.hid h; have HF := Lw.hid hfit
  have HLN : Hid (J.cs.length % 4294967296 = n) := Lw.hid (by rw [hn]; exact Nat.mod_eq_of_lt (by omega))
  obtain ⟨w1, hw1⟩ : ∃ w1, w.alloc (.cells #[.int .u8 3, .int .u32 (n : Int), .string (BA t), .int .i64 ch, .int .i64 off, .int .i64 num, .pointer sq, .int .u32 a, .int .u32 b, .int .u32 d] 69) = w1 := ⟨_, rfl⟩
  obtain ⟨r, hr⟩ : ∃ r, w.heap.size = r := ⟨_, rfl⟩
  have K1 : Hid (Kept (fun _ => False) w w1) := Lw.hid (by rw [← hw1]; exact (Kept.refl _ w).alloc _)
  have HRB : Hid (w1.heap[r]? = some (.cells #[.int .u8 3, .int .u32 (n : Int), .string (BA t), .int .i64 ch, .int .i64 off, .int .i64 num, .pointer sq, .int .u32 a, .int .u32 b, .int .u32 d] 69 (0, 0))) := Lw.hid (by rw [← hw1, ← hr]; exact heap_alloc w _)
  have HW1 := Lw.hid hw1; have HR := Lw.hid hr
  clear h hfit hw1 hr hn
  go_enter Tryz.func27, Tryz.ntmps27
  go_wp2_with fail
  rw [HW1.out, HR.out]
  refine (HF.out w1 K1.out).mono ?_
  rintro e w2 ⟨rfl, k2⟩
  have K2 := Lw.hid (K1.out.trans k2 (fun _ _ h => h))
  have HRB2 := Lw.hid (k2.heap HRB.out (fun h => h))
  have H2 := Lw.hid (H.out.kept K2.out (fun _ _ h => h))
  clear k2
  have u0 := heap_cell HRB2.out 0
  go_wp2_with fail
  clear u0
  refine wp_region_tail 24 [stV (.pointer (some ⟨r, 1, none⟩)), stV (.int .u32 (n : Int)), stV (.pointer (some ⟨j, 0, none⟩)), stV (.int .u32 (n : Int)), stV (.bool true), stV (.bool true), stV (.pointer (some ⟨r, 0, none⟩)), stV (.int .u8 3), stV (.bool true), stV (.bool true), stV undef, stV undef, stV undef, stV undef, stV undef, stV undef, stV undef, stV undef, stV undef, stV undef, stV undef, stV (.bool true), stV (.bool true), stV (.bool true)] (by kernel_rfl) (by kernel_rfl) ?_ ?_
  · iterate 3
      refine ssteps_cons (fun a' w' hI hag hf K hK => ?_) ?_
      · obtain ⟨⟨_, h0, rfl⟩, -⟩ := hf
        have s0 := hag.same 0 (by decide)
        have s3 := hag.same 3 (by decide)
        clear hag
        have c1 := heap_cell (hI.heap HRB2.out (fun h => h)) 1
        go_wp2_with fail
        exact hK _ _ hI (Kept.refl _ _) rfl
    refine ssteps_cons (fun a' w' hI hag hf K hK => ?_) ?_
    · obtain ⟨⟨_, h2, rfl⟩, -⟩ : SFacts _ _ a' w' [2] := hf
      clear hag
      have HI := Lw.hid hI
      clear hI
      go_wp2_with fail
      refine (jlast_any w' F j BL sp _ J (H2.out.kept HI.out (fun _ _ h => h))).mono ?_
      rw [HLN.out]
      rintro e w4 ⟨rfl, rfl⟩
      go_wp2_with fail
      exact hK _ _ HI.out (Kept.refl _ _) rfl
    iterate 20
      refine ssteps_cons (fun a' w' hI hag hf K hK => ?_) ?_
      · obtain ⟨⟨_, h0, rfl⟩, ⟨_, h1, rfl⟩, ⟨_, h2, rfl⟩, ⟨_, h3, rfl⟩, ⟨_, h4, rfl⟩, ⟨_, h5, rfl⟩, ⟨_, h6, rfl⟩, ⟨_, h7, rfl⟩, ⟨_, h8, rfl⟩, ⟨_, h9, rfl⟩, ⟨_, h10, rfl⟩, ⟨_, h11, rfl⟩, ⟨_, h12, rfl⟩, ⟨_, h13, rfl⟩, ⟨_, h14, rfl⟩, ⟨_, h15, rfl⟩, ⟨_, h16, rfl⟩, ⟨_, h17, rfl⟩, ⟨_, h18, rfl⟩, ⟨_, h19, rfl⟩, ⟨_, h20, rfl⟩, ⟨_, h21, rfl⟩, ⟨_, h22, rfl⟩, -⟩ := hf
        have s0 := hag.same 0 (by decide)
        have s3 := hag.same 3 (by decide)
        clear hag
        have c0 := heap_cell (hI.heap HRB2.out (fun h => h)) 0
        go_wp2_with fail
        exact hK _ _ hI (Kept.refl _ _) rfl
    exact trivial
  · intro vs wz hI hvs
    simp only [pzz, putAll, Act.put, Nat.reduceAdd, spv (hvs 0 _ _ rfl rfl) rfl, spv (hvs 1 _ _ rfl rfl) rfl, spv (hvs 2 _ _ rfl rfl) rfl, spv (hvs 3 _ _ rfl rfl) rfl, spv (hvs 4 _ _ rfl rfl) rfl, spv (hvs 5 _ _ rfl rfl) rfl, spv (hvs 6 _ _ rfl rfl) rfl, spv (hvs 7 _ _ rfl rfl) rfl, spv (hvs 8 _ _ rfl rfl) rfl, spv (hvs 9 _ _ rfl rfl) rfl, spv (hvs 10 _ _ rfl rfl) rfl, spv (hvs 11 _ _ rfl rfl) rfl, spv (hvs 12 _ _ rfl rfl) rfl, spv (hvs 13 _ _ rfl rfl) rfl, spv (hvs 14 _ _ rfl rfl) rfl, spv (hvs 15 _ _ rfl rfl) rfl, spv (hvs 16 _ _ rfl rfl) rfl, spv (hvs 17 _ _ rfl rfl) rfl, spv (hvs 18 _ _ rfl rfl) rfl, spv (hvs 19 _ _ rfl rfl) rfl, spv (hvs 20 _ _ rfl rfl) rfl, spv (hvs 21 _ _ rfl rfl) rfl, spv (hvs 22 _ _ rfl rfl) rfl, spv (hvs 23 _ _ rfl rfl) rfl]
    clear hvs
    have KZ := Lw.hid (K2.out.trans hI (fun _ _ h => h))
    clear hI
    go_wp2_with fail
    go_ret
    exact ⟨rfl, KZ.out⟩
set_option maxHeartbeats 8000000 in
theorem follows4 (w : World) (F : Nat → Prop) (j BL sp : Nat) (va : Value) (J : Jr) (h : JAt w F j BL va sp J) (n : Nat) (hn : J.cs.length = n) (hn9 : n ≤ 1000000) (t : List UInt8) (ch : Int) (off : Int) (num : Int) (sq : Option Addr) (a b d : Int)
    (hfit : ∀ w', Kept (fun _ => False) w w' → Calls Tryz.prog 67 #[.pointer (some ⟨j, 0, none⟩), rv 4 (n : Int) t ch off num sq a b d] w' fun e w2 => e = .returned (.int .i64 0) ∧ Kept (fun _ => False) w' w2) :
    Calls Tryz.prog 27 #[.pointer (some ⟨j, 0, none⟩), rv 4 (n : Int) t ch off num sq a b d] w fun e w' => e = .returned (.bool true) ∧ Kept (fun _ => False) w w' := by
  unfold rv at hfit ⊢
  have H := Lw.hid h; have HF := Lw.hid hfit
  have HLN : Hid (J.cs.length % 4294967296 = n) := Lw.hid (by rw [hn]; exact Nat.mod_eq_of_lt (by omega))
  obtain ⟨w1, hw1⟩ : ∃ w1, w.alloc (.cells #[.int .u8 4, .int .u32 (n : Int), .string (BA t), .int .i64 ch, .int .i64 off, .int .i64 num, .pointer sq, .int .u32 a, .int .u32 b, .int .u32 d] 69) = w1 := ⟨_, rfl⟩
  obtain ⟨r, hr⟩ : ∃ r, w.heap.size = r := ⟨_, rfl⟩
  have K1 : Hid (Kept (fun _ => False) w w1) := Lw.hid (by rw [← hw1]; exact (Kept.refl _ w).alloc _)
  have HRB : Hid (w1.heap[r]? = some (.cells #[.int .u8 4, .int .u32 (n : Int), .string (BA t), .int .i64 ch, .int .i64 off, .int .i64 num, .pointer sq, .int .u32 a, .int .u32 b, .int .u32 d] 69 (0, 0))) := Lw.hid (by rw [← hw1, ← hr]; exact heap_alloc w _)
  have HW1 := Lw.hid hw1; have HR := Lw.hid hr
  clear h hfit hw1 hr hn
  go_enter Tryz.func27, Tryz.ntmps27
  go_wp2_with fail
  rw [HW1.out, HR.out]
  refine (HF.out w1 K1.out).mono ?_
  rintro e w2 ⟨rfl, k2⟩
  have K2 := Lw.hid (K1.out.trans k2 (fun _ _ h => h))
  have HRB2 := Lw.hid (k2.heap HRB.out (fun h => h))
  have H2 := Lw.hid (H.out.kept K2.out (fun _ _ h => h))
  clear k2
  have u0 := heap_cell HRB2.out 0
  go_wp2_with fail
  clear u0
  refine wp_region_tail 24 [stV (.pointer (some ⟨r, 1, none⟩)), stV (.int .u32 (n : Int)), stV (.pointer (some ⟨j, 0, none⟩)), stV (.int .u32 (n : Int)), stV (.bool true), stV (.bool true), stV (.pointer (some ⟨r, 0, none⟩)), stV (.int .u8 4), stV (.bool true), stV (.bool true), stV undef, stV undef, stV undef, stV undef, stV undef, stV undef, stV undef, stV undef, stV undef, stV undef, stV undef, stV (.bool true), stV (.bool true), stV (.bool true)] (by kernel_rfl) (by kernel_rfl) ?_ ?_
  · iterate 3
      refine ssteps_cons (fun a' w' hI hag hf K hK => ?_) ?_
      · obtain ⟨⟨_, h0, rfl⟩, -⟩ := hf
        have s0 := hag.same 0 (by decide)
        have s3 := hag.same 3 (by decide)
        clear hag
        have c1 := heap_cell (hI.heap HRB2.out (fun h => h)) 1
        go_wp2_with fail
        exact hK _ _ hI (Kept.refl _ _) rfl
    refine ssteps_cons (fun a' w' hI hag hf K hK => ?_) ?_
    · obtain ⟨⟨_, h2, rfl⟩, -⟩ : SFacts _ _ a' w' [2] := hf
      clear hag
      have HI := Lw.hid hI
      clear hI
      go_wp2_with fail
      refine (jlast_any w' F j BL sp _ J (H2.out.kept HI.out (fun _ _ h => h))).mono ?_
      rw [HLN.out]
      rintro e w4 ⟨rfl, rfl⟩
      go_wp2_with fail
      exact hK _ _ HI.out (Kept.refl _ _) rfl
    iterate 20
      refine ssteps_cons (fun a' w' hI hag hf K hK => ?_) ?_
      · obtain ⟨⟨_, h0, rfl⟩, ⟨_, h1, rfl⟩, ⟨_, h2, rfl⟩, ⟨_, h3, rfl⟩, ⟨_, h4, rfl⟩, ⟨_, h5, rfl⟩, ⟨_, h6, rfl⟩, ⟨_, h7, rfl⟩, ⟨_, h8, rfl⟩, ⟨_, h9, rfl⟩, ⟨_, h10, rfl⟩, ⟨_, h11, rfl⟩, ⟨_, h12, rfl⟩, ⟨_, h13, rfl⟩, ⟨_, h14, rfl⟩, ⟨_, h15, rfl⟩, ⟨_, h16, rfl⟩, ⟨_, h17, rfl⟩, ⟨_, h18, rfl⟩, ⟨_, h19, rfl⟩, ⟨_, h20, rfl⟩, ⟨_, h21, rfl⟩, ⟨_, h22, rfl⟩, -⟩ := hf
        have s0 := hag.same 0 (by decide)
        have s3 := hag.same 3 (by decide)
        clear hag
        have c0 := heap_cell (hI.heap HRB2.out (fun h => h)) 0
        go_wp2_with fail
        exact hK _ _ hI (Kept.refl _ _) rfl
    exact trivial
  · intro vs wz hI hvs
    simp only [pzz, putAll, Act.put, Nat.reduceAdd, spv (hvs 0 _ _ rfl rfl) rfl, spv (hvs 1 _ _ rfl rfl) rfl, spv (hvs 2 _ _ rfl rfl) rfl, spv (hvs 3 _ _ rfl rfl) rfl, spv (hvs 4 _ _ rfl rfl) rfl, spv (hvs 5 _ _ rfl rfl) rfl, spv (hvs 6 _ _ rfl rfl) rfl, spv (hvs 7 _ _ rfl rfl) rfl, spv (hvs 8 _ _ rfl rfl) rfl, spv (hvs 9 _ _ rfl rfl) rfl, spv (hvs 10 _ _ rfl rfl) rfl, spv (hvs 11 _ _ rfl rfl) rfl, spv (hvs 12 _ _ rfl rfl) rfl, spv (hvs 13 _ _ rfl rfl) rfl, spv (hvs 14 _ _ rfl rfl) rfl, spv (hvs 15 _ _ rfl rfl) rfl, spv (hvs 16 _ _ rfl rfl) rfl, spv (hvs 17 _ _ rfl rfl) rfl, spv (hvs 18 _ _ rfl rfl) rfl, spv (hvs 19 _ _ rfl rfl) rfl, spv (hvs 20 _ _ rfl rfl) rfl, spv (hvs 21 _ _ rfl rfl) rfl, spv (hvs 22 _ _ rfl rfl) rfl, spv (hvs 23 _ _ rfl rfl) rfl]
    clear hvs
    have KZ := Lw.hid (K2.out.trans hI (fun _ _ h => h))
    clear hI
    go_wp2_with fail
    go_ret
    exact ⟨rfl, KZ.out⟩
set_option maxHeartbeats 8000000 in
theorem follows5 (w : World) (F : Nat → Prop) (j BL sp : Nat) (va : Value) (J : Jr) (h : JAt w F j BL va sp J) (n : Nat) (hn : J.cs.length = n) (hn9 : n ≤ 1000000) (t : List UInt8) (ch : Int) (off : Int) (num : Int) (sq : Option Addr) (a b d : Int)
    (hfit : ∀ w', Kept (fun _ => False) w w' → Calls Tryz.prog 67 #[.pointer (some ⟨j, 0, none⟩), rv 5 (n : Int) t ch off num sq a b d] w' fun e w2 => e = .returned (.int .i64 0) ∧ Kept (fun _ => False) w' w2) :
    Calls Tryz.prog 27 #[.pointer (some ⟨j, 0, none⟩), rv 5 (n : Int) t ch off num sq a b d] w fun e w' => e = .returned (.bool true) ∧ Kept (fun _ => False) w w' := by
  unfold rv at hfit ⊢
  have H := Lw.hid h; have HF := Lw.hid hfit
  have HLN : Hid (J.cs.length % 4294967296 = n) := Lw.hid (by rw [hn]; exact Nat.mod_eq_of_lt (by omega))
  obtain ⟨w1, hw1⟩ : ∃ w1, w.alloc (.cells #[.int .u8 5, .int .u32 (n : Int), .string (BA t), .int .i64 ch, .int .i64 off, .int .i64 num, .pointer sq, .int .u32 a, .int .u32 b, .int .u32 d] 69) = w1 := ⟨_, rfl⟩
  obtain ⟨r, hr⟩ : ∃ r, w.heap.size = r := ⟨_, rfl⟩
  have K1 : Hid (Kept (fun _ => False) w w1) := Lw.hid (by rw [← hw1]; exact (Kept.refl _ w).alloc _)
  have HRB : Hid (w1.heap[r]? = some (.cells #[.int .u8 5, .int .u32 (n : Int), .string (BA t), .int .i64 ch, .int .i64 off, .int .i64 num, .pointer sq, .int .u32 a, .int .u32 b, .int .u32 d] 69 (0, 0))) := Lw.hid (by rw [← hw1, ← hr]; exact heap_alloc w _)
  have HW1 := Lw.hid hw1; have HR := Lw.hid hr
  clear h hfit hw1 hr hn
  go_enter Tryz.func27, Tryz.ntmps27
  go_wp2_with fail
  rw [HW1.out, HR.out]
  refine (HF.out w1 K1.out).mono ?_
  rintro e w2 ⟨rfl, k2⟩
  have K2 := Lw.hid (K1.out.trans k2 (fun _ _ h => h))
  have HRB2 := Lw.hid (k2.heap HRB.out (fun h => h))
  have H2 := Lw.hid (H.out.kept K2.out (fun _ _ h => h))
  clear k2
  have u0 := heap_cell HRB2.out 0
  go_wp2_with fail
  clear u0
  refine wp_region_tail 24 [stV (.pointer (some ⟨r, 1, none⟩)), stV (.int .u32 (n : Int)), stV (.pointer (some ⟨j, 0, none⟩)), stV (.int .u32 (n : Int)), stV (.bool true), stV (.bool true), stV (.pointer (some ⟨r, 0, none⟩)), stV (.int .u8 5), stV (.bool true), stV (.bool true), stV undef, stV undef, stV undef, stV undef, stV undef, stV undef, stV undef, stV undef, stV undef, stV undef, stV undef, stV (.bool true), stV (.bool true), stV (.bool true)] (by kernel_rfl) (by kernel_rfl) ?_ ?_
  · iterate 3
      refine ssteps_cons (fun a' w' hI hag hf K hK => ?_) ?_
      · obtain ⟨⟨_, h0, rfl⟩, -⟩ := hf
        have s0 := hag.same 0 (by decide)
        have s3 := hag.same 3 (by decide)
        clear hag
        have c1 := heap_cell (hI.heap HRB2.out (fun h => h)) 1
        go_wp2_with fail
        exact hK _ _ hI (Kept.refl _ _) rfl
    refine ssteps_cons (fun a' w' hI hag hf K hK => ?_) ?_
    · obtain ⟨⟨_, h2, rfl⟩, -⟩ : SFacts _ _ a' w' [2] := hf
      clear hag
      have HI := Lw.hid hI
      clear hI
      go_wp2_with fail
      refine (jlast_any w' F j BL sp _ J (H2.out.kept HI.out (fun _ _ h => h))).mono ?_
      rw [HLN.out]
      rintro e w4 ⟨rfl, rfl⟩
      go_wp2_with fail
      exact hK _ _ HI.out (Kept.refl _ _) rfl
    iterate 20
      refine ssteps_cons (fun a' w' hI hag hf K hK => ?_) ?_
      · obtain ⟨⟨_, h0, rfl⟩, ⟨_, h1, rfl⟩, ⟨_, h2, rfl⟩, ⟨_, h3, rfl⟩, ⟨_, h4, rfl⟩, ⟨_, h5, rfl⟩, ⟨_, h6, rfl⟩, ⟨_, h7, rfl⟩, ⟨_, h8, rfl⟩, ⟨_, h9, rfl⟩, ⟨_, h10, rfl⟩, ⟨_, h11, rfl⟩, ⟨_, h12, rfl⟩, ⟨_, h13, rfl⟩, ⟨_, h14, rfl⟩, ⟨_, h15, rfl⟩, ⟨_, h16, rfl⟩, ⟨_, h17, rfl⟩, ⟨_, h18, rfl⟩, ⟨_, h19, rfl⟩, ⟨_, h20, rfl⟩, ⟨_, h21, rfl⟩, ⟨_, h22, rfl⟩, -⟩ := hf
        have s0 := hag.same 0 (by decide)
        have s3 := hag.same 3 (by decide)
        clear hag
        have c0 := heap_cell (hI.heap HRB2.out (fun h => h)) 0
        go_wp2_with fail
        exact hK _ _ hI (Kept.refl _ _) rfl
    exact trivial
  · intro vs wz hI hvs
    simp only [pzz, putAll, Act.put, Nat.reduceAdd, spv (hvs 0 _ _ rfl rfl) rfl, spv (hvs 1 _ _ rfl rfl) rfl, spv (hvs 2 _ _ rfl rfl) rfl, spv (hvs 3 _ _ rfl rfl) rfl, spv (hvs 4 _ _ rfl rfl) rfl, spv (hvs 5 _ _ rfl rfl) rfl, spv (hvs 6 _ _ rfl rfl) rfl, spv (hvs 7 _ _ rfl rfl) rfl, spv (hvs 8 _ _ rfl rfl) rfl, spv (hvs 9 _ _ rfl rfl) rfl, spv (hvs 10 _ _ rfl rfl) rfl, spv (hvs 11 _ _ rfl rfl) rfl, spv (hvs 12 _ _ rfl rfl) rfl, spv (hvs 13 _ _ rfl rfl) rfl, spv (hvs 14 _ _ rfl rfl) rfl, spv (hvs 15 _ _ rfl rfl) rfl, spv (hvs 16 _ _ rfl rfl) rfl, spv (hvs 17 _ _ rfl rfl) rfl, spv (hvs 18 _ _ rfl rfl) rfl, spv (hvs 19 _ _ rfl rfl) rfl, spv (hvs 20 _ _ rfl rfl) rfl, spv (hvs 21 _ _ rfl rfl) rfl, spv (hvs 22 _ _ rfl rfl) rfl, spv (hvs 23 _ _ rfl rfl) rfl]
    clear hvs
    have KZ := Lw.hid (K2.out.trans hI (fun _ _ h => h))
    clear hI
    go_wp2_with fail
    go_ret
    exact ⟨rfl, KZ.out⟩
set_option maxHeartbeats 8000000 in
theorem follows22 (w : World) (F : Nat → Prop) (j BL sp : Nat) (va : Value) (J : Jr) (h : JAt w F j BL va sp J) (n : Nat) (hn : J.cs.length = n) (hn9 : n ≤ 1000000) (cs : List Cmd) (c : Cmd) (hc : J.cs = cs ++ [c]) (ho : c.over = false) (of : Nat) (hof : c.out.length = of) (t : List UInt8) (num : Int) (sq : Option Addr) (a b d : Int)
    (hfit : ∀ w', Kept (fun _ => False) w w' → Calls Tryz.prog 67 #[.pointer (some ⟨j, 0, none⟩), rv 2 (n : Int) t 2 (of : Int) num sq a b d] w' fun e w2 => e = .returned (.int .i64 0) ∧ Kept (fun _ => False) w' w2) :
    Calls Tryz.prog 27 #[.pointer (some ⟨j, 0, none⟩), rv 2 (n : Int) t 2 (of : Int) num sq a b d] w fun e w' => e = .returned (.bool true) ∧ Kept (fun _ => False) w w' := by
  unfold rv at hfit ⊢
  obtain ⟨b0, cap, rfl, hq1, hq2, hcl⟩ := h.cell hc
  obtain ⟨m, hcm⟩ : ∃ m, cs.length = m := ⟨_, rfl⟩
  have c2 := hcl 2 (by decide); have c3 := hcl 3 (by decide)
  simp only [Cmd.cells, List.getElem?_cons_zero, List.getElem?_cons_succ] at c2 c3
  rw [hcm] at c2 c3
  have HC := Lw.hid hc; have HO := Lw.hid ho; have HCM := Lw.hid hcm
  have hob : (BA c.out).size = of := by rw [BA_size]; exact hof
  have HCX := Lw.hid c2
  unfold maxLen at hq2
  clear hc ho hcl hcm hof c2 c3
  have H := Lw.hid h; have HF := Lw.hid hfit
  have HLN : Hid (J.cs.length % 4294967296 = n) := Lw.hid (by rw [hn]; exact Nat.mod_eq_of_lt (by omega))
  obtain ⟨w1, hw1⟩ : ∃ w1, w.alloc (.cells #[.int .u8 2, .int .u32 (n : Int), .string (BA t), .int .i64 2, .int .i64 (of : Int), .int .i64 num, .pointer sq, .int .u32 a, .int .u32 b, .int .u32 d] 69) = w1 := ⟨_, rfl⟩
  obtain ⟨r, hr⟩ : ∃ r, w.heap.size = r := ⟨_, rfl⟩
  have K1 : Hid (Kept (fun _ => False) w w1) := Lw.hid (by rw [← hw1]; exact (Kept.refl _ w).alloc _)
  have HRB : Hid (w1.heap[r]? = some (.cells #[.int .u8 2, .int .u32 (n : Int), .string (BA t), .int .i64 2, .int .i64 (of : Int), .int .i64 num, .pointer sq, .int .u32 a, .int .u32 b, .int .u32 d] 69 (0, 0))) := Lw.hid (by rw [← hw1, ← hr]; exact heap_alloc w _)
  have HW1 := Lw.hid hw1; have HR := Lw.hid hr
  clear h hfit hw1 hr hn
  go_enter Tryz.func27, Tryz.ntmps27
  go_wp2_with fail
  rw [HW1.out, HR.out]
  refine (HF.out w1 K1.out).mono ?_
  rintro e w2 ⟨rfl, k2⟩
  have K2 := Lw.hid (K1.out.trans k2 (fun _ _ h => h))
  have HRB2 := Lw.hid (k2.heap HRB.out (fun h => h))
  have H2 := Lw.hid (H.out.kept K2.out (fun _ _ h => h))
  clear k2
  have u0 := heap_cell HRB2.out 0
  go_wp2_with fail
  clear u0
  refine wp_region_tail 24 [stV (.pointer (some ⟨r, 1, none⟩)), stV (.int .u32 (n : Int)), stV (.pointer (some ⟨j, 0, none⟩)), stV (.int .u32 (n : Int)), stV (.bool true), stV (.bool true), stV (.pointer (some ⟨r, 0, none⟩)), stV (.int .u8 2), stV (.bool false), stV (.bool false), stV (.pointer (some ⟨r, 4, none⟩)), stV (.int .i64 (of : Int)), stV (.pointer (some ⟨j, 0, none⟩)), stV (.pointer (some ⟨b0, m * 8, none⟩)), stV (.pointer (some ⟨r, 3, none⟩)), stV (.int .i64 2), stV (.pointer (some ⟨b0, m * 8 + 2, none⟩)), stV (.pointer (some ⟨b0, m * 8 + 2, none⟩)), stV (.string (BA c.out)), stV (.int .i64 (of : Int)), stV (.bool true), stV (.bool true), stV (.bool true), stV (.bool true)] (by kernel_rfl) (by kernel_rfl) ?_ ?_
  · iterate 3
      refine ssteps_cons (fun a' w' hI hag hf K hK => ?_) ?_
      · obtain ⟨⟨_, h0, rfl⟩, -⟩ := hf
        have s0 := hag.same 0 (by decide)
        have s3 := hag.same 3 (by decide)
        clear hag
        have c1 := heap_cell (hI.heap HRB2.out (fun h => h)) 1
        go_wp2_with fail
        exact hK _ _ hI (Kept.refl _ _) rfl
    refine ssteps_cons (fun a' w' hI hag hf K hK => ?_) ?_
    · obtain ⟨⟨_, h2, rfl⟩, -⟩ : SFacts _ _ a' w' [2] := hf
      clear hag
      have HI := Lw.hid hI
      clear hI
      go_wp2_with fail
      refine (jlast_any w' F j BL sp _ J (H2.out.kept HI.out (fun _ _ h => h))).mono ?_
      rw [HLN.out]
      rintro e w4 ⟨rfl, rfl⟩
      go_wp2_with fail
      exact hK _ _ HI.out (Kept.refl _ _) rfl
    iterate 9
      refine ssteps_cons (fun a' w' hI hag hf K hK => ?_) ?_
      · obtain ⟨⟨_, h0, rfl⟩, ⟨_, h1, rfl⟩, -⟩ := hf
        have s0 := hag.same 0 (by decide)
        have s3 := hag.same 3 (by decide)
        clear hag
        have c0 := heap_cell (hI.heap HRB2.out (fun h => h)) 0
        have c4 := heap_cell (hI.heap HRB2.out (fun h => h)) 4
        go_wp2_with fail
        exact hK _ _ hI (Kept.refl _ _) rfl
    refine ssteps_cons (fun a' w' hI hag hf K hK => ?_) ?_
    · obtain ⟨⟨_, h12, rfl⟩, ⟨_, h9, rfl⟩, -⟩ : SFacts _ _ a' w' [12, 9] := hf
      clear hag
      have HI := Lw.hid hI
      clear hI
      go_wp2_with fail
      refine (jopen_yes w' F j BL sp _ J (H2.out.kept HI.out (fun _ _ h => h)) cs c HC.out HO.out b0 cap (by rfl)).mono ?_
      rw [HCM.out]
      rintro e w4 ⟨rfl, rfl⟩
      go_wp2_with fail
      exact hK _ _ HI.out (Kept.refl _ _) rfl
    iterate 2
      refine ssteps_cons (fun a' w' hI hag hf K hK => ?_) ?_
      · obtain ⟨⟨_, h0, rfl⟩, ⟨_, h1, rfl⟩, -⟩ := hf
        have s3 := hag.same 3 (by decide)
        clear hag
        have c3 := heap_cell (hI.heap HRB2.out (fun h => h)) 3
        go_wp2_with fail
        exact hK _ _ hI (Kept.refl _ _) rfl
    refine ssteps_cons (fun a' w' hI hag hf K hK => ?_) ?_
    · obtain ⟨⟨_, h13, rfl⟩, ⟨_, h15, rfl⟩, ⟨_, h9, rfl⟩, -⟩ : SFacts _ _ a' w' [13, 15, 9] := hf
      clear hag
      go_wp2_with fail
      refine (channel_any w' b0 (m * 8) 2).mono ?_
      rintro e w4 ⟨rfl, rfl⟩
      go_wp2_with fail
      exact hK _ _ hI (Kept.refl _ _) rfl
    iterate 7
      refine ssteps_cons (fun a' w' hI hag hf K hK => ?_) ?_
      · obtain ⟨⟨_, h0, rfl⟩, ⟨_, h1, rfl⟩, ⟨_, h2, rfl⟩, ⟨_, h3, rfl⟩, ⟨_, h4, rfl⟩, ⟨_, h5, rfl⟩, ⟨_, h6, rfl⟩, ⟨_, h7, rfl⟩, ⟨_, h8, rfl⟩, ⟨_, h9, rfl⟩, ⟨_, h10, rfl⟩, ⟨_, h11, rfl⟩, ⟨_, h12, rfl⟩, ⟨_, h13, rfl⟩, ⟨_, h14, rfl⟩, ⟨_, h15, rfl⟩, ⟨_, h16, rfl⟩, ⟨_, h17, rfl⟩, ⟨_, h18, rfl⟩, ⟨_, h19, rfl⟩, ⟨_, h20, rfl⟩, ⟨_, h21, rfl⟩, ⟨_, h22, rfl⟩, -⟩ := hf
        clear hag
        have cx := (K2.out.trans hI (fun _ _ h => h)).cell HCX.out (fun h => h)
        go_wp2_with fail
        exact hK _ _ hI (Kept.refl _ _) rfl
    exact trivial
  · intro vs wz hI hvs
    simp only [pzz, putAll, Act.put, Nat.reduceAdd, spv (hvs 0 _ _ rfl rfl) rfl, spv (hvs 1 _ _ rfl rfl) rfl, spv (hvs 2 _ _ rfl rfl) rfl, spv (hvs 3 _ _ rfl rfl) rfl, spv (hvs 4 _ _ rfl rfl) rfl, spv (hvs 5 _ _ rfl rfl) rfl, spv (hvs 6 _ _ rfl rfl) rfl, spv (hvs 7 _ _ rfl rfl) rfl, spv (hvs 8 _ _ rfl rfl) rfl, spv (hvs 9 _ _ rfl rfl) rfl, spv (hvs 10 _ _ rfl rfl) rfl, spv (hvs 11 _ _ rfl rfl) rfl, spv (hvs 12 _ _ rfl rfl) rfl, spv (hvs 13 _ _ rfl rfl) rfl, spv (hvs 14 _ _ rfl rfl) rfl, spv (hvs 15 _ _ rfl rfl) rfl, spv (hvs 16 _ _ rfl rfl) rfl, spv (hvs 17 _ _ rfl rfl) rfl, spv (hvs 18 _ _ rfl rfl) rfl, spv (hvs 19 _ _ rfl rfl) rfl, spv (hvs 20 _ _ rfl rfl) rfl, spv (hvs 21 _ _ rfl rfl) rfl, spv (hvs 22 _ _ rfl rfl) rfl, spv (hvs 23 _ _ rfl rfl) rfl]
    clear hvs
    have KZ := Lw.hid (K2.out.trans hI (fun _ _ h => h))
    clear hI
    go_wp2_with fail
    go_ret
    exact ⟨rfl, KZ.out⟩
set_option maxHeartbeats 8000000 in
theorem follows23 (w : World) (F : Nat → Prop) (j BL sp : Nat) (va : Value) (J : Jr) (h : JAt w F j BL va sp J) (n : Nat) (hn : J.cs.length = n) (hn9 : n ≤ 1000000) (cs : List Cmd) (c : Cmd) (hc : J.cs = cs ++ [c]) (ho : c.over = false) (of : Nat) (hof : c.err.length = of) (t : List UInt8) (num : Int) (sq : Option Addr) (a b d : Int)
    (hfit : ∀ w', Kept (fun _ => False) w w' → Calls Tryz.prog 67 #[.pointer (some ⟨j, 0, none⟩), rv 2 (n : Int) t 3 (of : Int) num sq a b d] w' fun e w2 => e = .returned (.int .i64 0) ∧ Kept (fun _ => False) w' w2) :
    Calls Tryz.prog 27 #[.pointer (some ⟨j, 0, none⟩), rv 2 (n : Int) t 3 (of : Int) num sq a b d] w fun e w' => e = .returned (.bool true) ∧ Kept (fun _ => False) w w' := by
  unfold rv at hfit ⊢
  obtain ⟨b0, cap, rfl, hq1, hq2, hcl⟩ := h.cell hc
  obtain ⟨m, hcm⟩ : ∃ m, cs.length = m := ⟨_, rfl⟩
  have c2 := hcl 2 (by decide); have c3 := hcl 3 (by decide)
  simp only [Cmd.cells, List.getElem?_cons_zero, List.getElem?_cons_succ] at c2 c3
  rw [hcm] at c2 c3
  have HC := Lw.hid hc; have HO := Lw.hid ho; have HCM := Lw.hid hcm
  have hob : (BA c.err).size = of := by rw [BA_size]; exact hof
  have HCX := Lw.hid c3
  unfold maxLen at hq2
  clear hc ho hcl hcm hof c2 c3
  have H := Lw.hid h; have HF := Lw.hid hfit
  have HLN : Hid (J.cs.length % 4294967296 = n) := Lw.hid (by rw [hn]; exact Nat.mod_eq_of_lt (by omega))
  obtain ⟨w1, hw1⟩ : ∃ w1, w.alloc (.cells #[.int .u8 2, .int .u32 (n : Int), .string (BA t), .int .i64 3, .int .i64 (of : Int), .int .i64 num, .pointer sq, .int .u32 a, .int .u32 b, .int .u32 d] 69) = w1 := ⟨_, rfl⟩
  obtain ⟨r, hr⟩ : ∃ r, w.heap.size = r := ⟨_, rfl⟩
  have K1 : Hid (Kept (fun _ => False) w w1) := Lw.hid (by rw [← hw1]; exact (Kept.refl _ w).alloc _)
  have HRB : Hid (w1.heap[r]? = some (.cells #[.int .u8 2, .int .u32 (n : Int), .string (BA t), .int .i64 3, .int .i64 (of : Int), .int .i64 num, .pointer sq, .int .u32 a, .int .u32 b, .int .u32 d] 69 (0, 0))) := Lw.hid (by rw [← hw1, ← hr]; exact heap_alloc w _)
  have HW1 := Lw.hid hw1; have HR := Lw.hid hr
  clear h hfit hw1 hr hn
  go_enter Tryz.func27, Tryz.ntmps27
  go_wp2_with fail
  rw [HW1.out, HR.out]
  refine (HF.out w1 K1.out).mono ?_
  rintro e w2 ⟨rfl, k2⟩
  have K2 := Lw.hid (K1.out.trans k2 (fun _ _ h => h))
  have HRB2 := Lw.hid (k2.heap HRB.out (fun h => h))
  have H2 := Lw.hid (H.out.kept K2.out (fun _ _ h => h))
  clear k2
  have u0 := heap_cell HRB2.out 0
  go_wp2_with fail
  clear u0
  refine wp_region_tail 24 [stV (.pointer (some ⟨r, 1, none⟩)), stV (.int .u32 (n : Int)), stV (.pointer (some ⟨j, 0, none⟩)), stV (.int .u32 (n : Int)), stV (.bool true), stV (.bool true), stV (.pointer (some ⟨r, 0, none⟩)), stV (.int .u8 2), stV (.bool false), stV (.bool false), stV (.pointer (some ⟨r, 4, none⟩)), stV (.int .i64 (of : Int)), stV (.pointer (some ⟨j, 0, none⟩)), stV (.pointer (some ⟨b0, m * 8, none⟩)), stV (.pointer (some ⟨r, 3, none⟩)), stV (.int .i64 3), stV (.pointer (some ⟨b0, m * 8 + 3, none⟩)), stV (.pointer (some ⟨b0, m * 8 + 3, none⟩)), stV (.string (BA c.err)), stV (.int .i64 (of : Int)), stV (.bool true), stV (.bool true), stV (.bool true), stV (.bool true)] (by kernel_rfl) (by kernel_rfl) ?_ ?_
  · iterate 3
      refine ssteps_cons (fun a' w' hI hag hf K hK => ?_) ?_
      · obtain ⟨⟨_, h0, rfl⟩, -⟩ := hf
        have s0 := hag.same 0 (by decide)
        have s3 := hag.same 3 (by decide)
        clear hag
        have c1 := heap_cell (hI.heap HRB2.out (fun h => h)) 1
        go_wp2_with fail
        exact hK _ _ hI (Kept.refl _ _) rfl
    refine ssteps_cons (fun a' w' hI hag hf K hK => ?_) ?_
    · obtain ⟨⟨_, h2, rfl⟩, -⟩ : SFacts _ _ a' w' [2] := hf
      clear hag
      have HI := Lw.hid hI
      clear hI
      go_wp2_with fail
      refine (jlast_any w' F j BL sp _ J (H2.out.kept HI.out (fun _ _ h => h))).mono ?_
      rw [HLN.out]
      rintro e w4 ⟨rfl, rfl⟩
      go_wp2_with fail
      exact hK _ _ HI.out (Kept.refl _ _) rfl
    iterate 9
      refine ssteps_cons (fun a' w' hI hag hf K hK => ?_) ?_
      · obtain ⟨⟨_, h0, rfl⟩, ⟨_, h1, rfl⟩, -⟩ := hf
        have s0 := hag.same 0 (by decide)
        have s3 := hag.same 3 (by decide)
        clear hag
        have c0 := heap_cell (hI.heap HRB2.out (fun h => h)) 0
        have c4 := heap_cell (hI.heap HRB2.out (fun h => h)) 4
        go_wp2_with fail
        exact hK _ _ hI (Kept.refl _ _) rfl
    refine ssteps_cons (fun a' w' hI hag hf K hK => ?_) ?_
    · obtain ⟨⟨_, h12, rfl⟩, ⟨_, h9, rfl⟩, -⟩ : SFacts _ _ a' w' [12, 9] := hf
      clear hag
      have HI := Lw.hid hI
      clear hI
      go_wp2_with fail
      refine (jopen_yes w' F j BL sp _ J (H2.out.kept HI.out (fun _ _ h => h)) cs c HC.out HO.out b0 cap (by rfl)).mono ?_
      rw [HCM.out]
      rintro e w4 ⟨rfl, rfl⟩
      go_wp2_with fail
      exact hK _ _ HI.out (Kept.refl _ _) rfl
    iterate 2
      refine ssteps_cons (fun a' w' hI hag hf K hK => ?_) ?_
      · obtain ⟨⟨_, h0, rfl⟩, ⟨_, h1, rfl⟩, -⟩ := hf
        have s3 := hag.same 3 (by decide)
        clear hag
        have c3 := heap_cell (hI.heap HRB2.out (fun h => h)) 3
        go_wp2_with fail
        exact hK _ _ hI (Kept.refl _ _) rfl
    refine ssteps_cons (fun a' w' hI hag hf K hK => ?_) ?_
    · obtain ⟨⟨_, h13, rfl⟩, ⟨_, h15, rfl⟩, ⟨_, h9, rfl⟩, -⟩ : SFacts _ _ a' w' [13, 15, 9] := hf
      clear hag
      go_wp2_with fail
      refine (channel_any w' b0 (m * 8) 3).mono ?_
      rintro e w4 ⟨rfl, rfl⟩
      go_wp2_with fail
      exact hK _ _ hI (Kept.refl _ _) rfl
    iterate 7
      refine ssteps_cons (fun a' w' hI hag hf K hK => ?_) ?_
      · obtain ⟨⟨_, h0, rfl⟩, ⟨_, h1, rfl⟩, ⟨_, h2, rfl⟩, ⟨_, h3, rfl⟩, ⟨_, h4, rfl⟩, ⟨_, h5, rfl⟩, ⟨_, h6, rfl⟩, ⟨_, h7, rfl⟩, ⟨_, h8, rfl⟩, ⟨_, h9, rfl⟩, ⟨_, h10, rfl⟩, ⟨_, h11, rfl⟩, ⟨_, h12, rfl⟩, ⟨_, h13, rfl⟩, ⟨_, h14, rfl⟩, ⟨_, h15, rfl⟩, ⟨_, h16, rfl⟩, ⟨_, h17, rfl⟩, ⟨_, h18, rfl⟩, ⟨_, h19, rfl⟩, ⟨_, h20, rfl⟩, ⟨_, h21, rfl⟩, ⟨_, h22, rfl⟩, -⟩ := hf
        clear hag
        have cx := (K2.out.trans hI (fun _ _ h => h)).cell HCX.out (fun h => h)
        go_wp2_with fail
        exact hK _ _ hI (Kept.refl _ _) rfl
    exact trivial
  · intro vs wz hI hvs
    simp only [pzz, putAll, Act.put, Nat.reduceAdd, spv (hvs 0 _ _ rfl rfl) rfl, spv (hvs 1 _ _ rfl rfl) rfl, spv (hvs 2 _ _ rfl rfl) rfl, spv (hvs 3 _ _ rfl rfl) rfl, spv (hvs 4 _ _ rfl rfl) rfl, spv (hvs 5 _ _ rfl rfl) rfl, spv (hvs 6 _ _ rfl rfl) rfl, spv (hvs 7 _ _ rfl rfl) rfl, spv (hvs 8 _ _ rfl rfl) rfl, spv (hvs 9 _ _ rfl rfl) rfl, spv (hvs 10 _ _ rfl rfl) rfl, spv (hvs 11 _ _ rfl rfl) rfl, spv (hvs 12 _ _ rfl rfl) rfl, spv (hvs 13 _ _ rfl rfl) rfl, spv (hvs 14 _ _ rfl rfl) rfl, spv (hvs 15 _ _ rfl rfl) rfl, spv (hvs 16 _ _ rfl rfl) rfl, spv (hvs 17 _ _ rfl rfl) rfl, spv (hvs 18 _ _ rfl rfl) rfl, spv (hvs 19 _ _ rfl rfl) rfl, spv (hvs 20 _ _ rfl rfl) rfl, spv (hvs 21 _ _ rfl rfl) rfl, spv (hvs 22 _ _ rfl rfl) rfl, spv (hvs 23 _ _ rfl rfl) rfl]
    clear hvs
    have KZ := Lw.hid (K2.out.trans hI (fun _ _ h => h))
    clear hI
    go_wp2_with fail
    go_ret
    exact ⟨rfl, KZ.out⟩
end Go.Proofs.YtgegjjnfcnalfaaGreatDoor
