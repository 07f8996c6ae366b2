/- Of the proof of TopBooks: QD. -/
import Derived.Test.YtgegjjnfcnalfaaGreatDoorG38
import Derived.Test.YtgegjjnfcnalfaaGreatDoorG31
import Derived.Great.BuildSlice
namespace Go.Proofs.YtgegjjnfcnalfaaGreatDoor
open Go Go.RowKit Go.Lw
set_option maxRecDepth 100000
set_option linter.unusedVariables false
set_option linter.unusedSimpArgs false
attribute [local go_sem] BA_toList
theorem rs_byteN (lo hi : Nat) (w : World) (br n : Nat) (hn : n < 256) (l : List UInt8) (h : RS lo hi w br (UInt8.ofNat n :: l)) :
    Calls Tryz.prog 59 #[.pointer (some ⟨br, 0, none⟩)] w fun e w' => e = .returned (.int .u8 (n : Int)) ∧ RS lo hi w' br l ∧ Kept (fun k => k = br) w w' := by
  have h1 := rs_byte lo hi w br _ l h
  have hnn : (UInt8.ofNat n).toNat = n := by simp [UInt8.toNat_ofNat', Nat.mod_eq_of_lt hn]
  rw [hnn] at h1
  exact h1
theorem kept_setRow (w : World) (g : Nat) (cs : Array Value) : Kept (fun k => k = g) w (w.setRow g cs) :=
  ⟨rfl, rfl, rfl, by simp, fun k _ h => setRow_other w g k cs h⟩
set_option maxHeartbeats 16000000 in
theorem read1_any (w : World) (v : Value) (id : Nat) (t : List UInt8) (hid : id < 4294967296) (ht : t.length ≤ 60) (hv : RdB w v (recB1 id t)) :
    Calls Tryz.prog 26 #[v] w fun e w' => e = .returned (.tuple #[rv 1 id t 0 0 0 none 0 0 0, .bool true]) ∧ Kept (fun _ => False) w w' := by
  have hlen : (recB1 id t).length ≤ 6000 := by simp [recB1, be_length]; omega
  obtain ⟨ad, cap, rfl, hc1, hc2, _⟩ := hv.open
  have HV := Lw.hid hv
  clear hv
  obtain ⟨L, hL⟩ : ∃ L, recB1 id t = L := ⟨_, rfl⟩
  have HL := Lw.hid hL
  rw [hL] at HV hc1 hlen ⊢
  obtain ⟨sl, hsl2⟩ : ∃ sl, L.length = sl := ⟨_, rfl⟩
  have HSL := Lw.hid hsl2
  rw [hsl2] at HV hc1 hlen ⊢
  obtain ⟨wA, hwA⟩ : ∃ wA, w.alloc (.cells #[.int .u8 0, .int .u32 0, .string ⟨#[]⟩, .int .i64 0, .int .i64 0, .int .i64 0, .pointer none, .int .u32 0, .int .u32 0, .int .u32 0] 69) = wA := ⟨_, rfl⟩
  obtain ⟨b2, hb2⟩ : ∃ b2, w.heap.size = b2 := ⟨_, rfl⟩
  have KA : Hid (Kept (fun _ => False) w wA) := Lw.hid (by rw [← hwA]; exact (Kept.refl _ w).alloc _)
  have BA2 : Hid (wA.heap[b2]? = some (.cells #[.int .u8 0, .int .u32 0, .string ⟨#[]⟩, .int .i64 0, .int .i64 0, .int .i64 0, .pointer none, .int .u32 0, .int .u32 0, .int .u32 0] 69 (0, 0))) := Lw.hid (by rw [← hwA, ← hb2]; exact heap_alloc w _)
  have HWA := Lw.hid hwA
  obtain ⟨lo, hlo⟩ : ∃ lo, wA.heap.size = lo := ⟨_, rfl⟩
  have hlo2 : lo = b2 + 1 := by rw [← hlo, ← hwA, ← hb2]; simp
  have HLO := Lw.hid hlo; have HB2 := Lw.hid hb2
  clear hL hsl2 hwA hb2 hlo
  go_enter Tryz.func26, Tryz.ntmps26
  go_wp2_with fail
  rw [HWA.out, HB2.out]
  refine (rs_new wA _ L (HV.out.kept KA.out (fun _ _ h => h)) (by rw [HSL.out]; omega)).mono ?_
  rintro e w1 ⟨br, rfl, hr1, k1⟩
  obtain ⟨hi, hhi⟩ : ∃ hi, w1.heap.size = hi := ⟨_, rfl⟩
  rw [hhi, HLO.out] at hr1
  have hbr : lo ≤ br ∧ br < hi := by obtain ⟨_, _, h, _⟩ := hr1; exact h
  have hrl : recB1 id t = (1 : UInt8) :: (be 4 id ++ (be 2 t.length ++ t ++ [])) := by simp [recB1]
  rw [← HL.out, hrl] at hr1
  have R1 := Lw.hid hr1; have K1 := Lw.hid (KA.out.trans k1 (fun _ _ h => h)); have HHI := Lw.hid hhi
  have C1 := Lw.hid (k1.heap BA2.out (fun h => h))
  clear hr1 k1 hhi hrl
  go_wp2_with fail
  refine (rs_byte _ _ w1 br _ _ R1.out).mono ?_
  rintro e w2 ⟨rfl, hr2, k2⟩
  have R2 := Lw.hid hr2
  have C2 := Lw.hid (k2.heap C1.out (fun e => by omega))
  have K2 : Hid (Kept (fun _ => False) w w2) := Lw.hid (K1.out.trans k2 (fun i hi e => by have := HB2.out; omega))
  have hsz2 : hi ≤ w2.heap.size := by have := k2.size; have := HHI.out; omega
  clear hr2 k2
  obtain ⟨w3, hw3⟩ : ∃ w3, w2.alloc (.cells #[.int .u8 1, .int .u32 0, .string ⟨#[]⟩, .int .i64 0, .int .i64 0, .int .i64 0, .pointer none, .int .u32 0, .int .u32 0, .int .u32 0] 69) = w3 := ⟨_, rfl⟩
  obtain ⟨r, hr⟩ : ∃ r, w2.heap.size = r := ⟨_, rfl⟩
  have k3 : Kept (fun _ => False) w2 w3 := by rw [← hw3]; exact (Kept.refl _ w2).alloc _
  have RB3 : Hid (w3.heap[r]? = some (.cells #[.int .u8 1, .int .u32 0, .string ⟨#[]⟩, .int .i64 0, .int .i64 0, .int .i64 0, .pointer none, .int .u32 0, .int .u32 0, .int .u32 0] 69 (0, 0))) := Lw.hid (by rw [← hw3, ← hr]; exact heap_alloc w2 _)
  have hrr : hi ≤ r := by omega
  have R3 := Lw.hid (R2.out.kept k3 (fun _ _ _ h => h)); have C3 := Lw.hid (k3.heap C2.out (fun h => h)); have K3 := Lw.hid (K2.out.trans k3 (fun _ _ h => h))
  have HW3 := Lw.hid hw3; have HRR := Lw.hid hr
  clear hw3 hr k3 hsz2
  go_wp2_with fail
  rw [HW3.out, HRR.out]
  refine (rs_four _ _ w3 br id hid _ R3.out).mono ?_
  rintro e w4 ⟨rfl, hr4, k4⟩
  have R4 := Lw.hid hr4
  have RB4 := Lw.hid (k4.heap RB3.out (fun e => by omega)); have C4 := Lw.hid (k4.heap C3.out (fun e => by omega))
  have K4 : Hid (Kept (fun _ => False) w w4) := Lw.hid (K3.out.trans k4 (fun i hi e => by have := HB2.out; omega))
  clear hr4 k4
  have y5_1 := heap_cell (RB4.out) 1; have z5_1 := heap_free (RB4.out) 1
  have g5_1 := heap_set (RB4.out) 1 (.int .u32 (id : Int))
  simp only [List.setIfInBounds_toArray, List.set_cons_zero, List.set_cons_succ] at g5_1
  obtain ⟨w5, hw5⟩ : ∃ w5, (w4).setCell ⟨r, 1, none⟩ (.int .u32 (id : Int)) = w5 := ⟨_, rfl⟩
  have k5 : Kept (fun k => k = r) w4 w5 := by rw [← hw5]; exact ((Kept.refl (fun k => k = r) w4).set r 1 (fun _ => rfl) (.int .u32 (id : Int)))
  have u5 := heap_cell g5_1 0
  rw [hw5] at g5_1
  have RB5 := Lw.hid g5_1; have HW5 := Lw.hid hw5
  have R5 := Lw.hid (R4.out.kept k5 (fun i h1 h2 h3 => by omega)); have C5 := Lw.hid (k5.heap C4.out (fun e => by omega))
  have K5 : Hid (Kept (fun _ => False) w w5) := Lw.hid (K4.out.trans k5 (fun i hi e => by have := HB2.out; omega))
  clear k5 hw5 g5_1
  go_wp2_with fail
  rw [HW5.out]
  clear u5 y5_1 z5_1
  refine (rs_text _ _ w5 br t [] ht R5.out).mono ?_
  rintro e w6 ⟨rfl, hr6, k6⟩
  have R6 := Lw.hid hr6
  have RB6 := Lw.hid (k6.heap RB5.out (fun e => by omega)); have C6 := Lw.hid (k6.heap C5.out (fun e => by omega))
  have K6 : Hid (Kept (fun _ => False) w w6) := Lw.hid (K5.out.trans k6 (fun i hi e => by have := HB2.out; omega))
  clear hr6 k6
  have y7_2 := heap_cell (RB6.out) 2; have z7_2 := heap_free (RB6.out) 2
  have g7_2 := heap_set (RB6.out) 2 (.string (BA t))
  simp only [List.setIfInBounds_toArray, List.set_cons_zero, List.set_cons_succ] at g7_2
  obtain ⟨w7, hw7⟩ : ∃ w7, (w6).setCell ⟨r, 2, none⟩ (.string (BA t)) = w7 := ⟨_, rfl⟩
  have k7 : Kept (fun k => k = r) w6 w7 := by rw [← hw7]; exact ((Kept.refl (fun k => k = r) w6).set r 2 (fun _ => rfl) (.string (BA t)))
  have u7 := heap_cell g7_2 0
  rw [hw7] at g7_2
  have RB7 := Lw.hid g7_2; have HW7 := Lw.hid hw7
  have R7 := Lw.hid (R6.out.kept k7 (fun i h1 h2 h3 => by omega)); have C7 := Lw.hid (k7.heap C6.out (fun e => by omega))
  have K7 : Hid (Kept (fun _ => False) w w7) := Lw.hid (K6.out.trans k7 (fun i hi e => by have := HB2.out; omega))
  clear k7 hw7 g7_2
  go_wp2_with fail
  rw [HW7.out]
  clear u7 y7_2 z7_2
  have HRT : Hid (rightB 1 0 0 = true) := Lw.hid (by rfl)
  have HPH : Hid (∀ (x y : World), Kept (fun _ => False) x y → x.heap[b2]? = some (.cells #[.int .u8 1, .int .u32 (id : Int), .string (BA t), .int .i64 0, .int .i64 0, .int .i64 0, .pointer none, .int .u32 0, .int .u32 0, .int .u32 0] 69 (0, 0)) → y.heap[b2]? = some (.cells #[.int .u8 1, .int .u32 (id : Int), .string (BA t), .int .i64 0, .int .i64 0, .int .i64 0, .pointer none, .int .u32 0, .int .u32 0, .int .u32 0] 69 (0, 0))) := Lw.hid (fun x y k h => k.heap h (fun h => h))
  refine wp_region_set 15 (AI 13 (fun k => k = b2) (fun wx => wx.heap[b2]? = some (.cells #[.int .u8 1, .int .u32 (id : Int), .string (BA t), .int .i64 0, .int .i64 0, .int .i64 0, .pointer none, .int .u32 0, .int .u32 0, .int .u32 0] 69 (0, 0))) w7) (aR (fun k => k = b2)) [gV (.agg #[.int .u8 1, .int .u32 (id : Int), .string (BA t), .int .i64 0, .int .i64 0, .int .i64 0, .pointer none, .int .u32 0, .int .u32 0, .int .u32 0]), gV (.pointer (some ⟨br, 0, none⟩)), gV (.int .i64 0), gV (.bool true), gV (.bool true), gV (.pointer (some ⟨br, 0, none⟩)), gV (.int .i64 0), gV (.bool true), gV (.bool true), gV (.bool true), gV (.agg #[.int .u8 1, .int .u32 (id : Int), .string (BA t), .int .i64 0, .int .i64 0, .int .i64 0, .pointer none, .int .u32 0, .int .u32 0, .int .u32 0]), gV (.bool true), gV (.bool true), gV undef, gV (.bool true)] (false) (by kernel_rfl) (by kernel_rfl) (AI.start ((Kept.refl _ w7).drew)) ?_ ?_
  · refine gsteps_cons (fun D γ a' w' hI hD0 hdep hcl hag hlt hf K hK => ?_) ?_
    · have s5 := hag.same 5 (by decide)
      clear hlt
      clear hag
      have hrb := hI.kept.heap RB7.out (fun e => by omega)
      have c0 := heap_cell hrb 0
      have c1 := heap_cell hrb 1
      have c2 := heap_cell hrb 2
      have c3 := heap_cell hrb 3
      have c4 := heap_cell hrb 4
      have c5 := heap_cell hrb 5
      have c6 := heap_cell hrb 6
      have c7 := heap_cell hrb 7
      have c8 := heap_cell hrb 8
      have c9 := heap_cell hrb 9
      clear hrb
      go_wp2_with fail
      exact hK _ _ _ (hI.pure HPH.out (Kept.refl _ _) rfl) (aR.pure (Kept.refl _ _)) rfl
    refine gsteps_cons (fun D γ a' w' hI hD0 hdep hcl hag hlt hf K hK => ?_) ?_
    · have s4 := hag.same 4 (by decide)
      clear hlt
      clear hag
      go_wp2_with fail
      exact hK _ _ _ (hI.pure HPH.out (Kept.refl _ _) rfl) (aR.pure (Kept.refl _ _)) rfl
    refine gsteps_cons (fun D γ a' w' hI hD0 hdep hcl hag hlt hf K hK => ?_) ?_
    · obtain ⟨⟨_, h1, rfl⟩, -⟩ : SFacts _ _ a' w' [1] := hf
      clear hlt
      clear hag
      have HR4 := Lw.hid (R7.out.kept hI.kept (fun i h1 h2 h3 => by omega))
      go_wp2_with fail
      refine (rs_err _ _ w' br _ HR4.out).mono ?_
      rintro e w4 ⟨rfl, rfl⟩
      go_wp2_with fail
      exact hK _ _ _ (hI.pure HPH.out (Kept.refl _ _) rfl) (aR.pure (Kept.refl _ _)) rfl
    refine gsteps_cons (fun D γ a' w' hI hD0 hdep hcl hag hlt hf K hK => ?_) ?_
    · obtain ⟨⟨_, h2, rfl⟩, -⟩ : SFacts _ _ a' w' [2] := hf
      clear hlt
      clear hag
      go_wp2_with fail
      exact hK _ _ _ (hI.pure HPH.out (Kept.refl _ _) rfl) (aR.pure (Kept.refl _ _)) rfl
    refine gsteps_cons (fun D γ a' w' hI hD0 hdep hcl hag hlt hf K hK => ?_) ?_
    · obtain ⟨⟨_, h3, rfl⟩, -⟩ : SFacts _ _ a' w' [3, 2] := hf
      clear hlt
      clear hag
      go_wp2_with fail
      exact hK _ _ _ (hI.pure HPH.out (Kept.refl _ _) rfl) (aR.pure (Kept.refl _ _)) rfl
    refine gsteps_cons (fun D γ a' w' hI hD0 hdep hcl hag hlt hf K hK => ?_) ?_
    · obtain ⟨⟨_, h4, rfl⟩, -⟩ : SFacts _ _ a' w' [4] := hf
      have s4 := hag.same 4 (by decide)
      clear hlt
      clear hag
      go_wp2_with fail
      exact hK _ _ _ (hI.pure HPH.out (Kept.refl _ _) rfl) (aR.pure (Kept.refl _ _)) rfl
    refine gsteps_cons (fun D γ a' w' hI hD0 hdep hcl hag hlt hf K hK => ?_) ?_
    · obtain ⟨⟨_, h5, rfl⟩, ⟨_, h4, rfl⟩, -⟩ : SFacts _ _ a' w' [5, 4] := hf
      clear hlt
      clear hag
      have HR4 := Lw.hid (R7.out.kept hI.kept (fun i h1 h2 h3 => by omega))
      go_wp2_with fail
      refine (rs_left _ _ w' br HR4.out).mono ?_
      rintro e w4 ⟨rfl, rfl⟩
      go_wp2_with fail
      exact hK _ _ _ (hI.pure HPH.out (Kept.refl _ _) rfl) (aR.pure (Kept.refl _ _)) rfl
    refine gsteps_cons (fun D γ a' w' hI hD0 hdep hcl hag hlt hf K hK => ?_) ?_
    · obtain ⟨⟨_, h6, rfl⟩, ⟨_, h4, rfl⟩, -⟩ : SFacts _ _ a' w' [6, 4] := hf
      clear hlt
      clear hag
      go_wp2_with fail
      exact hK _ _ _ (hI.pure HPH.out (Kept.refl _ _) rfl) (aR.pure (Kept.refl _ _)) rfl
    refine gsteps_cons (fun D γ a' w' hI hD0 hdep hcl hag hlt hf K hK => ?_) ?_
    · obtain ⟨⟨_, h4, rfl⟩, ⟨_, h7, rfl⟩, -⟩ : SFacts _ _ a' w' [4, 7] := hf
      clear hlt
      clear hag
      go_wp2_with fail
      exact hK _ _ _ (hI.pure HPH.out (Kept.refl _ _) rfl) (aR.pure (Kept.refl _ _)) rfl
    refine gsteps_cons (fun D γ a' w' hI hD0 hdep hcl hag hlt hf K hK => ?_) ?_
    · obtain ⟨⟨_, h8, rfl⟩, -⟩ : SFacts _ _ a' w' [8, 6] := hf
      clear hlt
      clear hag
      go_wp2_with fail
      exact hK _ _ _ (hI.pure HPH.out (Kept.refl _ _) rfl) (aR.pure (Kept.refl _ _)) rfl
    refine gsteps_cons (fun D γ a' w' hI hD0 hdep hcl hag hlt hf K hK => ?_) ?_
    · obtain ⟨⟨_, h9, rfl⟩, -⟩ : SFacts _ _ a' w' [9] := hf
      have s5 := hag.same 5 (by decide)
      clear hlt
      clear hag
      have hrb := hI.kept.heap RB7.out (fun e => by omega)
      have c0 := heap_cell hrb 0
      have c1 := heap_cell hrb 1
      have c2 := heap_cell hrb 2
      have c3 := heap_cell hrb 3
      have c4 := heap_cell hrb 4
      have c5 := heap_cell hrb 5
      have c6 := heap_cell hrb 6
      have c7 := heap_cell hrb 7
      have c8 := heap_cell hrb 8
      have c9 := heap_cell hrb 9
      clear hrb
      go_wp2_with fail
      exact hK _ _ _ (hI.pure HPH.out (Kept.refl _ _) rfl) (aR.pure (Kept.refl _ _)) rfl
    refine gsteps_cons (fun D γ a' w' hI hD0 hdep hcl hag hlt hf K hK => ?_) ?_
    · obtain ⟨⟨_, h10, rfl⟩, ⟨_, h9, rfl⟩, -⟩ : SFacts _ _ a' w' [10, 9] := hf
      clear hlt
      clear hag
      have HI := Lw.hid hI
      clear hI
      go_wp2_with fail
      refine (right_raw w' 1 id t 0 0 0 none 0 0 0 (by unfold IsKind; decide)).mono ?_
      rw [HRT.out]
      rintro e w4 ⟨rfl, k4⟩
      have K4 := Lw.hid k4
      clear k4
      go_wp2_with fail
      exact hK _ _ _ (HI.out.pure HPH.out K4.out rfl) (aR.pure K4.out) rfl
    refine gsteps_cons (fun D γ a' w' hI hD0 hdep hcl hag hlt hf K hK => ?_) ?_
    · obtain ⟨⟨_, h9, rfl⟩, ⟨_, h11, rfl⟩, -⟩ : SFacts _ _ a' w' [9, 11] := hf
      clear hlt
      clear hag
      go_wp2_with fail
      exact hK _ _ _ (hI.pure HPH.out (Kept.refl _ _) rfl) (aR.pure (Kept.refl _ _)) rfl
    refine gsteps_cons (fun D γ a' w' hI hD0 hdep hcl hag hlt hf K hK => ?_) ?_
    · obtain ⟨⟨_, h0, rfl⟩, -⟩ : SFacts _ _ a' w' [0, 11] := hf
      have s2 := hag.same 2 (by decide)
      clear hlt
      clear hag
      obtain ⟨hg0, hk0⟩ := hI.no hD0
      have hb := hk0.heap C7.out (fun h => h)
      have ks := kept_setRow w' b2 #[.int .u8 1, .int .u32 (id : Int), .string (BA t), .int .i64 0, .int .i64 0, .int .i64 0, .pointer none, .int .u32 0, .int .u32 0, .int .u32 0]
      refine wpList_store_row rfl 69 _ _ rfl b2 #[.int .u8 1, .int .u32 (id : Int), .string (BA t), .int .i64 0, .int .i64 0, .int .i64 0, .pointer none, .int .u32 0, .int .u32 0, .int .u32 0] (by simp [Act.eval, s2]) (by simp [Act.eval, h0]) _ _ hb (by kernel_rfl) rfl (by kernel_rfl) ?_
      exact wpList_nil (hK undef true _ ⟨hI.kept.trans ks (fun _ _ h => h), fun h => by simp at h, fun _ => ⟨rfl, setRow_heap _ _ _ _ _ _ hb⟩⟩ ⟨ks, fun h => by rw [hg0] at h; cases h⟩ rfl)
    refine gsteps_cons (fun D γ a' w' hI hD0 hdep hcl hag hlt hf K hK => ?_) ?_
    · obtain ⟨⟨_, h12, rfl⟩, -⟩ : SFacts _ _ a' w' [12, 13, 0, 1, 2, 3, 4, 5, 6, 7, 8, 9, 10, 11] := hf
      clear hlt
      clear hag
      go_wp2_with fail
      exact hK _ _ _ (hI.pure HPH.out (Kept.refl _ _) rfl) (aR.pure (Kept.refl _ _)) rfl
    exact trivial
  · intro vs γ wz hI hvs
    have q0 : vs 0 = (.agg #[.int .u8 1, .int .u32 (id : Int), .string (BA t), .int .i64 0, .int .i64 0, .int .i64 0, .pointer none, .int .u32 0, .int .u32 0, .int .u32 0]) := hvs 0 _ _ rfl rfl
    have q1 : vs 1 = (.pointer (some ⟨br, 0, none⟩)) := hvs 1 _ _ rfl rfl
    have q2 : vs 2 = (.int .i64 0) := hvs 2 _ _ rfl rfl
    have q3 : vs 3 = (.bool true) := hvs 3 _ _ rfl rfl
    have q4 : vs 4 = (.bool true) := hvs 4 _ _ rfl rfl
    have q5 : vs 5 = (.pointer (some ⟨br, 0, none⟩)) := hvs 5 _ _ rfl rfl
    have q6 : vs 6 = (.int .i64 0) := hvs 6 _ _ rfl rfl
    have q7 : vs 7 = (.bool true) := hvs 7 _ _ rfl rfl
    have q8 : vs 8 = (.bool true) := hvs 8 _ _ rfl rfl
    have q9 : vs 9 = (.bool true) := hvs 9 _ _ rfl rfl
    have q10 : vs 10 = (.agg #[.int .u8 1, .int .u32 (id : Int), .string (BA t), .int .i64 0, .int .i64 0, .int .i64 0, .pointer none, .int .u32 0, .int .u32 0, .int .u32 0]) := hvs 10 _ _ rfl rfl
    have q11 : vs 11 = (.bool true) := hvs 11 _ _ rfl rfl
    have q12 : vs 12 = (.bool true) := hvs 12 _ _ rfl rfl
    have q14 : vs 14 = (.bool true) := hvs 14 _ _ rfl rfl
    clear hvs
    simp only [List.take_succ_cons, List.take_zero, List.drop_succ_cons, List.drop_zero, putAll, Act.put, List.setIfInBounds_toArray, List.set_cons_zero, List.set_cons_succ, Nat.reduceAdd, q0, q1, q2, q3, q4, q5, q6, q7, q8, q9, q10, q11, q12, q14]
    clear q0 q1 q2 q3 q4 q5 q6 q7 q8 q9 q10 q11 q12 q14
    have hf := (hI.yes rfl).2
    have KZ : Hid (Kept (fun _ => False) w wz) := Lw.hid (K7.out.trans hI.kept (fun i hi e => by have := HB2.out; omega))
    have e0 := heap_cell hf 0
    have e1 := heap_cell hf 1
    have e2 := heap_cell hf 2
    have e3 := heap_cell hf 3
    have e4 := heap_cell hf 4
    have e5 := heap_cell hf 5
    have e6 := heap_cell hf 6
    have e7 := heap_cell hf 7
    have e8 := heap_cell hf 8
    have e9 := heap_cell hf 9
    simp only [List.getElem?_toArray, List.getElem?_cons_zero, List.getElem?_cons_succ] at e0 e1 e2 e3 e4 e5 e6 e7 e8 e9
    clear hI hf
    go_wp2_with fail
    exact bodyPost_ret (v := .tuple #[.agg #[.int .u8 1, .int .u32 (id : Int), .string (BA t), .int .i64 0, .int .i64 0, .int .i64 0, .pointer none, .int .u32 0, .int .u32 0, .int .u32 0], .bool true]) (by simp [results, Tryz.results26, go_sem, e0, e1, e2, e3, e4, e5, e6, e7, e8, e9]) rfl ⟨rfl, KZ.out⟩
set_option maxHeartbeats 16000000 in
theorem read3_any (w : World) (v : Value) (id n : Nat) (hid : id < 4294967296) (hn : n ≤ 2147483647) (hv : RdB w v (recB3 id n)) :
    Calls Tryz.prog 26 #[v] w fun e w' => e = .returned (.tuple #[rv 3 id [] 0 0 n none 0 0 0, .bool true]) ∧ Kept (fun _ => False) w w' := by
  have hlen : (recB3 id n).length ≤ 6000 := by simp [recB3, be_length]
  obtain ⟨ad, cap, rfl, hc1, hc2, _⟩ := hv.open
  have HV := Lw.hid hv
  clear hv
  obtain ⟨L, hL⟩ : ∃ L, recB3 id n = L := ⟨_, rfl⟩
  have HL := Lw.hid hL
  rw [hL] at HV hc1 hlen ⊢
  obtain ⟨sl, hsl2⟩ : ∃ sl, L.length = sl := ⟨_, rfl⟩
  have HSL := Lw.hid hsl2
  rw [hsl2] at HV hc1 hlen ⊢
  obtain ⟨wA, hwA⟩ : ∃ wA, w.alloc (.cells #[.int .u8 0, .int .u32 0, .string ⟨#[]⟩, .int .i64 0, .int .i64 0, .int .i64 0, .pointer none, .int .u32 0, .int .u32 0, .int .u32 0] 69) = wA := ⟨_, rfl⟩
  obtain ⟨b2, hb2⟩ : ∃ b2, w.heap.size = b2 := ⟨_, rfl⟩
  have KA : Hid (Kept (fun _ => False) w wA) := Lw.hid (by rw [← hwA]; exact (Kept.refl _ w).alloc _)
  have BA2 : Hid (wA.heap[b2]? = some (.cells #[.int .u8 0, .int .u32 0, .string ⟨#[]⟩, .int .i64 0, .int .i64 0, .int .i64 0, .pointer none, .int .u32 0, .int .u32 0, .int .u32 0] 69 (0, 0))) := Lw.hid (by rw [← hwA, ← hb2]; exact heap_alloc w _)
  have HWA := Lw.hid hwA
  obtain ⟨lo, hlo⟩ : ∃ lo, wA.heap.size = lo := ⟨_, rfl⟩
  have hlo2 : lo = b2 + 1 := by rw [← hlo, ← hwA, ← hb2]; simp
  have HLO := Lw.hid hlo; have HB2 := Lw.hid hb2
  clear hL hsl2 hwA hb2 hlo
  go_enter Tryz.func26, Tryz.ntmps26
  go_wp2_with fail
  rw [HWA.out, HB2.out]
  refine (rs_new wA _ L (HV.out.kept KA.out (fun _ _ h => h)) (by rw [HSL.out]; omega)).mono ?_
  rintro e w1 ⟨br, rfl, hr1, k1⟩
  obtain ⟨hi, hhi⟩ : ∃ hi, w1.heap.size = hi := ⟨_, rfl⟩
  rw [hhi, HLO.out] at hr1
  have hbr : lo ≤ br ∧ br < hi := by obtain ⟨_, _, h, _⟩ := hr1; exact h
  have hrl : recB3 id n = (3 : UInt8) :: (be 4 id ++ (be 4 n ++ [])) := by simp [recB3]
  rw [← HL.out, hrl] at hr1
  have R1 := Lw.hid hr1; have K1 := Lw.hid (KA.out.trans k1 (fun _ _ h => h)); have HHI := Lw.hid hhi
  have C1 := Lw.hid (k1.heap BA2.out (fun h => h))
  clear hr1 k1 hhi hrl
  go_wp2_with fail
  refine (rs_byte _ _ w1 br _ _ R1.out).mono ?_
  rintro e w2 ⟨rfl, hr2, k2⟩
  have R2 := Lw.hid hr2
  have C2 := Lw.hid (k2.heap C1.out (fun e => by omega))
  have K2 : Hid (Kept (fun _ => False) w w2) := Lw.hid (K1.out.trans k2 (fun i hi e => by have := HB2.out; omega))
  have hsz2 : hi ≤ w2.heap.size := by have := k2.size; have := HHI.out; omega
  clear hr2 k2
  obtain ⟨w3, hw3⟩ : ∃ w3, w2.alloc (.cells #[.int .u8 3, .int .u32 0, .string ⟨#[]⟩, .int .i64 0, .int .i64 0, .int .i64 0, .pointer none, .int .u32 0, .int .u32 0, .int .u32 0] 69) = w3 := ⟨_, rfl⟩
  obtain ⟨r, hr⟩ : ∃ r, w2.heap.size = r := ⟨_, rfl⟩
  have k3 : Kept (fun _ => False) w2 w3 := by rw [← hw3]; exact (Kept.refl _ w2).alloc _
  have RB3 : Hid (w3.heap[r]? = some (.cells #[.int .u8 3, .int .u32 0, .string ⟨#[]⟩, .int .i64 0, .int .i64 0, .int .i64 0, .pointer none, .int .u32 0, .int .u32 0, .int .u32 0] 69 (0, 0))) := Lw.hid (by rw [← hw3, ← hr]; exact heap_alloc w2 _)
  have hrr : hi ≤ r := by omega
  have R3 := Lw.hid (R2.out.kept k3 (fun _ _ _ h => h)); have C3 := Lw.hid (k3.heap C2.out (fun h => h)); have K3 := Lw.hid (K2.out.trans k3 (fun _ _ h => h))
  have HW3 := Lw.hid hw3; have HRR := Lw.hid hr
  clear hw3 hr k3 hsz2
  go_wp2_with fail
  rw [HW3.out, HRR.out]
  refine (rs_four _ _ w3 br id hid _ R3.out).mono ?_
  rintro e w4 ⟨rfl, hr4, k4⟩
  have R4 := Lw.hid hr4
  have RB4 := Lw.hid (k4.heap RB3.out (fun e => by omega)); have C4 := Lw.hid (k4.heap C3.out (fun e => by omega))
  have K4 : Hid (Kept (fun _ => False) w w4) := Lw.hid (K3.out.trans k4 (fun i hi e => by have := HB2.out; omega))
  clear hr4 k4
  have y5_1 := heap_cell (RB4.out) 1; have z5_1 := heap_free (RB4.out) 1
  have g5_1 := heap_set (RB4.out) 1 (.int .u32 (id : Int))
  simp only [List.setIfInBounds_toArray, List.set_cons_zero, List.set_cons_succ] at g5_1
  obtain ⟨w5, hw5⟩ : ∃ w5, (w4).setCell ⟨r, 1, none⟩ (.int .u32 (id : Int)) = w5 := ⟨_, rfl⟩
  have k5 : Kept (fun k => k = r) w4 w5 := by rw [← hw5]; exact ((Kept.refl (fun k => k = r) w4).set r 1 (fun _ => rfl) (.int .u32 (id : Int)))
  have u5 := heap_cell g5_1 0
  rw [hw5] at g5_1
  have RB5 := Lw.hid g5_1; have HW5 := Lw.hid hw5
  have R5 := Lw.hid (R4.out.kept k5 (fun i h1 h2 h3 => by omega)); have C5 := Lw.hid (k5.heap C4.out (fun e => by omega))
  have K5 : Hid (Kept (fun _ => False) w w5) := Lw.hid (K4.out.trans k5 (fun i hi e => by have := HB2.out; omega))
  clear k5 hw5 g5_1
  go_wp2_with fail
  rw [HW5.out]
  clear u5 y5_1 z5_1
  refine (rs_four _ _ w5 br n (by omega) _ R5.out).mono ?_
  rintro e w6 ⟨rfl, hr6, k6⟩
  have R6 := Lw.hid hr6
  have RB6 := Lw.hid (k6.heap RB5.out (fun e => by omega)); have C6 := Lw.hid (k6.heap C5.out (fun e => by omega))
  have K6 : Hid (Kept (fun _ => False) w w6) := Lw.hid (K5.out.trans k6 (fun i hi e => by have := HB2.out; omega))
  clear hr6 k6
  have y7_5 := heap_cell (RB6.out) 5; have z7_5 := heap_free (RB6.out) 5
  have g7_5 := heap_set (RB6.out) 5 (.int .i64 (n : Int))
  simp only [List.setIfInBounds_toArray, List.set_cons_zero, List.set_cons_succ] at g7_5
  obtain ⟨w7, hw7⟩ : ∃ w7, (w6).setCell ⟨r, 5, none⟩ (.int .i64 (n : Int)) = w7 := ⟨_, rfl⟩
  have k7 : Kept (fun k => k = r) w6 w7 := by rw [← hw7]; exact ((Kept.refl (fun k => k = r) w6).set r 5 (fun _ => rfl) (.int .i64 (n : Int)))
  have u7 := heap_cell g7_5 0
  rw [hw7] at g7_5
  have RB7 := Lw.hid g7_5; have HW7 := Lw.hid hw7
  have R7 := Lw.hid (R6.out.kept k7 (fun i h1 h2 h3 => by omega)); have C7 := Lw.hid (k7.heap C6.out (fun e => by omega))
  have K7 : Hid (Kept (fun _ => False) w w7) := Lw.hid (K6.out.trans k7 (fun i hi e => by have := HB2.out; omega))
  clear k7 hw7 g7_5
  go_wp2_with fail
  rw [HW7.out]
  clear u7 y7_5 z7_5
  have HRT : Hid (rightB 3 0 (n : Int) = true) := Lw.hid (by simp [rightB]; omega)
  have HPH : Hid (∀ (x y : World), Kept (fun _ => False) x y → x.heap[b2]? = some (.cells #[.int .u8 3, .int .u32 (id : Int), .string ⟨#[]⟩, .int .i64 0, .int .i64 0, .int .i64 (n : Int), .pointer none, .int .u32 0, .int .u32 0, .int .u32 0] 69 (0, 0)) → y.heap[b2]? = some (.cells #[.int .u8 3, .int .u32 (id : Int), .string ⟨#[]⟩, .int .i64 0, .int .i64 0, .int .i64 (n : Int), .pointer none, .int .u32 0, .int .u32 0, .int .u32 0] 69 (0, 0))) := Lw.hid (fun x y k h => k.heap h (fun h => h))
  refine wp_region_set 15 (AI 13 (fun k => k = b2) (fun wx => wx.heap[b2]? = some (.cells #[.int .u8 3, .int .u32 (id : Int), .string ⟨#[]⟩, .int .i64 0, .int .i64 0, .int .i64 (n : Int), .pointer none, .int .u32 0, .int .u32 0, .int .u32 0] 69 (0, 0))) w7) (aR (fun k => k = b2)) [gV (.agg #[.int .u8 3, .int .u32 (id : Int), .string ⟨#[]⟩, .int .i64 0, .int .i64 0, .int .i64 (n : Int), .pointer none, .int .u32 0, .int .u32 0, .int .u32 0]), gV (.pointer (some ⟨br, 0, none⟩)), gV (.int .i64 0), gV (.bool true), gV (.bool true), gV (.pointer (some ⟨br, 0, none⟩)), gV (.int .i64 0), gV (.bool true), gV (.bool true), gV (.bool true), gV (.agg #[.int .u8 3, .int .u32 (id : Int), .string ⟨#[]⟩, .int .i64 0, .int .i64 0, .int .i64 (n : Int), .pointer none, .int .u32 0, .int .u32 0, .int .u32 0]), gV (.bool true), gV (.bool true), gV undef, gV (.bool true)] (false) (by kernel_rfl) (by kernel_rfl) (AI.start ((Kept.refl _ w7).drew)) ?_ ?_
  · refine gsteps_cons (fun D γ a' w' hI hD0 hdep hcl hag hlt hf K hK => ?_) ?_
    · have s5 := hag.same 5 (by decide)
      clear hlt
      clear hag
      have hrb := hI.kept.heap RB7.out (fun e => by omega)
      have c0 := heap_cell hrb 0
      have c1 := heap_cell hrb 1
      have c2 := heap_cell hrb 2
      have c3 := heap_cell hrb 3
      have c4 := heap_cell hrb 4
      have c5 := heap_cell hrb 5
      have c6 := heap_cell hrb 6
      have c7 := heap_cell hrb 7
      have c8 := heap_cell hrb 8
      have c9 := heap_cell hrb 9
      clear hrb
      go_wp2_with fail
      exact hK _ _ _ (hI.pure HPH.out (Kept.refl _ _) rfl) (aR.pure (Kept.refl _ _)) rfl
    refine gsteps_cons (fun D γ a' w' hI hD0 hdep hcl hag hlt hf K hK => ?_) ?_
    · have s4 := hag.same 4 (by decide)
      clear hlt
      clear hag
      go_wp2_with fail
      exact hK _ _ _ (hI.pure HPH.out (Kept.refl _ _) rfl) (aR.pure (Kept.refl _ _)) rfl
    refine gsteps_cons (fun D γ a' w' hI hD0 hdep hcl hag hlt hf K hK => ?_) ?_
    · obtain ⟨⟨_, h1, rfl⟩, -⟩ : SFacts _ _ a' w' [1] := hf
      clear hlt
      clear hag
      have HR4 := Lw.hid (R7.out.kept hI.kept (fun i h1 h2 h3 => by omega))
      go_wp2_with fail
      refine (rs_err _ _ w' br _ HR4.out).mono ?_
      rintro e w4 ⟨rfl, rfl⟩
      go_wp2_with fail
      exact hK _ _ _ (hI.pure HPH.out (Kept.refl _ _) rfl) (aR.pure (Kept.refl _ _)) rfl
    refine gsteps_cons (fun D γ a' w' hI hD0 hdep hcl hag hlt hf K hK => ?_) ?_
    · obtain ⟨⟨_, h2, rfl⟩, -⟩ : SFacts _ _ a' w' [2] := hf
      clear hlt
      clear hag
      go_wp2_with fail
      exact hK _ _ _ (hI.pure HPH.out (Kept.refl _ _) rfl) (aR.pure (Kept.refl _ _)) rfl
    refine gsteps_cons (fun D γ a' w' hI hD0 hdep hcl hag hlt hf K hK => ?_) ?_
    · obtain ⟨⟨_, h3, rfl⟩, -⟩ : SFacts _ _ a' w' [3, 2] := hf
      clear hlt
      clear hag
      go_wp2_with fail
      exact hK _ _ _ (hI.pure HPH.out (Kept.refl _ _) rfl) (aR.pure (Kept.refl _ _)) rfl
    refine gsteps_cons (fun D γ a' w' hI hD0 hdep hcl hag hlt hf K hK => ?_) ?_
    · obtain ⟨⟨_, h4, rfl⟩, -⟩ : SFacts _ _ a' w' [4] := hf
      have s4 := hag.same 4 (by decide)
      clear hlt
      clear hag
      go_wp2_with fail
      exact hK _ _ _ (hI.pure HPH.out (Kept.refl _ _) rfl) (aR.pure (Kept.refl _ _)) rfl
    refine gsteps_cons (fun D γ a' w' hI hD0 hdep hcl hag hlt hf K hK => ?_) ?_
    · obtain ⟨⟨_, h5, rfl⟩, ⟨_, h4, rfl⟩, -⟩ : SFacts _ _ a' w' [5, 4] := hf
      clear hlt
      clear hag
      have HR4 := Lw.hid (R7.out.kept hI.kept (fun i h1 h2 h3 => by omega))
      go_wp2_with fail
      refine (rs_left _ _ w' br HR4.out).mono ?_
      rintro e w4 ⟨rfl, rfl⟩
      go_wp2_with fail
      exact hK _ _ _ (hI.pure HPH.out (Kept.refl _ _) rfl) (aR.pure (Kept.refl _ _)) rfl
    refine gsteps_cons (fun D γ a' w' hI hD0 hdep hcl hag hlt hf K hK => ?_) ?_
    · obtain ⟨⟨_, h6, rfl⟩, ⟨_, h4, rfl⟩, -⟩ : SFacts _ _ a' w' [6, 4] := hf
      clear hlt
      clear hag
      go_wp2_with fail
      exact hK _ _ _ (hI.pure HPH.out (Kept.refl _ _) rfl) (aR.pure (Kept.refl _ _)) rfl
    refine gsteps_cons (fun D γ a' w' hI hD0 hdep hcl hag hlt hf K hK => ?_) ?_
    · obtain ⟨⟨_, h4, rfl⟩, ⟨_, h7, rfl⟩, -⟩ : SFacts _ _ a' w' [4, 7] := hf
      clear hlt
      clear hag
      go_wp2_with fail
      exact hK _ _ _ (hI.pure HPH.out (Kept.refl _ _) rfl) (aR.pure (Kept.refl _ _)) rfl
    refine gsteps_cons (fun D γ a' w' hI hD0 hdep hcl hag hlt hf K hK => ?_) ?_
    · obtain ⟨⟨_, h8, rfl⟩, -⟩ : SFacts _ _ a' w' [8, 6] := hf
      clear hlt
      clear hag
      go_wp2_with fail
      exact hK _ _ _ (hI.pure HPH.out (Kept.refl _ _) rfl) (aR.pure (Kept.refl _ _)) rfl
    refine gsteps_cons (fun D γ a' w' hI hD0 hdep hcl hag hlt hf K hK => ?_) ?_
    · obtain ⟨⟨_, h9, rfl⟩, -⟩ : SFacts _ _ a' w' [9] := hf
      have s5 := hag.same 5 (by decide)
      clear hlt
      clear hag
      have hrb := hI.kept.heap RB7.out (fun e => by omega)
      have c0 := heap_cell hrb 0
      have c1 := heap_cell hrb 1
      have c2 := heap_cell hrb 2
      have c3 := heap_cell hrb 3
      have c4 := heap_cell hrb 4
      have c5 := heap_cell hrb 5
      have c6 := heap_cell hrb 6
      have c7 := heap_cell hrb 7
      have c8 := heap_cell hrb 8
      have c9 := heap_cell hrb 9
      clear hrb
      go_wp2_with fail
      exact hK _ _ _ (hI.pure HPH.out (Kept.refl _ _) rfl) (aR.pure (Kept.refl _ _)) rfl
    refine gsteps_cons (fun D γ a' w' hI hD0 hdep hcl hag hlt hf K hK => ?_) ?_
    · obtain ⟨⟨_, h10, rfl⟩, ⟨_, h9, rfl⟩, -⟩ : SFacts _ _ a' w' [10, 9] := hf
      clear hlt
      clear hag
      have HI := Lw.hid hI
      clear hI
      go_wp2_with fail
      refine (right_raw w' 3 id [] 0 0 n none 0 0 0 (by unfold IsKind; decide)).mono ?_
      rw [HRT.out]
      rintro e w4 ⟨rfl, k4⟩
      have K4 := Lw.hid k4
      clear k4
      go_wp2_with fail
      exact hK _ _ _ (HI.out.pure HPH.out K4.out rfl) (aR.pure K4.out) rfl
    refine gsteps_cons (fun D γ a' w' hI hD0 hdep hcl hag hlt hf K hK => ?_) ?_
    · obtain ⟨⟨_, h9, rfl⟩, ⟨_, h11, rfl⟩, -⟩ : SFacts _ _ a' w' [9, 11] := hf
      clear hlt
      clear hag
      go_wp2_with fail
      exact hK _ _ _ (hI.pure HPH.out (Kept.refl _ _) rfl) (aR.pure (Kept.refl _ _)) rfl
    refine gsteps_cons (fun D γ a' w' hI hD0 hdep hcl hag hlt hf K hK => ?_) ?_
    · obtain ⟨⟨_, h0, rfl⟩, -⟩ : SFacts _ _ a' w' [0, 11] := hf
      have s2 := hag.same 2 (by decide)
      clear hlt
      clear hag
      obtain ⟨hg0, hk0⟩ := hI.no hD0
      have hb := hk0.heap C7.out (fun h => h)
      have ks := kept_setRow w' b2 #[.int .u8 3, .int .u32 (id : Int), .string ⟨#[]⟩, .int .i64 0, .int .i64 0, .int .i64 (n : Int), .pointer none, .int .u32 0, .int .u32 0, .int .u32 0]
      refine wpList_store_row rfl 69 _ _ rfl b2 #[.int .u8 3, .int .u32 (id : Int), .string ⟨#[]⟩, .int .i64 0, .int .i64 0, .int .i64 (n : Int), .pointer none, .int .u32 0, .int .u32 0, .int .u32 0] (by simp [Act.eval, s2]) (by simp [Act.eval, h0]) _ _ hb (by kernel_rfl) rfl (by kernel_rfl) ?_
      exact wpList_nil (hK undef true _ ⟨hI.kept.trans ks (fun _ _ h => h), fun h => by simp at h, fun _ => ⟨rfl, setRow_heap _ _ _ _ _ _ hb⟩⟩ ⟨ks, fun h => by rw [hg0] at h; cases h⟩ rfl)
    refine gsteps_cons (fun D γ a' w' hI hD0 hdep hcl hag hlt hf K hK => ?_) ?_
    · obtain ⟨⟨_, h12, rfl⟩, -⟩ : SFacts _ _ a' w' [12, 13, 0, 1, 2, 3, 4, 5, 6, 7, 8, 9, 10, 11] := hf
      clear hlt
      clear hag
      go_wp2_with fail
      exact hK _ _ _ (hI.pure HPH.out (Kept.refl _ _) rfl) (aR.pure (Kept.refl _ _)) rfl
    exact trivial
  · intro vs γ wz hI hvs
    have q0 : vs 0 = (.agg #[.int .u8 3, .int .u32 (id : Int), .string ⟨#[]⟩, .int .i64 0, .int .i64 0, .int .i64 (n : Int), .pointer none, .int .u32 0, .int .u32 0, .int .u32 0]) := hvs 0 _ _ rfl rfl
    have q1 : vs 1 = (.pointer (some ⟨br, 0, none⟩)) := hvs 1 _ _ rfl rfl
    have q2 : vs 2 = (.int .i64 0) := hvs 2 _ _ rfl rfl
    have q3 : vs 3 = (.bool true) := hvs 3 _ _ rfl rfl
    have q4 : vs 4 = (.bool true) := hvs 4 _ _ rfl rfl
    have q5 : vs 5 = (.pointer (some ⟨br, 0, none⟩)) := hvs 5 _ _ rfl rfl
    have q6 : vs 6 = (.int .i64 0) := hvs 6 _ _ rfl rfl
    have q7 : vs 7 = (.bool true) := hvs 7 _ _ rfl rfl
    have q8 : vs 8 = (.bool true) := hvs 8 _ _ rfl rfl
    have q9 : vs 9 = (.bool true) := hvs 9 _ _ rfl rfl
    have q10 : vs 10 = (.agg #[.int .u8 3, .int .u32 (id : Int), .string ⟨#[]⟩, .int .i64 0, .int .i64 0, .int .i64 (n : Int), .pointer none, .int .u32 0, .int .u32 0, .int .u32 0]) := hvs 10 _ _ rfl rfl
    have q11 : vs 11 = (.bool true) := hvs 11 _ _ rfl rfl
    have q12 : vs 12 = (.bool true) := hvs 12 _ _ rfl rfl
    have q14 : vs 14 = (.bool true) := hvs 14 _ _ rfl rfl
    clear hvs
    simp only [List.take_succ_cons, List.take_zero, List.drop_succ_cons, List.drop_zero, putAll, Act.put, List.setIfInBounds_toArray, List.set_cons_zero, List.set_cons_succ, Nat.reduceAdd, q0, q1, q2, q3, q4, q5, q6, q7, q8, q9, q10, q11, q12, q14]
    clear q0 q1 q2 q3 q4 q5 q6 q7 q8 q9 q10 q11 q12 q14
    have hf := (hI.yes rfl).2
    have KZ : Hid (Kept (fun _ => False) w wz) := Lw.hid (K7.out.trans hI.kept (fun i hi e => by have := HB2.out; omega))
    have e0 := heap_cell hf 0
    have e1 := heap_cell hf 1
    have e2 := heap_cell hf 2
    have e3 := heap_cell hf 3
    have e4 := heap_cell hf 4
    have e5 := heap_cell hf 5
    have e6 := heap_cell hf 6
    have e7 := heap_cell hf 7
    have e8 := heap_cell hf 8
    have e9 := heap_cell hf 9
    simp only [List.getElem?_toArray, List.getElem?_cons_zero, List.getElem?_cons_succ] at e0 e1 e2 e3 e4 e5 e6 e7 e8 e9
    clear hI hf
    go_wp2_with fail
    exact bodyPost_ret (v := .tuple #[.agg #[.int .u8 3, .int .u32 (id : Int), .string ⟨#[]⟩, .int .i64 0, .int .i64 0, .int .i64 (n : Int), .pointer none, .int .u32 0, .int .u32 0, .int .u32 0], .bool true]) (by simp [results, Tryz.results26, go_sem, e0, e1, e2, e3, e4, e5, e6, e7, e8, e9]) rfl ⟨rfl, KZ.out⟩
set_option maxHeartbeats 16000000 in
theorem read5_any (w : World) (v : Value) (id : Nat) (hid : id < 4294967296) (hv : RdB w v (recB5 id)) :
    Calls Tryz.prog 26 #[v] w fun e w' => e = .returned (.tuple #[rv 5 id [] 0 0 0 none 0 0 0, .bool true]) ∧ Kept (fun _ => False) w w' := by
  have hlen : (recB5 id).length ≤ 6000 := by simp [recB5, be_length]
  obtain ⟨ad, cap, rfl, hc1, hc2, _⟩ := hv.open
  have HV := Lw.hid hv
  clear hv
  obtain ⟨L, hL⟩ : ∃ L, recB5 id = L := ⟨_, rfl⟩
  have HL := Lw.hid hL
  rw [hL] at HV hc1 hlen ⊢
  obtain ⟨sl, hsl2⟩ : ∃ sl, L.length = sl := ⟨_, rfl⟩
  have HSL := Lw.hid hsl2
  rw [hsl2] at HV hc1 hlen ⊢
  obtain ⟨wA, hwA⟩ : ∃ wA, w.alloc (.cells #[.int .u8 0, .int .u32 0, .string ⟨#[]⟩, .int .i64 0, .int .i64 0, .int .i64 0, .pointer none, .int .u32 0, .int .u32 0, .int .u32 0] 69) = wA := ⟨_, rfl⟩
  obtain ⟨b2, hb2⟩ : ∃ b2, w.heap.size = b2 := ⟨_, rfl⟩
  have KA : Hid (Kept (fun _ => False) w wA) := Lw.hid (by rw [← hwA]; exact (Kept.refl _ w).alloc _)
  have BA2 : Hid (wA.heap[b2]? = some (.cells #[.int .u8 0, .int .u32 0, .string ⟨#[]⟩, .int .i64 0, .int .i64 0, .int .i64 0, .pointer none, .int .u32 0, .int .u32 0, .int .u32 0] 69 (0, 0))) := Lw.hid (by rw [← hwA, ← hb2]; exact heap_alloc w _)
  have HWA := Lw.hid hwA
  obtain ⟨lo, hlo⟩ : ∃ lo, wA.heap.size = lo := ⟨_, rfl⟩
  have hlo2 : lo = b2 + 1 := by rw [← hlo, ← hwA, ← hb2]; simp
  have HLO := Lw.hid hlo; have HB2 := Lw.hid hb2
  clear hL hsl2 hwA hb2 hlo
  go_enter Tryz.func26, Tryz.ntmps26
  go_wp2_with fail
  rw [HWA.out, HB2.out]
  refine (rs_new wA _ L (HV.out.kept KA.out (fun _ _ h => h)) (by rw [HSL.out]; omega)).mono ?_
  rintro e w1 ⟨br, rfl, hr1, k1⟩
  obtain ⟨hi, hhi⟩ : ∃ hi, w1.heap.size = hi := ⟨_, rfl⟩
  rw [hhi, HLO.out] at hr1
  have hbr : lo ≤ br ∧ br < hi := by obtain ⟨_, _, h, _⟩ := hr1; exact h
  have hrl : recB5 id = (5 : UInt8) :: (be 4 id ++ []) := by simp [recB5]
  rw [← HL.out, hrl] at hr1
  have R1 := Lw.hid hr1; have K1 := Lw.hid (KA.out.trans k1 (fun _ _ h => h)); have HHI := Lw.hid hhi
  have C1 := Lw.hid (k1.heap BA2.out (fun h => h))
  clear hr1 k1 hhi hrl
  go_wp2_with fail
  refine (rs_byte _ _ w1 br _ _ R1.out).mono ?_
  rintro e w2 ⟨rfl, hr2, k2⟩
  have R2 := Lw.hid hr2
  have C2 := Lw.hid (k2.heap C1.out (fun e => by omega))
  have K2 : Hid (Kept (fun _ => False) w w2) := Lw.hid (K1.out.trans k2 (fun i hi e => by have := HB2.out; omega))
  have hsz2 : hi ≤ w2.heap.size := by have := k2.size; have := HHI.out; omega
  clear hr2 k2
  obtain ⟨w3, hw3⟩ : ∃ w3, w2.alloc (.cells #[.int .u8 5, .int .u32 0, .string ⟨#[]⟩, .int .i64 0, .int .i64 0, .int .i64 0, .pointer none, .int .u32 0, .int .u32 0, .int .u32 0] 69) = w3 := ⟨_, rfl⟩
  obtain ⟨r, hr⟩ : ∃ r, w2.heap.size = r := ⟨_, rfl⟩
  have k3 : Kept (fun _ => False) w2 w3 := by rw [← hw3]; exact (Kept.refl _ w2).alloc _
  have RB3 : Hid (w3.heap[r]? = some (.cells #[.int .u8 5, .int .u32 0, .string ⟨#[]⟩, .int .i64 0, .int .i64 0, .int .i64 0, .pointer none, .int .u32 0, .int .u32 0, .int .u32 0] 69 (0, 0))) := Lw.hid (by rw [← hw3, ← hr]; exact heap_alloc w2 _)
  have hrr : hi ≤ r := by omega
  have R3 := Lw.hid (R2.out.kept k3 (fun _ _ _ h => h)); have C3 := Lw.hid (k3.heap C2.out (fun h => h)); have K3 := Lw.hid (K2.out.trans k3 (fun _ _ h => h))
  have HW3 := Lw.hid hw3; have HRR := Lw.hid hr
  clear hw3 hr k3 hsz2
  go_wp2_with fail
  rw [HW3.out, HRR.out]
  refine (rs_four _ _ w3 br id hid _ R3.out).mono ?_
  rintro e w4 ⟨rfl, hr4, k4⟩
  have R4 := Lw.hid hr4
  have RB4 := Lw.hid (k4.heap RB3.out (fun e => by omega)); have C4 := Lw.hid (k4.heap C3.out (fun e => by omega))
  have K4 : Hid (Kept (fun _ => False) w w4) := Lw.hid (K3.out.trans k4 (fun i hi e => by have := HB2.out; omega))
  clear hr4 k4
  have y5_1 := heap_cell (RB4.out) 1; have z5_1 := heap_free (RB4.out) 1
  have g5_1 := heap_set (RB4.out) 1 (.int .u32 (id : Int))
  simp only [List.setIfInBounds_toArray, List.set_cons_zero, List.set_cons_succ] at g5_1
  obtain ⟨w5, hw5⟩ : ∃ w5, (w4).setCell ⟨r, 1, none⟩ (.int .u32 (id : Int)) = w5 := ⟨_, rfl⟩
  have k5 : Kept (fun k => k = r) w4 w5 := by rw [← hw5]; exact ((Kept.refl (fun k => k = r) w4).set r 1 (fun _ => rfl) (.int .u32 (id : Int)))
  have u5 := heap_cell g5_1 0
  rw [hw5] at g5_1
  have RB5 := Lw.hid g5_1; have HW5 := Lw.hid hw5
  have R5 := Lw.hid (R4.out.kept k5 (fun i h1 h2 h3 => by omega)); have C5 := Lw.hid (k5.heap C4.out (fun e => by omega))
  have K5 : Hid (Kept (fun _ => False) w w5) := Lw.hid (K4.out.trans k5 (fun i hi e => by have := HB2.out; omega))
  clear k5 hw5 g5_1
  go_wp2_with fail
  rw [HW5.out]
  clear u5 y5_1 z5_1
  have HRT : Hid (rightB 5 0 0 = true) := Lw.hid (by rfl)
  have HPH : Hid (∀ (x y : World), Kept (fun _ => False) x y → x.heap[b2]? = some (.cells #[.int .u8 5, .int .u32 (id : Int), .string ⟨#[]⟩, .int .i64 0, .int .i64 0, .int .i64 0, .pointer none, .int .u32 0, .int .u32 0, .int .u32 0] 69 (0, 0)) → y.heap[b2]? = some (.cells #[.int .u8 5, .int .u32 (id : Int), .string ⟨#[]⟩, .int .i64 0, .int .i64 0, .int .i64 0, .pointer none, .int .u32 0, .int .u32 0, .int .u32 0] 69 (0, 0))) := Lw.hid (fun x y k h => k.heap h (fun h => h))
  refine wp_region_set 15 (AI 13 (fun k => k = b2) (fun wx => wx.heap[b2]? = some (.cells #[.int .u8 5, .int .u32 (id : Int), .string ⟨#[]⟩, .int .i64 0, .int .i64 0, .int .i64 0, .pointer none, .int .u32 0, .int .u32 0, .int .u32 0] 69 (0, 0))) w5) (aR (fun k => k = b2)) [gV (.agg #[.int .u8 5, .int .u32 (id : Int), .string ⟨#[]⟩, .int .i64 0, .int .i64 0, .int .i64 0, .pointer none, .int .u32 0, .int .u32 0, .int .u32 0]), gV (.pointer (some ⟨br, 0, none⟩)), gV (.int .i64 0), gV (.bool true), gV (.bool true), gV (.pointer (some ⟨br, 0, none⟩)), gV (.int .i64 0), gV (.bool true), gV (.bool true), gV (.bool true), gV (.agg #[.int .u8 5, .int .u32 (id : Int), .string ⟨#[]⟩, .int .i64 0, .int .i64 0, .int .i64 0, .pointer none, .int .u32 0, .int .u32 0, .int .u32 0]), gV (.bool true), gV (.bool true), gV undef, gV (.bool true)] (false) (by kernel_rfl) (by kernel_rfl) (AI.start ((Kept.refl _ w5).drew)) ?_ ?_
  · refine gsteps_cons (fun D γ a' w' hI hD0 hdep hcl hag hlt hf K hK => ?_) ?_
    · have s5 := hag.same 5 (by decide)
      clear hlt
      clear hag
      have hrb := hI.kept.heap RB5.out (fun e => by omega)
      have c0 := heap_cell hrb 0
      have c1 := heap_cell hrb 1
      have c2 := heap_cell hrb 2
      have c3 := heap_cell hrb 3
      have c4 := heap_cell hrb 4
      have c5 := heap_cell hrb 5
      have c6 := heap_cell hrb 6
      have c7 := heap_cell hrb 7
      have c8 := heap_cell hrb 8
      have c9 := heap_cell hrb 9
      clear hrb
      go_wp2_with fail
      exact hK _ _ _ (hI.pure HPH.out (Kept.refl _ _) rfl) (aR.pure (Kept.refl _ _)) rfl
    refine gsteps_cons (fun D γ a' w' hI hD0 hdep hcl hag hlt hf K hK => ?_) ?_
    · have s4 := hag.same 4 (by decide)
      clear hlt
      clear hag
      go_wp2_with fail
      exact hK _ _ _ (hI.pure HPH.out (Kept.refl _ _) rfl) (aR.pure (Kept.refl _ _)) rfl
    refine gsteps_cons (fun D γ a' w' hI hD0 hdep hcl hag hlt hf K hK => ?_) ?_
    · obtain ⟨⟨_, h1, rfl⟩, -⟩ : SFacts _ _ a' w' [1] := hf
      clear hlt
      clear hag
      have HR4 := Lw.hid (R5.out.kept hI.kept (fun i h1 h2 h3 => by omega))
      go_wp2_with fail
      refine (rs_err _ _ w' br _ HR4.out).mono ?_
      rintro e w4 ⟨rfl, rfl⟩
      go_wp2_with fail
      exact hK _ _ _ (hI.pure HPH.out (Kept.refl _ _) rfl) (aR.pure (Kept.refl _ _)) rfl
    refine gsteps_cons (fun D γ a' w' hI hD0 hdep hcl hag hlt hf K hK => ?_) ?_
    · obtain ⟨⟨_, h2, rfl⟩, -⟩ : SFacts _ _ a' w' [2] := hf
      clear hlt
      clear hag
      go_wp2_with fail
      exact hK _ _ _ (hI.pure HPH.out (Kept.refl _ _) rfl) (aR.pure (Kept.refl _ _)) rfl
    refine gsteps_cons (fun D γ a' w' hI hD0 hdep hcl hag hlt hf K hK => ?_) ?_
    · obtain ⟨⟨_, h3, rfl⟩, -⟩ : SFacts _ _ a' w' [3, 2] := hf
      clear hlt
      clear hag
      go_wp2_with fail
      exact hK _ _ _ (hI.pure HPH.out (Kept.refl _ _) rfl) (aR.pure (Kept.refl _ _)) rfl
    refine gsteps_cons (fun D γ a' w' hI hD0 hdep hcl hag hlt hf K hK => ?_) ?_
    · obtain ⟨⟨_, h4, rfl⟩, -⟩ : SFacts _ _ a' w' [4] := hf
      have s4 := hag.same 4 (by decide)
      clear hlt
      clear hag
      go_wp2_with fail
      exact hK _ _ _ (hI.pure HPH.out (Kept.refl _ _) rfl) (aR.pure (Kept.refl _ _)) rfl
    refine gsteps_cons (fun D γ a' w' hI hD0 hdep hcl hag hlt hf K hK => ?_) ?_
    · obtain ⟨⟨_, h5, rfl⟩, ⟨_, h4, rfl⟩, -⟩ : SFacts _ _ a' w' [5, 4] := hf
      clear hlt
      clear hag
      have HR4 := Lw.hid (R5.out.kept hI.kept (fun i h1 h2 h3 => by omega))
      go_wp2_with fail
      refine (rs_left _ _ w' br HR4.out).mono ?_
      rintro e w4 ⟨rfl, rfl⟩
      go_wp2_with fail
      exact hK _ _ _ (hI.pure HPH.out (Kept.refl _ _) rfl) (aR.pure (Kept.refl _ _)) rfl
    refine gsteps_cons (fun D γ a' w' hI hD0 hdep hcl hag hlt hf K hK => ?_) ?_
    · obtain ⟨⟨_, h6, rfl⟩, ⟨_, h4, rfl⟩, -⟩ : SFacts _ _ a' w' [6, 4] := hf
      clear hlt
      clear hag
      go_wp2_with fail
      exact hK _ _ _ (hI.pure HPH.out (Kept.refl _ _) rfl) (aR.pure (Kept.refl _ _)) rfl
    refine gsteps_cons (fun D γ a' w' hI hD0 hdep hcl hag hlt hf K hK => ?_) ?_
    · obtain ⟨⟨_, h4, rfl⟩, ⟨_, h7, rfl⟩, -⟩ : SFacts _ _ a' w' [4, 7] := hf
      clear hlt
      clear hag
      go_wp2_with fail
      exact hK _ _ _ (hI.pure HPH.out (Kept.refl _ _) rfl) (aR.pure (Kept.refl _ _)) rfl
    refine gsteps_cons (fun D γ a' w' hI hD0 hdep hcl hag hlt hf K hK => ?_) ?_
    · obtain ⟨⟨_, h8, rfl⟩, -⟩ : SFacts _ _ a' w' [8, 6] := hf
      clear hlt
      clear hag
      go_wp2_with fail
      exact hK _ _ _ (hI.pure HPH.out (Kept.refl _ _) rfl) (aR.pure (Kept.refl _ _)) rfl
    refine gsteps_cons (fun D γ a' w' hI hD0 hdep hcl hag hlt hf K hK => ?_) ?_
    · obtain ⟨⟨_, h9, rfl⟩, -⟩ : SFacts _ _ a' w' [9] := hf
      have s5 := hag.same 5 (by decide)
      clear hlt
      clear hag
      have hrb := hI.kept.heap RB5.out (fun e => by omega)
      have c0 := heap_cell hrb 0
      have c1 := heap_cell hrb 1
      have c2 := heap_cell hrb 2
      have c3 := heap_cell hrb 3
      have c4 := heap_cell hrb 4
      have c5 := heap_cell hrb 5
      have c6 := heap_cell hrb 6
      have c7 := heap_cell hrb 7
      have c8 := heap_cell hrb 8
      have c9 := heap_cell hrb 9
      clear hrb
      go_wp2_with fail
      exact hK _ _ _ (hI.pure HPH.out (Kept.refl _ _) rfl) (aR.pure (Kept.refl _ _)) rfl
    refine gsteps_cons (fun D γ a' w' hI hD0 hdep hcl hag hlt hf K hK => ?_) ?_
    · obtain ⟨⟨_, h10, rfl⟩, ⟨_, h9, rfl⟩, -⟩ : SFacts _ _ a' w' [10, 9] := hf
      clear hlt
      clear hag
      have HI := Lw.hid hI
      clear hI
      go_wp2_with fail
      refine (right_raw w' 5 id [] 0 0 0 none 0 0 0 (by unfold IsKind; decide)).mono ?_
      rw [HRT.out]
      rintro e w4 ⟨rfl, k4⟩
      have K4 := Lw.hid k4
      clear k4
      go_wp2_with fail
      exact hK _ _ _ (HI.out.pure HPH.out K4.out rfl) (aR.pure K4.out) rfl
    refine gsteps_cons (fun D γ a' w' hI hD0 hdep hcl hag hlt hf K hK => ?_) ?_
    · obtain ⟨⟨_, h9, rfl⟩, ⟨_, h11, rfl⟩, -⟩ : SFacts _ _ a' w' [9, 11] := hf
      clear hlt
      clear hag
      go_wp2_with fail
      exact hK _ _ _ (hI.pure HPH.out (Kept.refl _ _) rfl) (aR.pure (Kept.refl _ _)) rfl
    refine gsteps_cons (fun D γ a' w' hI hD0 hdep hcl hag hlt hf K hK => ?_) ?_
    · obtain ⟨⟨_, h0, rfl⟩, -⟩ : SFacts _ _ a' w' [0, 11] := hf
      have s2 := hag.same 2 (by decide)
      clear hlt
      clear hag
      obtain ⟨hg0, hk0⟩ := hI.no hD0
      have hb := hk0.heap C5.out (fun h => h)
      have ks := kept_setRow w' b2 #[.int .u8 5, .int .u32 (id : Int), .string ⟨#[]⟩, .int .i64 0, .int .i64 0, .int .i64 0, .pointer none, .int .u32 0, .int .u32 0, .int .u32 0]
      refine wpList_store_row rfl 69 _ _ rfl b2 #[.int .u8 5, .int .u32 (id : Int), .string ⟨#[]⟩, .int .i64 0, .int .i64 0, .int .i64 0, .pointer none, .int .u32 0, .int .u32 0, .int .u32 0] (by simp [Act.eval, s2]) (by simp [Act.eval, h0]) _ _ hb (by kernel_rfl) rfl (by kernel_rfl) ?_
      exact wpList_nil (hK undef true _ ⟨hI.kept.trans ks (fun _ _ h => h), fun h => by simp at h, fun _ => ⟨rfl, setRow_heap _ _ _ _ _ _ hb⟩⟩ ⟨ks, fun h => by rw [hg0] at h; cases h⟩ rfl)
    refine gsteps_cons (fun D γ a' w' hI hD0 hdep hcl hag hlt hf K hK => ?_) ?_
    · obtain ⟨⟨_, h12, rfl⟩, -⟩ : SFacts _ _ a' w' [12, 13, 0, 1, 2, 3, 4, 5, 6, 7, 8, 9, 10, 11] := hf
      clear hlt
      clear hag
      go_wp2_with fail
      exact hK _ _ _ (hI.pure HPH.out (Kept.refl _ _) rfl) (aR.pure (Kept.refl _ _)) rfl
    exact trivial
  · intro vs γ wz hI hvs
    have q0 : vs 0 = (.agg #[.int .u8 5, .int .u32 (id : Int), .string ⟨#[]⟩, .int .i64 0, .int .i64 0, .int .i64 0, .pointer none, .int .u32 0, .int .u32 0, .int .u32 0]) := hvs 0 _ _ rfl rfl
    have q1 : vs 1 = (.pointer (some ⟨br, 0, none⟩)) := hvs 1 _ _ rfl rfl
    have q2 : vs 2 = (.int .i64 0) := hvs 2 _ _ rfl rfl
    have q3 : vs 3 = (.bool true) := hvs 3 _ _ rfl rfl
    have q4 : vs 4 = (.bool true) := hvs 4 _ _ rfl rfl
    have q5 : vs 5 = (.pointer (some ⟨br, 0, none⟩)) := hvs 5 _ _ rfl rfl
    have q6 : vs 6 = (.int .i64 0) := hvs 6 _ _ rfl rfl
    have q7 : vs 7 = (.bool true) := hvs 7 _ _ rfl rfl
    have q8 : vs 8 = (.bool true) := hvs 8 _ _ rfl rfl
    have q9 : vs 9 = (.bool true) := hvs 9 _ _ rfl rfl
    have q10 : vs 10 = (.agg #[.int .u8 5, .int .u32 (id : Int), .string ⟨#[]⟩, .int .i64 0, .int .i64 0, .int .i64 0, .pointer none, .int .u32 0, .int .u32 0, .int .u32 0]) := hvs 10 _ _ rfl rfl
    have q11 : vs 11 = (.bool true) := hvs 11 _ _ rfl rfl
    have q12 : vs 12 = (.bool true) := hvs 12 _ _ rfl rfl
    have q14 : vs 14 = (.bool true) := hvs 14 _ _ rfl rfl
    clear hvs
    simp only [List.take_succ_cons, List.take_zero, List.drop_succ_cons, List.drop_zero, putAll, Act.put, List.setIfInBounds_toArray, List.set_cons_zero, List.set_cons_succ, Nat.reduceAdd, q0, q1, q2, q3, q4, q5, q6, q7, q8, q9, q10, q11, q12, q14]
    clear q0 q1 q2 q3 q4 q5 q6 q7 q8 q9 q10 q11 q12 q14
    have hf := (hI.yes rfl).2
    have KZ : Hid (Kept (fun _ => False) w wz) := Lw.hid (K5.out.trans hI.kept (fun i hi e => by have := HB2.out; omega))
    have e0 := heap_cell hf 0
    have e1 := heap_cell hf 1
    have e2 := heap_cell hf 2
    have e3 := heap_cell hf 3
    have e4 := heap_cell hf 4
    have e5 := heap_cell hf 5
    have e6 := heap_cell hf 6
    have e7 := heap_cell hf 7
    have e8 := heap_cell hf 8
    have e9 := heap_cell hf 9
    simp only [List.getElem?_toArray, List.getElem?_cons_zero, List.getElem?_cons_succ] at e0 e1 e2 e3 e4 e5 e6 e7 e8 e9
    clear hI hf
    go_wp2_with fail
    exact bodyPost_ret (v := .tuple #[.agg #[.int .u8 5, .int .u32 (id : Int), .string ⟨#[]⟩, .int .i64 0, .int .i64 0, .int .i64 0, .pointer none, .int .u32 0, .int .u32 0, .int .u32 0], .bool true]) (by simp [results, Tryz.results26, go_sem, e0, e1, e2, e3, e4, e5, e6, e7, e8, e9]) rfl ⟨rfl, KZ.out⟩
set_option maxHeartbeats 16000000 in
theorem read6_any (w : World) (v : Value) (a b c : Nat) (ha : a < 4294967296) (hb : b < 4294967296) (hc : c < 4294967296) (hv : RdB w v (recB6 a b c)) :
    Calls Tryz.prog 26 #[v] w fun e w' => e = .returned (.tuple #[rv 6 0 [] 0 0 0 none a b c, .bool true]) ∧ Kept (fun _ => False) w w' := by
  have hlen : (recB6 a b c).length ≤ 6000 := by simp [recB6, be_length]
  obtain ⟨ad, cap, rfl, hc1, hc2, _⟩ := hv.open
  have HV := Lw.hid hv
  clear hv
  obtain ⟨L, hL⟩ : ∃ L, recB6 a b c = L := ⟨_, rfl⟩
  have HL := Lw.hid hL
  rw [hL] at HV hc1 hlen ⊢
  obtain ⟨sl, hsl2⟩ : ∃ sl, L.length = sl := ⟨_, rfl⟩
  have HSL := Lw.hid hsl2
  rw [hsl2] at HV hc1 hlen ⊢
  obtain ⟨wA, hwA⟩ : ∃ wA, w.alloc (.cells #[.int .u8 0, .int .u32 0, .string ⟨#[]⟩, .int .i64 0, .int .i64 0, .int .i64 0, .pointer none, .int .u32 0, .int .u32 0, .int .u32 0] 69) = wA := ⟨_, rfl⟩
  obtain ⟨b2, hb2⟩ : ∃ b2, w.heap.size = b2 := ⟨_, rfl⟩
  have KA : Hid (Kept (fun _ => False) w wA) := Lw.hid (by rw [← hwA]; exact (Kept.refl _ w).alloc _)
  have BA2 : Hid (wA.heap[b2]? = some (.cells #[.int .u8 0, .int .u32 0, .string ⟨#[]⟩, .int .i64 0, .int .i64 0, .int .i64 0, .pointer none, .int .u32 0, .int .u32 0, .int .u32 0] 69 (0, 0))) := Lw.hid (by rw [← hwA, ← hb2]; exact heap_alloc w _)
  have HWA := Lw.hid hwA
  obtain ⟨lo, hlo⟩ : ∃ lo, wA.heap.size = lo := ⟨_, rfl⟩
  have hlo2 : lo = b2 + 1 := by rw [← hlo, ← hwA, ← hb2]; simp
  have HLO := Lw.hid hlo; have HB2 := Lw.hid hb2
  clear hL hsl2 hwA hb2 hlo
  go_enter Tryz.func26, Tryz.ntmps26
  go_wp2_with fail
  rw [HWA.out, HB2.out]
  refine (rs_new wA _ L (HV.out.kept KA.out (fun _ _ h => h)) (by rw [HSL.out]; omega)).mono ?_
  rintro e w1 ⟨br, rfl, hr1, k1⟩
  obtain ⟨hi, hhi⟩ : ∃ hi, w1.heap.size = hi := ⟨_, rfl⟩
  rw [hhi, HLO.out] at hr1
  have hbr : lo ≤ br ∧ br < hi := by obtain ⟨_, _, h, _⟩ := hr1; exact h
  have hrl : recB6 a b c = (6 : UInt8) :: (be 4 a ++ (be 4 b ++ (be 4 c ++ []))) := by simp [recB6]
  rw [← HL.out, hrl] at hr1
  have R1 := Lw.hid hr1; have K1 := Lw.hid (KA.out.trans k1 (fun _ _ h => h)); have HHI := Lw.hid hhi
  have C1 := Lw.hid (k1.heap BA2.out (fun h => h))
  clear hr1 k1 hhi hrl
  go_wp2_with fail
  refine (rs_byte _ _ w1 br _ _ R1.out).mono ?_
  rintro e w2 ⟨rfl, hr2, k2⟩
  have R2 := Lw.hid hr2
  have C2 := Lw.hid (k2.heap C1.out (fun e => by omega))
  have K2 : Hid (Kept (fun _ => False) w w2) := Lw.hid (K1.out.trans k2 (fun i hi e => by have := HB2.out; omega))
  have hsz2 : hi ≤ w2.heap.size := by have := k2.size; have := HHI.out; omega
  clear hr2 k2
  obtain ⟨w3, hw3⟩ : ∃ w3, w2.alloc (.cells #[.int .u8 6, .int .u32 0, .string ⟨#[]⟩, .int .i64 0, .int .i64 0, .int .i64 0, .pointer none, .int .u32 0, .int .u32 0, .int .u32 0] 69) = w3 := ⟨_, rfl⟩
  obtain ⟨r, hr⟩ : ∃ r, w2.heap.size = r := ⟨_, rfl⟩
  have k3 : Kept (fun _ => False) w2 w3 := by rw [← hw3]; exact (Kept.refl _ w2).alloc _
  have RB3 : Hid (w3.heap[r]? = some (.cells #[.int .u8 6, .int .u32 0, .string ⟨#[]⟩, .int .i64 0, .int .i64 0, .int .i64 0, .pointer none, .int .u32 0, .int .u32 0, .int .u32 0] 69 (0, 0))) := Lw.hid (by rw [← hw3, ← hr]; exact heap_alloc w2 _)
  have hrr : hi ≤ r := by omega
  have R3 := Lw.hid (R2.out.kept k3 (fun _ _ _ h => h)); have C3 := Lw.hid (k3.heap C2.out (fun h => h)); have K3 := Lw.hid (K2.out.trans k3 (fun _ _ h => h))
  have HW3 := Lw.hid hw3; have HRR := Lw.hid hr
  clear hw3 hr k3 hsz2
  go_wp2_with fail
  rw [HW3.out, HRR.out]
  refine (rs_four _ _ w3 br a ha _ R3.out).mono ?_
  rintro e w4 ⟨rfl, hr4, k4⟩
  have R4 := Lw.hid hr4
  have RB4 := Lw.hid (k4.heap RB3.out (fun e => by omega)); have C4 := Lw.hid (k4.heap C3.out (fun e => by omega))
  have K4 : Hid (Kept (fun _ => False) w w4) := Lw.hid (K3.out.trans k4 (fun i hi e => by have := HB2.out; omega))
  clear hr4 k4
  have u4 := heap_cell RB4.out 0
  go_wp2_with fail
  clear u4
  refine (rs_four _ _ w4 br b hb _ R4.out).mono ?_
  rintro e w5 ⟨rfl, hr5, k5⟩
  have R5 := Lw.hid hr5
  have RB5 := Lw.hid (k5.heap RB4.out (fun e => by omega)); have C5 := Lw.hid (k5.heap C4.out (fun e => by omega))
  have K5 : Hid (Kept (fun _ => False) w w5) := Lw.hid (K4.out.trans k5 (fun i hi e => by have := HB2.out; omega))
  clear hr5 k5
  have u5 := heap_cell RB5.out 0
  go_wp2_with fail
  clear u5
  refine (rs_four _ _ w5 br c hc _ R5.out).mono ?_
  rintro e w6 ⟨rfl, hr6, k6⟩
  have R6 := Lw.hid hr6
  have RB6 := Lw.hid (k6.heap RB5.out (fun e => by omega)); have C6 := Lw.hid (k6.heap C5.out (fun e => by omega))
  have K6 : Hid (Kept (fun _ => False) w w6) := Lw.hid (K5.out.trans k6 (fun i hi e => by have := HB2.out; omega))
  clear hr6 k6
  have y7_7 := heap_cell (RB6.out) 7; have z7_7 := heap_free (RB6.out) 7
  have g7_7 := heap_set (RB6.out) 7 (.int .u32 (a : Int))
  simp only [List.setIfInBounds_toArray, List.set_cons_zero, List.set_cons_succ] at g7_7
  have y7_8 := heap_cell (g7_7) 8; have z7_8 := heap_free (g7_7) 8
  have g7_8 := heap_set (g7_7) 8 (.int .u32 (b : Int))
  simp only [List.setIfInBounds_toArray, List.set_cons_zero, List.set_cons_succ] at g7_8
  have y7_9 := heap_cell (g7_8) 9; have z7_9 := heap_free (g7_8) 9
  have g7_9 := heap_set (g7_8) 9 (.int .u32 (c : Int))
  simp only [List.setIfInBounds_toArray, List.set_cons_zero, List.set_cons_succ] at g7_9
  obtain ⟨w7, hw7⟩ : ∃ w7, (((w6).setCell ⟨r, 7, none⟩ (.int .u32 (a : Int))).setCell ⟨r, 8, none⟩ (.int .u32 (b : Int))).setCell ⟨r, 9, none⟩ (.int .u32 (c : Int)) = w7 := ⟨_, rfl⟩
  have k7 : Kept (fun k => k = r) w6 w7 := by rw [← hw7]; exact ((((Kept.refl (fun k => k = r) w6).set r 7 (fun _ => rfl) (.int .u32 (a : Int))).set r 8 (fun _ => rfl) (.int .u32 (b : Int))).set r 9 (fun _ => rfl) (.int .u32 (c : Int)))
  have u7 := heap_cell g7_9 0
  rw [hw7] at g7_9
  have RB7 := Lw.hid g7_9; have HW7 := Lw.hid hw7
  have R7 := Lw.hid (R6.out.kept k7 (fun i h1 h2 h3 => by omega)); have C7 := Lw.hid (k7.heap C6.out (fun e => by omega))
  have K7 : Hid (Kept (fun _ => False) w w7) := Lw.hid (K6.out.trans k7 (fun i hi e => by have := HB2.out; omega))
  clear k7 hw7 g7_7 g7_8 g7_9
  go_wp2_with fail
  rw [HW7.out]
  clear u7 y7_7 z7_7 y7_8 z7_8 y7_9 z7_9
  have HRT : Hid (rightB 6 0 0 = true) := Lw.hid (by rfl)
  have HPH : Hid (∀ (x y : World), Kept (fun _ => False) x y → x.heap[b2]? = some (.cells #[.int .u8 6, .int .u32 0, .string ⟨#[]⟩, .int .i64 0, .int .i64 0, .int .i64 0, .pointer none, .int .u32 (a : Int), .int .u32 (b : Int), .int .u32 (c : Int)] 69 (0, 0)) → y.heap[b2]? = some (.cells #[.int .u8 6, .int .u32 0, .string ⟨#[]⟩, .int .i64 0, .int .i64 0, .int .i64 0, .pointer none, .int .u32 (a : Int), .int .u32 (b : Int), .int .u32 (c : Int)] 69 (0, 0))) := Lw.hid (fun x y k h => k.heap h (fun h => h))
  refine wp_region_set 15 (AI 13 (fun k => k = b2) (fun wx => wx.heap[b2]? = some (.cells #[.int .u8 6, .int .u32 0, .string ⟨#[]⟩, .int .i64 0, .int .i64 0, .int .i64 0, .pointer none, .int .u32 (a : Int), .int .u32 (b : Int), .int .u32 (c : Int)] 69 (0, 0))) w7) (aR (fun k => k = b2)) [gV (.agg #[.int .u8 6, .int .u32 0, .string ⟨#[]⟩, .int .i64 0, .int .i64 0, .int .i64 0, .pointer none, .int .u32 (a : Int), .int .u32 (b : Int), .int .u32 (c : Int)]), gV (.pointer (some ⟨br, 0, none⟩)), gV (.int .i64 0), gV (.bool true), gV (.bool true), gV (.pointer (some ⟨br, 0, none⟩)), gV (.int .i64 0), gV (.bool true), gV (.bool true), gV (.bool true), gV (.agg #[.int .u8 6, .int .u32 0, .string ⟨#[]⟩, .int .i64 0, .int .i64 0, .int .i64 0, .pointer none, .int .u32 (a : Int), .int .u32 (b : Int), .int .u32 (c : Int)]), gV (.bool true), gV (.bool true), gV undef, gV (.bool true)] (false) (by kernel_rfl) (by kernel_rfl) (AI.start ((Kept.refl _ w7).drew)) ?_ ?_
  · refine gsteps_cons (fun D γ a' w' hI hD0 hdep hcl hag hlt hf K hK => ?_) ?_
    · have s5 := hag.same 5 (by decide)
      clear hlt
      clear hag
      have hrb := hI.kept.heap RB7.out (fun e => by omega)
      have c0 := heap_cell hrb 0
      have c1 := heap_cell hrb 1
      have c2 := heap_cell hrb 2
      have c3 := heap_cell hrb 3
      have c4 := heap_cell hrb 4
      have c5 := heap_cell hrb 5
      have c6 := heap_cell hrb 6
      have c7 := heap_cell hrb 7
      have c8 := heap_cell hrb 8
      have c9 := heap_cell hrb 9
      clear hrb
      go_wp2_with fail
      exact hK _ _ _ (hI.pure HPH.out (Kept.refl _ _) rfl) (aR.pure (Kept.refl _ _)) rfl
    refine gsteps_cons (fun D γ a' w' hI hD0 hdep hcl hag hlt hf K hK => ?_) ?_
    · have s4 := hag.same 4 (by decide)
      clear hlt
      clear hag
      go_wp2_with fail
      exact hK _ _ _ (hI.pure HPH.out (Kept.refl _ _) rfl) (aR.pure (Kept.refl _ _)) rfl
    refine gsteps_cons (fun D γ a' w' hI hD0 hdep hcl hag hlt hf K hK => ?_) ?_
    · obtain ⟨⟨_, h1, rfl⟩, -⟩ : SFacts _ _ a' w' [1] := hf
      clear hlt
      clear hag
      have HR4 := Lw.hid (R7.out.kept hI.kept (fun i h1 h2 h3 => by omega))
      go_wp2_with fail
      refine (rs_err _ _ w' br _ HR4.out).mono ?_
      rintro e w4 ⟨rfl, rfl⟩
      go_wp2_with fail
      exact hK _ _ _ (hI.pure HPH.out (Kept.refl _ _) rfl) (aR.pure (Kept.refl _ _)) rfl
    refine gsteps_cons (fun D γ a' w' hI hD0 hdep hcl hag hlt hf K hK => ?_) ?_
    · obtain ⟨⟨_, h2, rfl⟩, -⟩ : SFacts _ _ a' w' [2] := hf
      clear hlt
      clear hag
      go_wp2_with fail
      exact hK _ _ _ (hI.pure HPH.out (Kept.refl _ _) rfl) (aR.pure (Kept.refl _ _)) rfl
    refine gsteps_cons (fun D γ a' w' hI hD0 hdep hcl hag hlt hf K hK => ?_) ?_
    · obtain ⟨⟨_, h3, rfl⟩, -⟩ : SFacts _ _ a' w' [3, 2] := hf
      clear hlt
      clear hag
      go_wp2_with fail
      exact hK _ _ _ (hI.pure HPH.out (Kept.refl _ _) rfl) (aR.pure (Kept.refl _ _)) rfl
    refine gsteps_cons (fun D γ a' w' hI hD0 hdep hcl hag hlt hf K hK => ?_) ?_
    · obtain ⟨⟨_, h4, rfl⟩, -⟩ : SFacts _ _ a' w' [4] := hf
      have s4 := hag.same 4 (by decide)
      clear hlt
      clear hag
      go_wp2_with fail
      exact hK _ _ _ (hI.pure HPH.out (Kept.refl _ _) rfl) (aR.pure (Kept.refl _ _)) rfl
    refine gsteps_cons (fun D γ a' w' hI hD0 hdep hcl hag hlt hf K hK => ?_) ?_
    · obtain ⟨⟨_, h5, rfl⟩, ⟨_, h4, rfl⟩, -⟩ : SFacts _ _ a' w' [5, 4] := hf
      clear hlt
      clear hag
      have HR4 := Lw.hid (R7.out.kept hI.kept (fun i h1 h2 h3 => by omega))
      go_wp2_with fail
      refine (rs_left _ _ w' br HR4.out).mono ?_
      rintro e w4 ⟨rfl, rfl⟩
      go_wp2_with fail
      exact hK _ _ _ (hI.pure HPH.out (Kept.refl _ _) rfl) (aR.pure (Kept.refl _ _)) rfl
    refine gsteps_cons (fun D γ a' w' hI hD0 hdep hcl hag hlt hf K hK => ?_) ?_
    · obtain ⟨⟨_, h6, rfl⟩, ⟨_, h4, rfl⟩, -⟩ : SFacts _ _ a' w' [6, 4] := hf
      clear hlt
      clear hag
      go_wp2_with fail
      exact hK _ _ _ (hI.pure HPH.out (Kept.refl _ _) rfl) (aR.pure (Kept.refl _ _)) rfl
    refine gsteps_cons (fun D γ a' w' hI hD0 hdep hcl hag hlt hf K hK => ?_) ?_
    · obtain ⟨⟨_, h4, rfl⟩, ⟨_, h7, rfl⟩, -⟩ : SFacts _ _ a' w' [4, 7] := hf
      clear hlt
      clear hag
      go_wp2_with fail
      exact hK _ _ _ (hI.pure HPH.out (Kept.refl _ _) rfl) (aR.pure (Kept.refl _ _)) rfl
    refine gsteps_cons (fun D γ a' w' hI hD0 hdep hcl hag hlt hf K hK => ?_) ?_
    · obtain ⟨⟨_, h8, rfl⟩, -⟩ : SFacts _ _ a' w' [8, 6] := hf
      clear hlt
      clear hag
      go_wp2_with fail
      exact hK _ _ _ (hI.pure HPH.out (Kept.refl _ _) rfl) (aR.pure (Kept.refl _ _)) rfl
    refine gsteps_cons (fun D γ a' w' hI hD0 hdep hcl hag hlt hf K hK => ?_) ?_
    · obtain ⟨⟨_, h9, rfl⟩, -⟩ : SFacts _ _ a' w' [9] := hf
      have s5 := hag.same 5 (by decide)
      clear hlt
      clear hag
      have hrb := hI.kept.heap RB7.out (fun e => by omega)
      have c0 := heap_cell hrb 0
      have c1 := heap_cell hrb 1
      have c2 := heap_cell hrb 2
      have c3 := heap_cell hrb 3
      have c4 := heap_cell hrb 4
      have c5 := heap_cell hrb 5
      have c6 := heap_cell hrb 6
      have c7 := heap_cell hrb 7
      have c8 := heap_cell hrb 8
      have c9 := heap_cell hrb 9
      clear hrb
      go_wp2_with fail
      exact hK _ _ _ (hI.pure HPH.out (Kept.refl _ _) rfl) (aR.pure (Kept.refl _ _)) rfl
    refine gsteps_cons (fun D γ a' w' hI hD0 hdep hcl hag hlt hf K hK => ?_) ?_
    · obtain ⟨⟨_, h10, rfl⟩, ⟨_, h9, rfl⟩, -⟩ : SFacts _ _ a' w' [10, 9] := hf
      clear hlt
      clear hag
      have HI := Lw.hid hI
      clear hI
      go_wp2_with fail
      refine (right_raw w' 6 0 [] 0 0 0 none a b c (by unfold IsKind; decide)).mono ?_
      rw [HRT.out]
      rintro e w4 ⟨rfl, k4⟩
      have K4 := Lw.hid k4
      clear k4
      go_wp2_with fail
      exact hK _ _ _ (HI.out.pure HPH.out K4.out rfl) (aR.pure K4.out) rfl
    refine gsteps_cons (fun D γ a' w' hI hD0 hdep hcl hag hlt hf K hK => ?_) ?_
    · obtain ⟨⟨_, h9, rfl⟩, ⟨_, h11, rfl⟩, -⟩ : SFacts _ _ a' w' [9, 11] := hf
      clear hlt
      clear hag
      go_wp2_with fail
      exact hK _ _ _ (hI.pure HPH.out (Kept.refl _ _) rfl) (aR.pure (Kept.refl _ _)) rfl
    refine gsteps_cons (fun D γ a' w' hI hD0 hdep hcl hag hlt hf K hK => ?_) ?_
    · obtain ⟨⟨_, h0, rfl⟩, -⟩ : SFacts _ _ a' w' [0, 11] := hf
      have s2 := hag.same 2 (by decide)
      clear hlt
      clear hag
      obtain ⟨hg0, hk0⟩ := hI.no hD0
      have hb := hk0.heap C7.out (fun h => h)
      have ks := kept_setRow w' b2 #[.int .u8 6, .int .u32 0, .string ⟨#[]⟩, .int .i64 0, .int .i64 0, .int .i64 0, .pointer none, .int .u32 (a : Int), .int .u32 (b : Int), .int .u32 (c : Int)]
      refine wpList_store_row rfl 69 _ _ rfl b2 #[.int .u8 6, .int .u32 0, .string ⟨#[]⟩, .int .i64 0, .int .i64 0, .int .i64 0, .pointer none, .int .u32 (a : Int), .int .u32 (b : Int), .int .u32 (c : Int)] (by simp [Act.eval, s2]) (by simp [Act.eval, h0]) _ _ hb (by kernel_rfl) rfl (by kernel_rfl) ?_
      exact wpList_nil (hK undef true _ ⟨hI.kept.trans ks (fun _ _ h => h), fun h => by simp at h, fun _ => ⟨rfl, setRow_heap _ _ _ _ _ _ hb⟩⟩ ⟨ks, fun h => by rw [hg0] at h; cases h⟩ rfl)
    refine gsteps_cons (fun D γ a' w' hI hD0 hdep hcl hag hlt hf K hK => ?_) ?_
    · obtain ⟨⟨_, h12, rfl⟩, -⟩ : SFacts _ _ a' w' [12, 13, 0, 1, 2, 3, 4, 5, 6, 7, 8, 9, 10, 11] := hf
      clear hlt
      clear hag
      go_wp2_with fail
      exact hK _ _ _ (hI.pure HPH.out (Kept.refl _ _) rfl) (aR.pure (Kept.refl _ _)) rfl
    exact trivial
  · intro vs γ wz hI hvs
    have q0 : vs 0 = (.agg #[.int .u8 6, .int .u32 0, .string ⟨#[]⟩, .int .i64 0, .int .i64 0, .int .i64 0, .pointer none, .int .u32 (a : Int), .int .u32 (b : Int), .int .u32 (c : Int)]) := hvs 0 _ _ rfl rfl
    have q1 : vs 1 = (.pointer (some ⟨br, 0, none⟩)) := hvs 1 _ _ rfl rfl
    have q2 : vs 2 = (.int .i64 0) := hvs 2 _ _ rfl rfl
    have q3 : vs 3 = (.bool true) := hvs 3 _ _ rfl rfl
    have q4 : vs 4 = (.bool true) := hvs 4 _ _ rfl rfl
    have q5 : vs 5 = (.pointer (some ⟨br, 0, none⟩)) := hvs 5 _ _ rfl rfl
    have q6 : vs 6 = (.int .i64 0) := hvs 6 _ _ rfl rfl
    have q7 : vs 7 = (.bool true) := hvs 7 _ _ rfl rfl
    have q8 : vs 8 = (.bool true) := hvs 8 _ _ rfl rfl
    have q9 : vs 9 = (.bool true) := hvs 9 _ _ rfl rfl
    have q10 : vs 10 = (.agg #[.int .u8 6, .int .u32 0, .string ⟨#[]⟩, .int .i64 0, .int .i64 0, .int .i64 0, .pointer none, .int .u32 (a : Int), .int .u32 (b : Int), .int .u32 (c : Int)]) := hvs 10 _ _ rfl rfl
    have q11 : vs 11 = (.bool true) := hvs 11 _ _ rfl rfl
    have q12 : vs 12 = (.bool true) := hvs 12 _ _ rfl rfl
    have q14 : vs 14 = (.bool true) := hvs 14 _ _ rfl rfl
    clear hvs
    simp only [List.take_succ_cons, List.take_zero, List.drop_succ_cons, List.drop_zero, putAll, Act.put, List.setIfInBounds_toArray, List.set_cons_zero, List.set_cons_succ, Nat.reduceAdd, q0, q1, q2, q3, q4, q5, q6, q7, q8, q9, q10, q11, q12, q14]
    clear q0 q1 q2 q3 q4 q5 q6 q7 q8 q9 q10 q11 q12 q14
    have hf := (hI.yes rfl).2
    have KZ : Hid (Kept (fun _ => False) w wz) := Lw.hid (K7.out.trans hI.kept (fun i hi e => by have := HB2.out; omega))
    have e0 := heap_cell hf 0
    have e1 := heap_cell hf 1
    have e2 := heap_cell hf 2
    have e3 := heap_cell hf 3
    have e4 := heap_cell hf 4
    have e5 := heap_cell hf 5
    have e6 := heap_cell hf 6
    have e7 := heap_cell hf 7
    have e8 := heap_cell hf 8
    have e9 := heap_cell hf 9
    simp only [List.getElem?_toArray, List.getElem?_cons_zero, List.getElem?_cons_succ] at e0 e1 e2 e3 e4 e5 e6 e7 e8 e9
    clear hI hf
    go_wp2_with fail
    exact bodyPost_ret (v := .tuple #[.agg #[.int .u8 6, .int .u32 0, .string ⟨#[]⟩, .int .i64 0, .int .i64 0, .int .i64 0, .pointer none, .int .u32 (a : Int), .int .u32 (b : Int), .int .u32 (c : Int)], .bool true]) (by simp [results, Tryz.results26, go_sem, e0, e1, e2, e3, e4, e5, e6, e7, e8, e9]) rfl ⟨rfl, KZ.out⟩
set_option maxHeartbeats 16000000 in
theorem read22_any (w : World) (v : Value) (id off : Nat) (t : List UInt8) (hid : id < 4294967296) (hoff : off < 4294967296) (ht : t.length ≤ 60) (hv : RdB w v (recB2 id 2 off t)) :
    Calls Tryz.prog 26 #[v] w fun e w' => e = .returned (.tuple #[rv 2 id t 2 off 0 none 0 0 0, .bool true]) ∧ Kept (fun _ => False) w w' := by
  have hlen : (recB2 id 2 off t).length ≤ 6000 := by simp [recB2, be_length]; omega
  obtain ⟨ad, cap, rfl, hc1, hc2, _⟩ := hv.open
  have HV := Lw.hid hv
  clear hv
  obtain ⟨L, hL⟩ : ∃ L, recB2 id 2 off t = L := ⟨_, rfl⟩
  have HL := Lw.hid hL
  rw [hL] at HV hc1 hlen ⊢
  obtain ⟨sl, hsl2⟩ : ∃ sl, L.length = sl := ⟨_, rfl⟩
  have HSL := Lw.hid hsl2
  rw [hsl2] at HV hc1 hlen ⊢
  obtain ⟨wA, hwA⟩ : ∃ wA, w.alloc (.cells #[.int .u8 0, .int .u32 0, .string ⟨#[]⟩, .int .i64 0, .int .i64 0, .int .i64 0, .pointer none, .int .u32 0, .int .u32 0, .int .u32 0] 69) = wA := ⟨_, rfl⟩
  obtain ⟨b2, hb2⟩ : ∃ b2, w.heap.size = b2 := ⟨_, rfl⟩
  have KA : Hid (Kept (fun _ => False) w wA) := Lw.hid (by rw [← hwA]; exact (Kept.refl _ w).alloc _)
  have BA2 : Hid (wA.heap[b2]? = some (.cells #[.int .u8 0, .int .u32 0, .string ⟨#[]⟩, .int .i64 0, .int .i64 0, .int .i64 0, .pointer none, .int .u32 0, .int .u32 0, .int .u32 0] 69 (0, 0))) := Lw.hid (by rw [← hwA, ← hb2]; exact heap_alloc w _)
  have HWA := Lw.hid hwA
  obtain ⟨lo, hlo⟩ : ∃ lo, wA.heap.size = lo := ⟨_, rfl⟩
  have hlo2 : lo = b2 + 1 := by rw [← hlo, ← hwA, ← hb2]; simp
  have HLO := Lw.hid hlo; have HB2 := Lw.hid hb2
  clear hL hsl2 hwA hb2 hlo
  go_enter Tryz.func26, Tryz.ntmps26
  go_wp2_with fail
  rw [HWA.out, HB2.out]
  refine (rs_new wA _ L (HV.out.kept KA.out (fun _ _ h => h)) (by rw [HSL.out]; omega)).mono ?_
  rintro e w1 ⟨br, rfl, hr1, k1⟩
  obtain ⟨hi, hhi⟩ : ∃ hi, w1.heap.size = hi := ⟨_, rfl⟩
  rw [hhi, HLO.out] at hr1
  have hbr : lo ≤ br ∧ br < hi := by obtain ⟨_, _, h, _⟩ := hr1; exact h
  have hrl : recB2 id 2 off t = (2 : UInt8) :: (be 4 id ++ (2 :: (be 4 off ++ (be 2 t.length ++ t ++ [])))) := by simp [recB2]
  rw [← HL.out, hrl] at hr1
  have R1 := Lw.hid hr1; have K1 := Lw.hid (KA.out.trans k1 (fun _ _ h => h)); have HHI := Lw.hid hhi
  have C1 := Lw.hid (k1.heap BA2.out (fun h => h))
  clear hr1 k1 hhi hrl
  go_wp2_with fail
  refine (rs_byte _ _ w1 br _ _ R1.out).mono ?_
  rintro e w2 ⟨rfl, hr2, k2⟩
  have R2 := Lw.hid hr2
  have C2 := Lw.hid (k2.heap C1.out (fun e => by omega))
  have K2 : Hid (Kept (fun _ => False) w w2) := Lw.hid (K1.out.trans k2 (fun i hi e => by have := HB2.out; omega))
  have hsz2 : hi ≤ w2.heap.size := by have := k2.size; have := HHI.out; omega
  clear hr2 k2
  obtain ⟨w3, hw3⟩ : ∃ w3, w2.alloc (.cells #[.int .u8 2, .int .u32 0, .string ⟨#[]⟩, .int .i64 0, .int .i64 0, .int .i64 0, .pointer none, .int .u32 0, .int .u32 0, .int .u32 0] 69) = w3 := ⟨_, rfl⟩
  obtain ⟨r, hr⟩ : ∃ r, w2.heap.size = r := ⟨_, rfl⟩
  have k3 : Kept (fun _ => False) w2 w3 := by rw [← hw3]; exact (Kept.refl _ w2).alloc _
  have RB3 : Hid (w3.heap[r]? = some (.cells #[.int .u8 2, .int .u32 0, .string ⟨#[]⟩, .int .i64 0, .int .i64 0, .int .i64 0, .pointer none, .int .u32 0, .int .u32 0, .int .u32 0] 69 (0, 0))) := Lw.hid (by rw [← hw3, ← hr]; exact heap_alloc w2 _)
  have hrr : hi ≤ r := by omega
  have R3 := Lw.hid (R2.out.kept k3 (fun _ _ _ h => h)); have C3 := Lw.hid (k3.heap C2.out (fun h => h)); have K3 := Lw.hid (K2.out.trans k3 (fun _ _ h => h))
  have HW3 := Lw.hid hw3; have HRR := Lw.hid hr
  clear hw3 hr k3 hsz2
  go_wp2_with fail
  rw [HW3.out, HRR.out]
  refine (rs_four _ _ w3 br id hid _ R3.out).mono ?_
  rintro e w4 ⟨rfl, hr4, k4⟩
  have R4 := Lw.hid hr4
  have RB4 := Lw.hid (k4.heap RB3.out (fun e => by omega)); have C4 := Lw.hid (k4.heap C3.out (fun e => by omega))
  have K4 : Hid (Kept (fun _ => False) w w4) := Lw.hid (K3.out.trans k4 (fun i hi e => by have := HB2.out; omega))
  clear hr4 k4
  have y5_1 := heap_cell (RB4.out) 1; have z5_1 := heap_free (RB4.out) 1
  have g5_1 := heap_set (RB4.out) 1 (.int .u32 (id : Int))
  simp only [List.setIfInBounds_toArray, List.set_cons_zero, List.set_cons_succ] at g5_1
  obtain ⟨w5, hw5⟩ : ∃ w5, (w4).setCell ⟨r, 1, none⟩ (.int .u32 (id : Int)) = w5 := ⟨_, rfl⟩
  have k5 : Kept (fun k => k = r) w4 w5 := by rw [← hw5]; exact ((Kept.refl (fun k => k = r) w4).set r 1 (fun _ => rfl) (.int .u32 (id : Int)))
  have u5 := heap_cell g5_1 0
  rw [hw5] at g5_1
  have RB5 := Lw.hid g5_1; have HW5 := Lw.hid hw5
  have R5 := Lw.hid (R4.out.kept k5 (fun i h1 h2 h3 => by omega)); have C5 := Lw.hid (k5.heap C4.out (fun e => by omega))
  have K5 : Hid (Kept (fun _ => False) w w5) := Lw.hid (K4.out.trans k5 (fun i hi e => by have := HB2.out; omega))
  clear k5 hw5 g5_1
  go_wp2_with fail
  rw [HW5.out]
  clear u5 y5_1 z5_1
  refine (rs_byte _ _ w5 br 2 _ R5.out).mono ?_
  rintro e w6 ⟨rfl, hr6, k6⟩
  have R6 := Lw.hid hr6
  have RB6 := Lw.hid (k6.heap RB5.out (fun e => by omega)); have C6 := Lw.hid (k6.heap C5.out (fun e => by omega))
  have K6 : Hid (Kept (fun _ => False) w w6) := Lw.hid (K5.out.trans k6 (fun i hi e => by have := HB2.out; omega))
  clear hr6 k6
  have u6 := heap_cell RB6.out 0
  go_wp2_with fail
  clear u6
  refine (rs_four _ _ w6 br off hoff _ R6.out).mono ?_
  rintro e w7 ⟨rfl, hr7, k7⟩
  have R7 := Lw.hid hr7
  have RB7 := Lw.hid (k7.heap RB6.out (fun e => by omega)); have C7 := Lw.hid (k7.heap C6.out (fun e => by omega))
  have K7 : Hid (Kept (fun _ => False) w w7) := Lw.hid (K6.out.trans k7 (fun i hi e => by have := HB2.out; omega))
  clear hr7 k7
  have u7 := heap_cell RB7.out 0
  go_wp2_with fail
  clear u7
  refine (rs_text _ _ w7 br t [] ht R7.out).mono ?_
  rintro e w8 ⟨rfl, hr8, k8⟩
  have R8 := Lw.hid hr8
  have RB8 := Lw.hid (k8.heap RB7.out (fun e => by omega)); have C8 := Lw.hid (k8.heap C7.out (fun e => by omega))
  have K8 : Hid (Kept (fun _ => False) w w8) := Lw.hid (K7.out.trans k8 (fun i hi e => by have := HB2.out; omega))
  clear hr8 k8
  have y9_3 := heap_cell (RB8.out) 3; have z9_3 := heap_free (RB8.out) 3
  have g9_3 := heap_set (RB8.out) 3 (.int .i64 2)
  simp only [List.setIfInBounds_toArray, List.set_cons_zero, List.set_cons_succ] at g9_3
  have y9_4 := heap_cell (g9_3) 4; have z9_4 := heap_free (g9_3) 4
  have g9_4 := heap_set (g9_3) 4 (.int .i64 (off : Int))
  simp only [List.setIfInBounds_toArray, List.set_cons_zero, List.set_cons_succ] at g9_4
  have y9_2 := heap_cell (g9_4) 2; have z9_2 := heap_free (g9_4) 2
  have g9_2 := heap_set (g9_4) 2 (.string (BA t))
  simp only [List.setIfInBounds_toArray, List.set_cons_zero, List.set_cons_succ] at g9_2
  obtain ⟨w9, hw9⟩ : ∃ w9, (((w8).setCell ⟨r, 3, none⟩ (.int .i64 2)).setCell ⟨r, 4, none⟩ (.int .i64 (off : Int))).setCell ⟨r, 2, none⟩ (.string (BA t)) = w9 := ⟨_, rfl⟩
  have k9 : Kept (fun k => k = r) w8 w9 := by rw [← hw9]; exact ((((Kept.refl (fun k => k = r) w8).set r 3 (fun _ => rfl) (.int .i64 2)).set r 4 (fun _ => rfl) (.int .i64 (off : Int))).set r 2 (fun _ => rfl) (.string (BA t)))
  have u9 := heap_cell g9_2 0
  rw [hw9] at g9_2
  have RB9 := Lw.hid g9_2; have HW9 := Lw.hid hw9
  have R9 := Lw.hid (R8.out.kept k9 (fun i h1 h2 h3 => by omega)); have C9 := Lw.hid (k9.heap C8.out (fun e => by omega))
  have K9 : Hid (Kept (fun _ => False) w w9) := Lw.hid (K8.out.trans k9 (fun i hi e => by have := HB2.out; omega))
  clear k9 hw9 g9_3 g9_4 g9_2
  go_wp2_with fail
  rw [HW9.out]
  clear u9 y9_3 z9_3 y9_4 z9_4 y9_2 z9_2
  have HRT : Hid (rightB 2 2 0 = true) := Lw.hid (by rfl)
  have HPH : Hid (∀ (x y : World), Kept (fun _ => False) x y → x.heap[b2]? = some (.cells #[.int .u8 2, .int .u32 (id : Int), .string (BA t), .int .i64 2, .int .i64 (off : Int), .int .i64 0, .pointer none, .int .u32 0, .int .u32 0, .int .u32 0] 69 (0, 0)) → y.heap[b2]? = some (.cells #[.int .u8 2, .int .u32 (id : Int), .string (BA t), .int .i64 2, .int .i64 (off : Int), .int .i64 0, .pointer none, .int .u32 0, .int .u32 0, .int .u32 0] 69 (0, 0))) := Lw.hid (fun x y k h => k.heap h (fun h => h))
  refine wp_region_set 15 (AI 13 (fun k => k = b2) (fun wx => wx.heap[b2]? = some (.cells #[.int .u8 2, .int .u32 (id : Int), .string (BA t), .int .i64 2, .int .i64 (off : Int), .int .i64 0, .pointer none, .int .u32 0, .int .u32 0, .int .u32 0] 69 (0, 0))) w9) (aR (fun k => k = b2)) [gV (.agg #[.int .u8 2, .int .u32 (id : Int), .string (BA t), .int .i64 2, .int .i64 (off : Int), .int .i64 0, .pointer none, .int .u32 0, .int .u32 0, .int .u32 0]), gV (.pointer (some ⟨br, 0, none⟩)), gV (.int .i64 0), gV (.bool true), gV (.bool true), gV (.pointer (some ⟨br, 0, none⟩)), gV (.int .i64 0), gV (.bool true), gV (.bool true), gV (.bool true), gV (.agg #[.int .u8 2, .int .u32 (id : Int), .string (BA t), .int .i64 2, .int .i64 (off : Int), .int .i64 0, .pointer none, .int .u32 0, .int .u32 0, .int .u32 0]), gV (.bool true), gV (.bool true), gV undef, gV (.bool true)] (false) (by kernel_rfl) (by kernel_rfl) (AI.start ((Kept.refl _ w9).drew)) ?_ ?_
  · refine gsteps_cons (fun D γ a' w' hI hD0 hdep hcl hag hlt hf K hK => ?_) ?_
    · have s5 := hag.same 5 (by decide)
      clear hlt
      clear hag
      have hrb := hI.kept.heap RB9.out (fun e => by omega)
      have c0 := heap_cell hrb 0
      have c1 := heap_cell hrb 1
      have c2 := heap_cell hrb 2
      have c3 := heap_cell hrb 3
      have c4 := heap_cell hrb 4
      have c5 := heap_cell hrb 5
      have c6 := heap_cell hrb 6
      have c7 := heap_cell hrb 7
      have c8 := heap_cell hrb 8
      have c9 := heap_cell hrb 9
      clear hrb
      go_wp2_with fail
      exact hK _ _ _ (hI.pure HPH.out (Kept.refl _ _) rfl) (aR.pure (Kept.refl _ _)) rfl
    refine gsteps_cons (fun D γ a' w' hI hD0 hdep hcl hag hlt hf K hK => ?_) ?_
    · have s4 := hag.same 4 (by decide)
      clear hlt
      clear hag
      go_wp2_with fail
      exact hK _ _ _ (hI.pure HPH.out (Kept.refl _ _) rfl) (aR.pure (Kept.refl _ _)) rfl
    refine gsteps_cons (fun D γ a' w' hI hD0 hdep hcl hag hlt hf K hK => ?_) ?_
    · obtain ⟨⟨_, h1, rfl⟩, -⟩ : SFacts _ _ a' w' [1] := hf
      clear hlt
      clear hag
      have HR4 := Lw.hid (R9.out.kept hI.kept (fun i h1 h2 h3 => by omega))
      go_wp2_with fail
      refine (rs_err _ _ w' br _ HR4.out).mono ?_
      rintro e w4 ⟨rfl, rfl⟩
      go_wp2_with fail
      exact hK _ _ _ (hI.pure HPH.out (Kept.refl _ _) rfl) (aR.pure (Kept.refl _ _)) rfl
    refine gsteps_cons (fun D γ a' w' hI hD0 hdep hcl hag hlt hf K hK => ?_) ?_
    · obtain ⟨⟨_, h2, rfl⟩, -⟩ : SFacts _ _ a' w' [2] := hf
      clear hlt
      clear hag
      go_wp2_with fail
      exact hK _ _ _ (hI.pure HPH.out (Kept.refl _ _) rfl) (aR.pure (Kept.refl _ _)) rfl
    refine gsteps_cons (fun D γ a' w' hI hD0 hdep hcl hag hlt hf K hK => ?_) ?_
    · obtain ⟨⟨_, h3, rfl⟩, -⟩ : SFacts _ _ a' w' [3, 2] := hf
      clear hlt
      clear hag
      go_wp2_with fail
      exact hK _ _ _ (hI.pure HPH.out (Kept.refl _ _) rfl) (aR.pure (Kept.refl _ _)) rfl
    refine gsteps_cons (fun D γ a' w' hI hD0 hdep hcl hag hlt hf K hK => ?_) ?_
    · obtain ⟨⟨_, h4, rfl⟩, -⟩ : SFacts _ _ a' w' [4] := hf
      have s4 := hag.same 4 (by decide)
      clear hlt
      clear hag
      go_wp2_with fail
      exact hK _ _ _ (hI.pure HPH.out (Kept.refl _ _) rfl) (aR.pure (Kept.refl _ _)) rfl
    refine gsteps_cons (fun D γ a' w' hI hD0 hdep hcl hag hlt hf K hK => ?_) ?_
    · obtain ⟨⟨_, h5, rfl⟩, ⟨_, h4, rfl⟩, -⟩ : SFacts _ _ a' w' [5, 4] := hf
      clear hlt
      clear hag
      have HR4 := Lw.hid (R9.out.kept hI.kept (fun i h1 h2 h3 => by omega))
      go_wp2_with fail
      refine (rs_left _ _ w' br HR4.out).mono ?_
      rintro e w4 ⟨rfl, rfl⟩
      go_wp2_with fail
      exact hK _ _ _ (hI.pure HPH.out (Kept.refl _ _) rfl) (aR.pure (Kept.refl _ _)) rfl
    refine gsteps_cons (fun D γ a' w' hI hD0 hdep hcl hag hlt hf K hK => ?_) ?_
    · obtain ⟨⟨_, h6, rfl⟩, ⟨_, h4, rfl⟩, -⟩ : SFacts _ _ a' w' [6, 4] := hf
      clear hlt
      clear hag
      go_wp2_with fail
      exact hK _ _ _ (hI.pure HPH.out (Kept.refl _ _) rfl) (aR.pure (Kept.refl _ _)) rfl
    refine gsteps_cons (fun D γ a' w' hI hD0 hdep hcl hag hlt hf K hK => ?_) ?_
    · obtain ⟨⟨_, h4, rfl⟩, ⟨_, h7, rfl⟩, -⟩ : SFacts _ _ a' w' [4, 7] := hf
      clear hlt
      clear hag
      go_wp2_with fail
      exact hK _ _ _ (hI.pure HPH.out (Kept.refl _ _) rfl) (aR.pure (Kept.refl _ _)) rfl
    refine gsteps_cons (fun D γ a' w' hI hD0 hdep hcl hag hlt hf K hK => ?_) ?_
    · obtain ⟨⟨_, h8, rfl⟩, -⟩ : SFacts _ _ a' w' [8, 6] := hf
      clear hlt
      clear hag
      go_wp2_with fail
      exact hK _ _ _ (hI.pure HPH.out (Kept.refl _ _) rfl) (aR.pure (Kept.refl _ _)) rfl
    refine gsteps_cons (fun D γ a' w' hI hD0 hdep hcl hag hlt hf K hK => ?_) ?_
    · obtain ⟨⟨_, h9, rfl⟩, -⟩ : SFacts _ _ a' w' [9] := hf
      have s5 := hag.same 5 (by decide)
      clear hlt
      clear hag
      have hrb := hI.kept.heap RB9.out (fun e => by omega)
      have c0 := heap_cell hrb 0
      have c1 := heap_cell hrb 1
      have c2 := heap_cell hrb 2
      have c3 := heap_cell hrb 3
      have c4 := heap_cell hrb 4
      have c5 := heap_cell hrb 5
      have c6 := heap_cell hrb 6
      have c7 := heap_cell hrb 7
      have c8 := heap_cell hrb 8
      have c9 := heap_cell hrb 9
      clear hrb
      go_wp2_with fail
      exact hK _ _ _ (hI.pure HPH.out (Kept.refl _ _) rfl) (aR.pure (Kept.refl _ _)) rfl
    refine gsteps_cons (fun D γ a' w' hI hD0 hdep hcl hag hlt hf K hK => ?_) ?_
    · obtain ⟨⟨_, h10, rfl⟩, ⟨_, h9, rfl⟩, -⟩ : SFacts _ _ a' w' [10, 9] := hf
      clear hlt
      clear hag
      have HI := Lw.hid hI
      clear hI
      go_wp2_with fail
      refine (right_raw w' 2 id t 2 off 0 none 0 0 0 (by unfold IsKind; decide)).mono ?_
      rw [HRT.out]
      rintro e w4 ⟨rfl, k4⟩
      have K4 := Lw.hid k4
      clear k4
      go_wp2_with fail
      exact hK _ _ _ (HI.out.pure HPH.out K4.out rfl) (aR.pure K4.out) rfl
    refine gsteps_cons (fun D γ a' w' hI hD0 hdep hcl hag hlt hf K hK => ?_) ?_
    · obtain ⟨⟨_, h9, rfl⟩, ⟨_, h11, rfl⟩, -⟩ : SFacts _ _ a' w' [9, 11] := hf
      clear hlt
      clear hag
      go_wp2_with fail
      exact hK _ _ _ (hI.pure HPH.out (Kept.refl _ _) rfl) (aR.pure (Kept.refl _ _)) rfl
    refine gsteps_cons (fun D γ a' w' hI hD0 hdep hcl hag hlt hf K hK => ?_) ?_
    · obtain ⟨⟨_, h0, rfl⟩, -⟩ : SFacts _ _ a' w' [0, 11] := hf
      have s2 := hag.same 2 (by decide)
      clear hlt
      clear hag
      obtain ⟨hg0, hk0⟩ := hI.no hD0
      have hb := hk0.heap C9.out (fun h => h)
      have ks := kept_setRow w' b2 #[.int .u8 2, .int .u32 (id : Int), .string (BA t), .int .i64 2, .int .i64 (off : Int), .int .i64 0, .pointer none, .int .u32 0, .int .u32 0, .int .u32 0]
      refine wpList_store_row rfl 69 _ _ rfl b2 #[.int .u8 2, .int .u32 (id : Int), .string (BA t), .int .i64 2, .int .i64 (off : Int), .int .i64 0, .pointer none, .int .u32 0, .int .u32 0, .int .u32 0] (by simp [Act.eval, s2]) (by simp [Act.eval, h0]) _ _ hb (by kernel_rfl) rfl (by kernel_rfl) ?_
      exact wpList_nil (hK undef true _ ⟨hI.kept.trans ks (fun _ _ h => h), fun h => by simp at h, fun _ => ⟨rfl, setRow_heap _ _ _ _ _ _ hb⟩⟩ ⟨ks, fun h => by rw [hg0] at h; cases h⟩ rfl)
    refine gsteps_cons (fun D γ a' w' hI hD0 hdep hcl hag hlt hf K hK => ?_) ?_
    · obtain ⟨⟨_, h12, rfl⟩, -⟩ : SFacts _ _ a' w' [12, 13, 0, 1, 2, 3, 4, 5, 6, 7, 8, 9, 10, 11] := hf
      clear hlt
      clear hag
      go_wp2_with fail
      exact hK _ _ _ (hI.pure HPH.out (Kept.refl _ _) rfl) (aR.pure (Kept.refl _ _)) rfl
    exact trivial
  · intro vs γ wz hI hvs
    have q0 : vs 0 = (.agg #[.int .u8 2, .int .u32 (id : Int), .string (BA t), .int .i64 2, .int .i64 (off : Int), .int .i64 0, .pointer none, .int .u32 0, .int .u32 0, .int .u32 0]) := hvs 0 _ _ rfl rfl
    have q1 : vs 1 = (.pointer (some ⟨br, 0, none⟩)) := hvs 1 _ _ rfl rfl
    have q2 : vs 2 = (.int .i64 0) := hvs 2 _ _ rfl rfl
    have q3 : vs 3 = (.bool true) := hvs 3 _ _ rfl rfl
    have q4 : vs 4 = (.bool true) := hvs 4 _ _ rfl rfl
    have q5 : vs 5 = (.pointer (some ⟨br, 0, none⟩)) := hvs 5 _ _ rfl rfl
    have q6 : vs 6 = (.int .i64 0) := hvs 6 _ _ rfl rfl
    have q7 : vs 7 = (.bool true) := hvs 7 _ _ rfl rfl
    have q8 : vs 8 = (.bool true) := hvs 8 _ _ rfl rfl
    have q9 : vs 9 = (.bool true) := hvs 9 _ _ rfl rfl
    have q10 : vs 10 = (.agg #[.int .u8 2, .int .u32 (id : Int), .string (BA t), .int .i64 2, .int .i64 (off : Int), .int .i64 0, .pointer none, .int .u32 0, .int .u32 0, .int .u32 0]) := hvs 10 _ _ rfl rfl
    have q11 : vs 11 = (.bool true) := hvs 11 _ _ rfl rfl
    have q12 : vs 12 = (.bool true) := hvs 12 _ _ rfl rfl
    have q14 : vs 14 = (.bool true) := hvs 14 _ _ rfl rfl
    clear hvs
    simp only [List.take_succ_cons, List.take_zero, List.drop_succ_cons, List.drop_zero, putAll, Act.put, List.setIfInBounds_toArray, List.set_cons_zero, List.set_cons_succ, Nat.reduceAdd, q0, q1, q2, q3, q4, q5, q6, q7, q8, q9, q10, q11, q12, q14]
    clear q0 q1 q2 q3 q4 q5 q6 q7 q8 q9 q10 q11 q12 q14
    have hf := (hI.yes rfl).2
    have KZ : Hid (Kept (fun _ => False) w wz) := Lw.hid (K9.out.trans hI.kept (fun i hi e => by have := HB2.out; omega))
    have e0 := heap_cell hf 0
    have e1 := heap_cell hf 1
    have e2 := heap_cell hf 2
    have e3 := heap_cell hf 3
    have e4 := heap_cell hf 4
    have e5 := heap_cell hf 5
    have e6 := heap_cell hf 6
    have e7 := heap_cell hf 7
    have e8 := heap_cell hf 8
    have e9 := heap_cell hf 9
    simp only [List.getElem?_toArray, List.getElem?_cons_zero, List.getElem?_cons_succ] at e0 e1 e2 e3 e4 e5 e6 e7 e8 e9
    clear hI hf
    go_wp2_with fail
    exact bodyPost_ret (v := .tuple #[.agg #[.int .u8 2, .int .u32 (id : Int), .string (BA t), .int .i64 2, .int .i64 (off : Int), .int .i64 0, .pointer none, .int .u32 0, .int .u32 0, .int .u32 0], .bool true]) (by simp [results, Tryz.results26, go_sem, e0, e1, e2, e3, e4, e5, e6, e7, e8, e9]) rfl ⟨rfl, KZ.out⟩
set_option maxHeartbeats 16000000 in
theorem read23_any (w : World) (v : Value) (id off : Nat) (t : List UInt8) (hid : id < 4294967296) (hoff : off < 4294967296) (ht : t.length ≤ 60) (hv : RdB w v (recB2 id 3 off t)) :
    Calls Tryz.prog 26 #[v] w fun e w' => e = .returned (.tuple #[rv 2 id t 3 off 0 none 0 0 0, .bool true]) ∧ Kept (fun _ => False) w w' := by
  have hlen : (recB2 id 3 off t).length ≤ 6000 := by simp [recB2, be_length]; omega
  obtain ⟨ad, cap, rfl, hc1, hc2, _⟩ := hv.open
  have HV := Lw.hid hv
  clear hv
  obtain ⟨L, hL⟩ : ∃ L, recB2 id 3 off t = L := ⟨_, rfl⟩
  have HL := Lw.hid hL
  rw [hL] at HV hc1 hlen ⊢
  obtain ⟨sl, hsl2⟩ : ∃ sl, L.length = sl := ⟨_, rfl⟩
  have HSL := Lw.hid hsl2
  rw [hsl2] at HV hc1 hlen ⊢
  obtain ⟨wA, hwA⟩ : ∃ wA, w.alloc (.cells #[.int .u8 0, .int .u32 0, .string ⟨#[]⟩, .int .i64 0, .int .i64 0, .int .i64 0, .pointer none, .int .u32 0, .int .u32 0, .int .u32 0] 69) = wA := ⟨_, rfl⟩
  obtain ⟨b2, hb2⟩ : ∃ b2, w.heap.size = b2 := ⟨_, rfl⟩
  have KA : Hid (Kept (fun _ => False) w wA) := Lw.hid (by rw [← hwA]; exact (Kept.refl _ w).alloc _)
  have BA2 : Hid (wA.heap[b2]? = some (.cells #[.int .u8 0, .int .u32 0, .string ⟨#[]⟩, .int .i64 0, .int .i64 0, .int .i64 0, .pointer none, .int .u32 0, .int .u32 0, .int .u32 0] 69 (0, 0))) := Lw.hid (by rw [← hwA, ← hb2]; exact heap_alloc w _)
  have HWA := Lw.hid hwA
  obtain ⟨lo, hlo⟩ : ∃ lo, wA.heap.size = lo := ⟨_, rfl⟩
  have hlo2 : lo = b2 + 1 := by rw [← hlo, ← hwA, ← hb2]; simp
  have HLO := Lw.hid hlo; have HB2 := Lw.hid hb2
  clear hL hsl2 hwA hb2 hlo
  go_enter Tryz.func26, Tryz.ntmps26
  go_wp2_with fail
  rw [HWA.out, HB2.out]
  refine (rs_new wA _ L (HV.out.kept KA.out (fun _ _ h => h)) (by rw [HSL.out]; omega)).mono ?_
  rintro e w1 ⟨br, rfl, hr1, k1⟩
  obtain ⟨hi, hhi⟩ : ∃ hi, w1.heap.size = hi := ⟨_, rfl⟩
  rw [hhi, HLO.out] at hr1
  have hbr : lo ≤ br ∧ br < hi := by obtain ⟨_, _, h, _⟩ := hr1; exact h
  have hrl : recB2 id 3 off t = (2 : UInt8) :: (be 4 id ++ (3 :: (be 4 off ++ (be 2 t.length ++ t ++ [])))) := by simp [recB2]
  rw [← HL.out, hrl] at hr1
  have R1 := Lw.hid hr1; have K1 := Lw.hid (KA.out.trans k1 (fun _ _ h => h)); have HHI := Lw.hid hhi
  have C1 := Lw.hid (k1.heap BA2.out (fun h => h))
  clear hr1 k1 hhi hrl
  go_wp2_with fail
  refine (rs_byte _ _ w1 br _ _ R1.out).mono ?_
  rintro e w2 ⟨rfl, hr2, k2⟩
  have R2 := Lw.hid hr2
  have C2 := Lw.hid (k2.heap C1.out (fun e => by omega))
  have K2 : Hid (Kept (fun _ => False) w w2) := Lw.hid (K1.out.trans k2 (fun i hi e => by have := HB2.out; omega))
  have hsz2 : hi ≤ w2.heap.size := by have := k2.size; have := HHI.out; omega
  clear hr2 k2
  obtain ⟨w3, hw3⟩ : ∃ w3, w2.alloc (.cells #[.int .u8 2, .int .u32 0, .string ⟨#[]⟩, .int .i64 0, .int .i64 0, .int .i64 0, .pointer none, .int .u32 0, .int .u32 0, .int .u32 0] 69) = w3 := ⟨_, rfl⟩
  obtain ⟨r, hr⟩ : ∃ r, w2.heap.size = r := ⟨_, rfl⟩
  have k3 : Kept (fun _ => False) w2 w3 := by rw [← hw3]; exact (Kept.refl _ w2).alloc _
  have RB3 : Hid (w3.heap[r]? = some (.cells #[.int .u8 2, .int .u32 0, .string ⟨#[]⟩, .int .i64 0, .int .i64 0, .int .i64 0, .pointer none, .int .u32 0, .int .u32 0, .int .u32 0] 69 (0, 0))) := Lw.hid (by rw [← hw3, ← hr]; exact heap_alloc w2 _)
  have hrr : hi ≤ r := by omega
  have R3 := Lw.hid (R2.out.kept k3 (fun _ _ _ h => h)); have C3 := Lw.hid (k3.heap C2.out (fun h => h)); have K3 := Lw.hid (K2.out.trans k3 (fun _ _ h => h))
  have HW3 := Lw.hid hw3; have HRR := Lw.hid hr
  clear hw3 hr k3 hsz2
  go_wp2_with fail
  rw [HW3.out, HRR.out]
  refine (rs_four _ _ w3 br id hid _ R3.out).mono ?_
  rintro e w4 ⟨rfl, hr4, k4⟩
  have R4 := Lw.hid hr4
  have RB4 := Lw.hid (k4.heap RB3.out (fun e => by omega)); have C4 := Lw.hid (k4.heap C3.out (fun e => by omega))
  have K4 : Hid (Kept (fun _ => False) w w4) := Lw.hid (K3.out.trans k4 (fun i hi e => by have := HB2.out; omega))
  clear hr4 k4
  have y5_1 := heap_cell (RB4.out) 1; have z5_1 := heap_free (RB4.out) 1
  have g5_1 := heap_set (RB4.out) 1 (.int .u32 (id : Int))
  simp only [List.setIfInBounds_toArray, List.set_cons_zero, List.set_cons_succ] at g5_1
  obtain ⟨w5, hw5⟩ : ∃ w5, (w4).setCell ⟨r, 1, none⟩ (.int .u32 (id : Int)) = w5 := ⟨_, rfl⟩
  have k5 : Kept (fun k => k = r) w4 w5 := by rw [← hw5]; exact ((Kept.refl (fun k => k = r) w4).set r 1 (fun _ => rfl) (.int .u32 (id : Int)))
  have u5 := heap_cell g5_1 0
  rw [hw5] at g5_1
  have RB5 := Lw.hid g5_1; have HW5 := Lw.hid hw5
  have R5 := Lw.hid (R4.out.kept k5 (fun i h1 h2 h3 => by omega)); have C5 := Lw.hid (k5.heap C4.out (fun e => by omega))
  have K5 : Hid (Kept (fun _ => False) w w5) := Lw.hid (K4.out.trans k5 (fun i hi e => by have := HB2.out; omega))
  clear k5 hw5 g5_1
  go_wp2_with fail
  rw [HW5.out]
  clear u5 y5_1 z5_1
  refine (rs_byte _ _ w5 br 3 _ R5.out).mono ?_
  rintro e w6 ⟨rfl, hr6, k6⟩
  have R6 := Lw.hid hr6
  have RB6 := Lw.hid (k6.heap RB5.out (fun e => by omega)); have C6 := Lw.hid (k6.heap C5.out (fun e => by omega))
  have K6 : Hid (Kept (fun _ => False) w w6) := Lw.hid (K5.out.trans k6 (fun i hi e => by have := HB2.out; omega))
  clear hr6 k6
  have u6 := heap_cell RB6.out 0
  go_wp2_with fail
  clear u6
  refine (rs_four _ _ w6 br off hoff _ R6.out).mono ?_
  rintro e w7 ⟨rfl, hr7, k7⟩
  have R7 := Lw.hid hr7
  have RB7 := Lw.hid (k7.heap RB6.out (fun e => by omega)); have C7 := Lw.hid (k7.heap C6.out (fun e => by omega))
  have K7 : Hid (Kept (fun _ => False) w w7) := Lw.hid (K6.out.trans k7 (fun i hi e => by have := HB2.out; omega))
  clear hr7 k7
  have u7 := heap_cell RB7.out 0
  go_wp2_with fail
  clear u7
  refine (rs_text _ _ w7 br t [] ht R7.out).mono ?_
  rintro e w8 ⟨rfl, hr8, k8⟩
  have R8 := Lw.hid hr8
  have RB8 := Lw.hid (k8.heap RB7.out (fun e => by omega)); have C8 := Lw.hid (k8.heap C7.out (fun e => by omega))
  have K8 : Hid (Kept (fun _ => False) w w8) := Lw.hid (K7.out.trans k8 (fun i hi e => by have := HB2.out; omega))
  clear hr8 k8
  have y9_3 := heap_cell (RB8.out) 3; have z9_3 := heap_free (RB8.out) 3
  have g9_3 := heap_set (RB8.out) 3 (.int .i64 3)
  simp only [List.setIfInBounds_toArray, List.set_cons_zero, List.set_cons_succ] at g9_3
  have y9_4 := heap_cell (g9_3) 4; have z9_4 := heap_free (g9_3) 4
  have g9_4 := heap_set (g9_3) 4 (.int .i64 (off : Int))
  simp only [List.setIfInBounds_toArray, List.set_cons_zero, List.set_cons_succ] at g9_4
  have y9_2 := heap_cell (g9_4) 2; have z9_2 := heap_free (g9_4) 2
  have g9_2 := heap_set (g9_4) 2 (.string (BA t))
  simp only [List.setIfInBounds_toArray, List.set_cons_zero, List.set_cons_succ] at g9_2
  obtain ⟨w9, hw9⟩ : ∃ w9, (((w8).setCell ⟨r, 3, none⟩ (.int .i64 3)).setCell ⟨r, 4, none⟩ (.int .i64 (off : Int))).setCell ⟨r, 2, none⟩ (.string (BA t)) = w9 := ⟨_, rfl⟩
  have k9 : Kept (fun k => k = r) w8 w9 := by rw [← hw9]; exact ((((Kept.refl (fun k => k = r) w8).set r 3 (fun _ => rfl) (.int .i64 3)).set r 4 (fun _ => rfl) (.int .i64 (off : Int))).set r 2 (fun _ => rfl) (.string (BA t)))
  have u9 := heap_cell g9_2 0
  rw [hw9] at g9_2
  have RB9 := Lw.hid g9_2; have HW9 := Lw.hid hw9
  have R9 := Lw.hid (R8.out.kept k9 (fun i h1 h2 h3 => by omega)); have C9 := Lw.hid (k9.heap C8.out (fun e => by omega))
  have K9 : Hid (Kept (fun _ => False) w w9) := Lw.hid (K8.out.trans k9 (fun i hi e => by have := HB2.out; omega))
  clear k9 hw9 g9_3 g9_4 g9_2
  go_wp2_with fail
  rw [HW9.out]
  clear u9 y9_3 z9_3 y9_4 z9_4 y9_2 z9_2
  have HRT : Hid (rightB 2 3 0 = true) := Lw.hid (by rfl)
  have HPH : Hid (∀ (x y : World), Kept (fun _ => False) x y → x.heap[b2]? = some (.cells #[.int .u8 2, .int .u32 (id : Int), .string (BA t), .int .i64 3, .int .i64 (off : Int), .int .i64 0, .pointer none, .int .u32 0, .int .u32 0, .int .u32 0] 69 (0, 0)) → y.heap[b2]? = some (.cells #[.int .u8 2, .int .u32 (id : Int), .string (BA t), .int .i64 3, .int .i64 (off : Int), .int .i64 0, .pointer none, .int .u32 0, .int .u32 0, .int .u32 0] 69 (0, 0))) := Lw.hid (fun x y k h => k.heap h (fun h => h))
  refine wp_region_set 15 (AI 13 (fun k => k = b2) (fun wx => wx.heap[b2]? = some (.cells #[.int .u8 2, .int .u32 (id : Int), .string (BA t), .int .i64 3, .int .i64 (off : Int), .int .i64 0, .pointer none, .int .u32 0, .int .u32 0, .int .u32 0] 69 (0, 0))) w9) (aR (fun k => k = b2)) [gV (.agg #[.int .u8 2, .int .u32 (id : Int), .string (BA t), .int .i64 3, .int .i64 (off : Int), .int .i64 0, .pointer none, .int .u32 0, .int .u32 0, .int .u32 0]), gV (.pointer (some ⟨br, 0, none⟩)), gV (.int .i64 0), gV (.bool true), gV (.bool true), gV (.pointer (some ⟨br, 0, none⟩)), gV (.int .i64 0), gV (.bool true), gV (.bool true), gV (.bool true), gV (.agg #[.int .u8 2, .int .u32 (id : Int), .string (BA t), .int .i64 3, .int .i64 (off : Int), .int .i64 0, .pointer none, .int .u32 0, .int .u32 0, .int .u32 0]), gV (.bool true), gV (.bool true), gV undef, gV (.bool true)] (false) (by kernel_rfl) (by kernel_rfl) (AI.start ((Kept.refl _ w9).drew)) ?_ ?_
  · refine gsteps_cons (fun D γ a' w' hI hD0 hdep hcl hag hlt hf K hK => ?_) ?_
    · have s5 := hag.same 5 (by decide)
      clear hlt
      clear hag
      have hrb := hI.kept.heap RB9.out (fun e => by omega)
      have c0 := heap_cell hrb 0
      have c1 := heap_cell hrb 1
      have c2 := heap_cell hrb 2
      have c3 := heap_cell hrb 3
      have c4 := heap_cell hrb 4
      have c5 := heap_cell hrb 5
      have c6 := heap_cell hrb 6
      have c7 := heap_cell hrb 7
      have c8 := heap_cell hrb 8
      have c9 := heap_cell hrb 9
      clear hrb
      go_wp2_with fail
      exact hK _ _ _ (hI.pure HPH.out (Kept.refl _ _) rfl) (aR.pure (Kept.refl _ _)) rfl
    refine gsteps_cons (fun D γ a' w' hI hD0 hdep hcl hag hlt hf K hK => ?_) ?_
    · have s4 := hag.same 4 (by decide)
      clear hlt
      clear hag
      go_wp2_with fail
      exact hK _ _ _ (hI.pure HPH.out (Kept.refl _ _) rfl) (aR.pure (Kept.refl _ _)) rfl
    refine gsteps_cons (fun D γ a' w' hI hD0 hdep hcl hag hlt hf K hK => ?_) ?_
    · obtain ⟨⟨_, h1, rfl⟩, -⟩ : SFacts _ _ a' w' [1] := hf
      clear hlt
      clear hag
      have HR4 := Lw.hid (R9.out.kept hI.kept (fun i h1 h2 h3 => by omega))
      go_wp2_with fail
      refine (rs_err _ _ w' br _ HR4.out).mono ?_
      rintro e w4 ⟨rfl, rfl⟩
      go_wp2_with fail
      exact hK _ _ _ (hI.pure HPH.out (Kept.refl _ _) rfl) (aR.pure (Kept.refl _ _)) rfl
    refine gsteps_cons (fun D γ a' w' hI hD0 hdep hcl hag hlt hf K hK => ?_) ?_
    · obtain ⟨⟨_, h2, rfl⟩, -⟩ : SFacts _ _ a' w' [2] := hf
      clear hlt
      clear hag
      go_wp2_with fail
      exact hK _ _ _ (hI.pure HPH.out (Kept.refl _ _) rfl) (aR.pure (Kept.refl _ _)) rfl
    refine gsteps_cons (fun D γ a' w' hI hD0 hdep hcl hag hlt hf K hK => ?_) ?_
    · obtain ⟨⟨_, h3, rfl⟩, -⟩ : SFacts _ _ a' w' [3, 2] := hf
      clear hlt
      clear hag
      go_wp2_with fail
      exact hK _ _ _ (hI.pure HPH.out (Kept.refl _ _) rfl) (aR.pure (Kept.refl _ _)) rfl
    refine gsteps_cons (fun D γ a' w' hI hD0 hdep hcl hag hlt hf K hK => ?_) ?_
    · obtain ⟨⟨_, h4, rfl⟩, -⟩ : SFacts _ _ a' w' [4] := hf
      have s4 := hag.same 4 (by decide)
      clear hlt
      clear hag
      go_wp2_with fail
      exact hK _ _ _ (hI.pure HPH.out (Kept.refl _ _) rfl) (aR.pure (Kept.refl _ _)) rfl
    refine gsteps_cons (fun D γ a' w' hI hD0 hdep hcl hag hlt hf K hK => ?_) ?_
    · obtain ⟨⟨_, h5, rfl⟩, ⟨_, h4, rfl⟩, -⟩ : SFacts _ _ a' w' [5, 4] := hf
      clear hlt
      clear hag
      have HR4 := Lw.hid (R9.out.kept hI.kept (fun i h1 h2 h3 => by omega))
      go_wp2_with fail
      refine (rs_left _ _ w' br HR4.out).mono ?_
      rintro e w4 ⟨rfl, rfl⟩
      go_wp2_with fail
      exact hK _ _ _ (hI.pure HPH.out (Kept.refl _ _) rfl) (aR.pure (Kept.refl _ _)) rfl
    refine gsteps_cons (fun D γ a' w' hI hD0 hdep hcl hag hlt hf K hK => ?_) ?_
    · obtain ⟨⟨_, h6, rfl⟩, ⟨_, h4, rfl⟩, -⟩ : SFacts _ _ a' w' [6, 4] := hf
      clear hlt
      clear hag
      go_wp2_with fail
      exact hK _ _ _ (hI.pure HPH.out (Kept.refl _ _) rfl) (aR.pure (Kept.refl _ _)) rfl
    refine gsteps_cons (fun D γ a' w' hI hD0 hdep hcl hag hlt hf K hK => ?_) ?_
    · obtain ⟨⟨_, h4, rfl⟩, ⟨_, h7, rfl⟩, -⟩ : SFacts _ _ a' w' [4, 7] := hf
      clear hlt
      clear hag
      go_wp2_with fail
      exact hK _ _ _ (hI.pure HPH.out (Kept.refl _ _) rfl) (aR.pure (Kept.refl _ _)) rfl
    refine gsteps_cons (fun D γ a' w' hI hD0 hdep hcl hag hlt hf K hK => ?_) ?_
    · obtain ⟨⟨_, h8, rfl⟩, -⟩ : SFacts _ _ a' w' [8, 6] := hf
      clear hlt
      clear hag
      go_wp2_with fail
      exact hK _ _ _ (hI.pure HPH.out (Kept.refl _ _) rfl) (aR.pure (Kept.refl _ _)) rfl
    refine gsteps_cons (fun D γ a' w' hI hD0 hdep hcl hag hlt hf K hK => ?_) ?_
    · obtain ⟨⟨_, h9, rfl⟩, -⟩ : SFacts _ _ a' w' [9] := hf
      have s5 := hag.same 5 (by decide)
      clear hlt
      clear hag
      have hrb := hI.kept.heap RB9.out (fun e => by omega)
      have c0 := heap_cell hrb 0
      have c1 := heap_cell hrb 1
      have c2 := heap_cell hrb 2
      have c3 := heap_cell hrb 3
      have c4 := heap_cell hrb 4
      have c5 := heap_cell hrb 5
      have c6 := heap_cell hrb 6
      have c7 := heap_cell hrb 7
      have c8 := heap_cell hrb 8
      have c9 := heap_cell hrb 9
      clear hrb
      go_wp2_with fail
      exact hK _ _ _ (hI.pure HPH.out (Kept.refl _ _) rfl) (aR.pure (Kept.refl _ _)) rfl
    refine gsteps_cons (fun D γ a' w' hI hD0 hdep hcl hag hlt hf K hK => ?_) ?_
    · obtain ⟨⟨_, h10, rfl⟩, ⟨_, h9, rfl⟩, -⟩ : SFacts _ _ a' w' [10, 9] := hf
      clear hlt
      clear hag
      have HI := Lw.hid hI
      clear hI
      go_wp2_with fail
      refine (right_raw w' 2 id t 3 off 0 none 0 0 0 (by unfold IsKind; decide)).mono ?_
      rw [HRT.out]
      rintro e w4 ⟨rfl, k4⟩
      have K4 := Lw.hid k4
      clear k4
      go_wp2_with fail
      exact hK _ _ _ (HI.out.pure HPH.out K4.out rfl) (aR.pure K4.out) rfl
    refine gsteps_cons (fun D γ a' w' hI hD0 hdep hcl hag hlt hf K hK => ?_) ?_
    · obtain ⟨⟨_, h9, rfl⟩, ⟨_, h11, rfl⟩, -⟩ : SFacts _ _ a' w' [9, 11] := hf
      clear hlt
      clear hag
      go_wp2_with fail
      exact hK _ _ _ (hI.pure HPH.out (Kept.refl _ _) rfl) (aR.pure (Kept.refl _ _)) rfl
    refine gsteps_cons (fun D γ a' w' hI hD0 hdep hcl hag hlt hf K hK => ?_) ?_
    · obtain ⟨⟨_, h0, rfl⟩, -⟩ : SFacts _ _ a' w' [0, 11] := hf
      have s2 := hag.same 2 (by decide)
      clear hlt
      clear hag
      obtain ⟨hg0, hk0⟩ := hI.no hD0
      have hb := hk0.heap C9.out (fun h => h)
      have ks := kept_setRow w' b2 #[.int .u8 2, .int .u32 (id : Int), .string (BA t), .int .i64 3, .int .i64 (off : Int), .int .i64 0, .pointer none, .int .u32 0, .int .u32 0, .int .u32 0]
      refine wpList_store_row rfl 69 _ _ rfl b2 #[.int .u8 2, .int .u32 (id : Int), .string (BA t), .int .i64 3, .int .i64 (off : Int), .int .i64 0, .pointer none, .int .u32 0, .int .u32 0, .int .u32 0] (by simp [Act.eval, s2]) (by simp [Act.eval, h0]) _ _ hb (by kernel_rfl) rfl (by kernel_rfl) ?_
      exact wpList_nil (hK undef true _ ⟨hI.kept.trans ks (fun _ _ h => h), fun h => by simp at h, fun _ => ⟨rfl, setRow_heap _ _ _ _ _ _ hb⟩⟩ ⟨ks, fun h => by rw [hg0] at h; cases h⟩ rfl)
    refine gsteps_cons (fun D γ a' w' hI hD0 hdep hcl hag hlt hf K hK => ?_) ?_
    · obtain ⟨⟨_, h12, rfl⟩, -⟩ : SFacts _ _ a' w' [12, 13, 0, 1, 2, 3, 4, 5, 6, 7, 8, 9, 10, 11] := hf
      clear hlt
      clear hag
      go_wp2_with fail
      exact hK _ _ _ (hI.pure HPH.out (Kept.refl _ _) rfl) (aR.pure (Kept.refl _ _)) rfl
    exact trivial
  · intro vs γ wz hI hvs
    have q0 : vs 0 = (.agg #[.int .u8 2, .int .u32 (id : Int), .string (BA t), .int .i64 3, .int .i64 (off : Int), .int .i64 0, .pointer none, .int .u32 0, .int .u32 0, .int .u32 0]) := hvs 0 _ _ rfl rfl
    have q1 : vs 1 = (.pointer (some ⟨br, 0, none⟩)) := hvs 1 _ _ rfl rfl
    have q2 : vs 2 = (.int .i64 0) := hvs 2 _ _ rfl rfl
    have q3 : vs 3 = (.bool true) := hvs 3 _ _ rfl rfl
    have q4 : vs 4 = (.bool true) := hvs 4 _ _ rfl rfl
    have q5 : vs 5 = (.pointer (some ⟨br, 0, none⟩)) := hvs 5 _ _ rfl rfl
    have q6 : vs 6 = (.int .i64 0) := hvs 6 _ _ rfl rfl
    have q7 : vs 7 = (.bool true) := hvs 7 _ _ rfl rfl
    have q8 : vs 8 = (.bool true) := hvs 8 _ _ rfl rfl
    have q9 : vs 9 = (.bool true) := hvs 9 _ _ rfl rfl
    have q10 : vs 10 = (.agg #[.int .u8 2, .int .u32 (id : Int), .string (BA t), .int .i64 3, .int .i64 (off : Int), .int .i64 0, .pointer none, .int .u32 0, .int .u32 0, .int .u32 0]) := hvs 10 _ _ rfl rfl
    have q11 : vs 11 = (.bool true) := hvs 11 _ _ rfl rfl
    have q12 : vs 12 = (.bool true) := hvs 12 _ _ rfl rfl
    have q14 : vs 14 = (.bool true) := hvs 14 _ _ rfl rfl
    clear hvs
    simp only [List.take_succ_cons, List.take_zero, List.drop_succ_cons, List.drop_zero, putAll, Act.put, List.setIfInBounds_toArray, List.set_cons_zero, List.set_cons_succ, Nat.reduceAdd, q0, q1, q2, q3, q4, q5, q6, q7, q8, q9, q10, q11, q12, q14]
    clear q0 q1 q2 q3 q4 q5 q6 q7 q8 q9 q10 q11 q12 q14
    have hf := (hI.yes rfl).2
    have KZ : Hid (Kept (fun _ => False) w wz) := Lw.hid (K9.out.trans hI.kept (fun i hi e => by have := HB2.out; omega))
    have e0 := heap_cell hf 0
    have e1 := heap_cell hf 1
    have e2 := heap_cell hf 2
    have e3 := heap_cell hf 3
    have e4 := heap_cell hf 4
    have e5 := heap_cell hf 5
    have e6 := heap_cell hf 6
    have e7 := heap_cell hf 7
    have e8 := heap_cell hf 8
    have e9 := heap_cell hf 9
    simp only [List.getElem?_toArray, List.getElem?_cons_zero, List.getElem?_cons_succ] at e0 e1 e2 e3 e4 e5 e6 e7 e8 e9
    clear hI hf
    go_wp2_with fail
    exact bodyPost_ret (v := .tuple #[.agg #[.int .u8 2, .int .u32 (id : Int), .string (BA t), .int .i64 3, .int .i64 (off : Int), .int .i64 0, .pointer none, .int .u32 0, .int .u32 0, .int .u32 0], .bool true]) (by simp [results, Tryz.results26, go_sem, e0, e1, e2, e3, e4, e5, e6, e7, e8, e9]) rfl ⟨rfl, KZ.out⟩
set_option maxHeartbeats 16000000 in
theorem read4_any (w : World) (v : Value) (id n : Nat) (t : List UInt8) (hid : id < 4294967296) (hn : n < 256) (ht : t.length ≤ 60) (hml : MLx w) (hv : RdB w v (recB4 id n (some t))) :
    Calls Tryz.prog 26 #[v] w fun e w' => ∃ g, e = .returned (.tuple #[rv 4 id [] 0 0 n (some ⟨g, 0, none⟩) 0 0 0, .bool true]) ∧ StAt w' (fun b => w.heap.size ≤ b) g (n : Int) (some t) ∧ Kept (fun _ => False) w w' := by
  have hlen : (recB4 id n (some t)).length ≤ 6000 := by have := stateB_len n (some t) (fun u hu => by cases hu; omega); simp only [recB4, be_length, List.length_append, List.length_cons, List.length_nil]; omega
  obtain ⟨ad, cap, rfl, hc1, hc2, _⟩ := hv.open
  have HV := Lw.hid hv
  clear hv
  have HML := Lw.hid hml
  clear hml
  obtain ⟨L, hL⟩ : ∃ L, recB4 id n (some t) = L := ⟨_, rfl⟩
  have HL := Lw.hid hL
  rw [hL] at HV hc1 hlen ⊢
  obtain ⟨sl, hsl2⟩ : ∃ sl, L.length = sl := ⟨_, rfl⟩
  have HSL := Lw.hid hsl2
  rw [hsl2] at HV hc1 hlen ⊢
  obtain ⟨wA, hwA⟩ : ∃ wA, w.alloc (.cells #[.int .u8 0, .int .u32 0, .string ⟨#[]⟩, .int .i64 0, .int .i64 0, .int .i64 0, .pointer none, .int .u32 0, .int .u32 0, .int .u32 0] 69) = wA := ⟨_, rfl⟩
  obtain ⟨b2, hb2⟩ : ∃ b2, w.heap.size = b2 := ⟨_, rfl⟩
  have KA : Hid (Kept (fun _ => False) w wA) := Lw.hid (by rw [← hwA]; exact (Kept.refl _ w).alloc _)
  have BA2 : Hid (wA.heap[b2]? = some (.cells #[.int .u8 0, .int .u32 0, .string ⟨#[]⟩, .int .i64 0, .int .i64 0, .int .i64 0, .pointer none, .int .u32 0, .int .u32 0, .int .u32 0] 69 (0, 0))) := Lw.hid (by rw [← hwA, ← hb2]; exact heap_alloc w _)
  have HWA := Lw.hid hwA
  obtain ⟨lo, hlo⟩ : ∃ lo, wA.heap.size = lo := ⟨_, rfl⟩
  have hlo2 : lo = b2 + 1 := by rw [← hlo, ← hwA, ← hb2]; simp
  have HLO := Lw.hid hlo; have HB2 := Lw.hid hb2
  clear hL hsl2 hwA hb2 hlo
  go_enter Tryz.func26, Tryz.ntmps26
  go_wp2_with fail
  rw [HWA.out, HB2.out]
  refine (rs_new wA _ L (HV.out.kept KA.out (fun _ _ h => h)) (by rw [HSL.out]; omega)).mono ?_
  rintro e w1 ⟨br, rfl, hr1, k1⟩
  obtain ⟨hi, hhi⟩ : ∃ hi, w1.heap.size = hi := ⟨_, rfl⟩
  rw [hhi, HLO.out] at hr1
  have hbr : lo ≤ br ∧ br < hi := by obtain ⟨_, _, h, _⟩ := hr1; exact h
  have hrl : recB4 id n (some t) = (4 : UInt8) :: (be 4 id ++ (UInt8.ofNat n :: (stateB n (some t) ++ []))) := by simp [recB4]
  rw [← HL.out, hrl] at hr1
  have R1 := Lw.hid hr1; have K1 := Lw.hid (KA.out.trans k1 (fun _ _ h => h)); have HHI := Lw.hid hhi
  have C1 := Lw.hid (k1.heap BA2.out (fun h => h))
  clear hr1 k1 hhi hrl
  go_wp2_with fail
  refine (rs_byte _ _ w1 br _ _ R1.out).mono ?_
  rintro e w2 ⟨rfl, hr2, k2⟩
  have R2 := Lw.hid hr2
  have C2 := Lw.hid (k2.heap C1.out (fun e => by omega))
  have K2 : Hid (Kept (fun _ => False) w w2) := Lw.hid (K1.out.trans k2 (fun i hi e => by have := HB2.out; omega))
  have hsz2 : hi ≤ w2.heap.size := by have := k2.size; have := HHI.out; omega
  clear hr2 k2
  obtain ⟨w3, hw3⟩ : ∃ w3, w2.alloc (.cells #[.int .u8 4, .int .u32 0, .string ⟨#[]⟩, .int .i64 0, .int .i64 0, .int .i64 0, .pointer none, .int .u32 0, .int .u32 0, .int .u32 0] 69) = w3 := ⟨_, rfl⟩
  obtain ⟨r, hr⟩ : ∃ r, w2.heap.size = r := ⟨_, rfl⟩
  have k3 : Kept (fun _ => False) w2 w3 := by rw [← hw3]; exact (Kept.refl _ w2).alloc _
  have RB3 : Hid (w3.heap[r]? = some (.cells #[.int .u8 4, .int .u32 0, .string ⟨#[]⟩, .int .i64 0, .int .i64 0, .int .i64 0, .pointer none, .int .u32 0, .int .u32 0, .int .u32 0] 69 (0, 0))) := Lw.hid (by rw [← hw3, ← hr]; exact heap_alloc w2 _)
  have hrr : hi ≤ r := by omega
  have R3 := Lw.hid (R2.out.kept k3 (fun _ _ _ h => h)); have C3 := Lw.hid (k3.heap C2.out (fun h => h)); have K3 := Lw.hid (K2.out.trans k3 (fun _ _ h => h))
  have HW3 := Lw.hid hw3; have HRR := Lw.hid hr
  clear hw3 hr k3 hsz2
  go_wp2_with fail
  rw [HW3.out, HRR.out]
  refine (rs_four _ _ w3 br id hid _ R3.out).mono ?_
  rintro e w4 ⟨rfl, hr4, k4⟩
  have R4 := Lw.hid hr4
  have RB4 := Lw.hid (k4.heap RB3.out (fun e => by omega)); have C4 := Lw.hid (k4.heap C3.out (fun e => by omega))
  have K4 : Hid (Kept (fun _ => False) w w4) := Lw.hid (K3.out.trans k4 (fun i hi e => by have := HB2.out; omega))
  clear hr4 k4
  have y5_1 := heap_cell (RB4.out) 1; have z5_1 := heap_free (RB4.out) 1
  have g5_1 := heap_set (RB4.out) 1 (.int .u32 (id : Int))
  simp only [List.setIfInBounds_toArray, List.set_cons_zero, List.set_cons_succ] at g5_1
  obtain ⟨w5, hw5⟩ : ∃ w5, (w4).setCell ⟨r, 1, none⟩ (.int .u32 (id : Int)) = w5 := ⟨_, rfl⟩
  have k5 : Kept (fun k => k = r) w4 w5 := by rw [← hw5]; exact ((Kept.refl (fun k => k = r) w4).set r 1 (fun _ => rfl) (.int .u32 (id : Int)))
  have u5 := heap_cell g5_1 0
  rw [hw5] at g5_1
  have RB5 := Lw.hid g5_1; have HW5 := Lw.hid hw5
  have R5 := Lw.hid (R4.out.kept k5 (fun i h1 h2 h3 => by omega)); have C5 := Lw.hid (k5.heap C4.out (fun e => by omega))
  have K5 : Hid (Kept (fun _ => False) w w5) := Lw.hid (K4.out.trans k5 (fun i hi e => by have := HB2.out; omega))
  clear k5 hw5 g5_1
  go_wp2_with fail
  rw [HW5.out]
  clear u5 y5_1 z5_1
  refine (rs_byteN _ _ w5 br n hn _ R5.out).mono ?_
  rintro e w6 ⟨rfl, hr6, k6⟩
  have R6 := Lw.hid hr6
  have RB6 := Lw.hid (k6.heap RB5.out (fun e => by omega)); have C6 := Lw.hid (k6.heap C5.out (fun e => by omega))
  have K6 : Hid (Kept (fun _ => False) w w6) := Lw.hid (K5.out.trans k6 (fun i hi e => by have := HB2.out; omega))
  clear hr6 k6
  have y7_5 := heap_cell (RB6.out) 5; have z7_5 := heap_free (RB6.out) 5
  have g7_5 := heap_set (RB6.out) 5 (.int .i64 (n : Int))
  simp only [List.setIfInBounds_toArray, List.set_cons_zero, List.set_cons_succ] at g7_5
  obtain ⟨w7, hw7⟩ : ∃ w7, (w6).setCell ⟨r, 5, none⟩ (.int .i64 (n : Int)) = w7 := ⟨_, rfl⟩
  have k7 : Kept (fun k => k = r) w6 w7 := by rw [← hw7]; exact ((Kept.refl (fun k => k = r) w6).set r 5 (fun _ => rfl) (.int .i64 (n : Int)))
  have u7 := heap_cell g7_5 0
  rw [hw7] at g7_5
  have RB7 := Lw.hid g7_5; have HW7 := Lw.hid hw7
  have R7 := Lw.hid (R6.out.kept k7 (fun i h1 h2 h3 => by omega)); have C7 := Lw.hid (k7.heap C6.out (fun e => by omega))
  have K7 : Hid (Kept (fun _ => False) w w7) := Lw.hid (K6.out.trans k7 (fun i hi e => by have := HB2.out; omega))
  clear k7 hw7 g7_5
  go_wp2_with fail
  rw [HW7.out]
  clear u7 y7_5 z7_5
  refine (rs_rest _ _ w7 br _ R7.out).mono ?_
  rintro e w8 ⟨out, rfl, hro, hr8, k8, -⟩
  rw [List.append_nil] at hro
  have R8 := Lw.hid hr8; have RO := Lw.hid hro
  have RB8 := Lw.hid (k8.heap RB7.out (fun e => by omega)); have C8 := Lw.hid (k8.heap C7.out (fun e => by omega))
  have K8 : Hid (Kept (fun _ => False) w w8) := Lw.hid (K7.out.trans k8 (fun i hi e => by have := HB2.out; omega))
  have hrs8 : r < w8.heap.size := heap_lt RB8.out
  obtain ⟨ado, capo, hoe, _, _, _⟩ := hro.open
  obtain ⟨sl9, hs9⟩ : ∃ sl9, (stateB n (some t)).length = sl9 := ⟨_, rfl⟩
  rw [hs9] at hoe
  subst hoe
  clear hr8 k8 hro hs9
  have u8 := heap_cell RB8.out 0
  go_wp2_with fail
  clear u8
  refine (sparse_any w8 _ n t hn ht RO.out (HML.out.kept K8.out (fun h => h))).mono ?_
  rintro e w9 ⟨g, rfl, hs9, k9⟩
  have R9 := Lw.hid (R8.out.kept k9 (fun _ _ _ h => h)); have RB9 := Lw.hid (k9.heap RB8.out (fun h => h)); have C9 := Lw.hid (k9.heap C8.out (fun h => h))
  have K9 := Lw.hid (K8.out.trans k9 (fun _ _ h => h)); have SG := Lw.hid (hs9.mono (G := fun b => r < b) (fun b _ hb => by omega))
  obtain ⟨ft9, m9, hbg, -, -, -, -, -⟩ := hs9.mem
  have cg0 := heap_cell hbg 0; have cr5 := heap_cell RB9.out 5; have u0 := heap_cell RB9.out 0
  clear hs9 k9 hbg
  go_wp2_with fail
  go_quiet (fail)
  clear cg0 cr5 u0
  obtain ⟨wq, hwq⟩ : ∃ wq, w9.drewN nq = wq := ⟨_, rfl⟩
  have kq : Kept (fun _ => False) w9 wq := by rw [← hwq]; exact kept_drewN _ _
  have RBq := Lw.hid (kq.heap RB9.out (fun h => h)); have Rq := Lw.hid (R9.out.kept kq (fun _ _ _ h => h)); have Cq := Lw.hid (kq.heap C9.out (fun h => h)); have Kq := Lw.hid (K9.out.trans kq (fun _ _ h => h)); have SGq := Lw.hid (SG.out.kept kq (fun _ _ h => h))
  rw [hwq]
  clear hwq kq
  have y6 := heap_cell RBq.out 6; have z6 := heap_free RBq.out 6
  have g6 := heap_set RBq.out 6 (.pointer (some ⟨g, 0, none⟩))
  simp only [List.setIfInBounds_toArray, List.set_cons_zero, List.set_cons_succ] at g6
  obtain ⟨w99, hw99⟩ : ∃ w99, wq.setCell ⟨r, 6, none⟩ (.pointer (some ⟨g, 0, none⟩)) = w99 := ⟨_, rfl⟩
  have k99 : Kept (fun k => k = r) wq w99 := by rw [← hw99]; exact (Kept.refl (fun k => k = r) wq).set r 6 (fun _ => rfl) _
  rw [hw99] at g6
  have RB99 := Lw.hid g6; have HW99 := Lw.hid hw99
  have R99 := Lw.hid (Rq.out.kept k99 (fun i h1 h2 h3 => by omega)); have C99 := Lw.hid (k99.heap Cq.out (fun e => by omega))
  have K99 : Hid (Kept (fun _ => False) w w99) := Lw.hid (Kq.out.trans k99 (fun i hi e => by have := HB2.out; omega))
  have SGF := Lw.hid (SGq.out.kept k99 (fun k hk e => by omega))
  clear k99 hw99 g6
  go_wp2_with fail
  rw [HW99.out]
  clear y6 z6
  have HRT : Hid (rightB 4 0 (n : Int) = true) := Lw.hid (by simp [rightB]; omega)
  have HPH : Hid (∀ (x y : World), Kept (fun _ => False) x y → x.heap[b2]? = some (.cells #[.int .u8 4, .int .u32 (id : Int), .string ⟨#[]⟩, .int .i64 0, .int .i64 0, .int .i64 (n : Int), .pointer (some ⟨g, 0, none⟩), .int .u32 0, .int .u32 0, .int .u32 0] 69 (0, 0)) → y.heap[b2]? = some (.cells #[.int .u8 4, .int .u32 (id : Int), .string ⟨#[]⟩, .int .i64 0, .int .i64 0, .int .i64 (n : Int), .pointer (some ⟨g, 0, none⟩), .int .u32 0, .int .u32 0, .int .u32 0] 69 (0, 0))) := Lw.hid (fun x y k h => k.heap h (fun h => h))
  refine wp_region_set 15 (AI 13 (fun k => k = b2) (fun wx => wx.heap[b2]? = some (.cells #[.int .u8 4, .int .u32 (id : Int), .string ⟨#[]⟩, .int .i64 0, .int .i64 0, .int .i64 (n : Int), .pointer (some ⟨g, 0, none⟩), .int .u32 0, .int .u32 0, .int .u32 0] 69 (0, 0))) w99) (aR (fun k => k = b2)) [gV (.agg #[.int .u8 4, .int .u32 (id : Int), .string ⟨#[]⟩, .int .i64 0, .int .i64 0, .int .i64 (n : Int), .pointer (some ⟨g, 0, none⟩), .int .u32 0, .int .u32 0, .int .u32 0]), gV (.pointer (some ⟨br, 0, none⟩)), gV (.int .i64 0), gV (.bool true), gV (.bool true), gV (.pointer (some ⟨br, 0, none⟩)), gV (.int .i64 0), gV (.bool true), gV (.bool true), gV (.bool true), gV (.agg #[.int .u8 4, .int .u32 (id : Int), .string ⟨#[]⟩, .int .i64 0, .int .i64 0, .int .i64 (n : Int), .pointer (some ⟨g, 0, none⟩), .int .u32 0, .int .u32 0, .int .u32 0]), gV (.bool true), gV (.bool true), gV undef, gV (.bool true)] (false) (by kernel_rfl) (by kernel_rfl) (AI.start ((Kept.refl _ w99).drew)) ?_ ?_
  · refine gsteps_cons (fun D γ a' w' hI hD0 hdep hcl hag hlt hf K hK => ?_) ?_
    · have s5 := hag.same 5 (by decide)
      clear hlt
      clear hag
      have hrb := hI.kept.heap RB99.out (fun e => by omega)
      have c0 := heap_cell hrb 0
      have c1 := heap_cell hrb 1
      have c2 := heap_cell hrb 2
      have c3 := heap_cell hrb 3
      have c4 := heap_cell hrb 4
      have c5 := heap_cell hrb 5
      have c6 := heap_cell hrb 6
      have c7 := heap_cell hrb 7
      have c8 := heap_cell hrb 8
      have c9 := heap_cell hrb 9
      clear hrb
      go_wp2_with fail
      exact hK _ _ _ (hI.pure HPH.out (Kept.refl _ _) rfl) (aR.pure (Kept.refl _ _)) rfl
    refine gsteps_cons (fun D γ a' w' hI hD0 hdep hcl hag hlt hf K hK => ?_) ?_
    · have s4 := hag.same 4 (by decide)
      clear hlt
      clear hag
      go_wp2_with fail
      exact hK _ _ _ (hI.pure HPH.out (Kept.refl _ _) rfl) (aR.pure (Kept.refl _ _)) rfl
    refine gsteps_cons (fun D γ a' w' hI hD0 hdep hcl hag hlt hf K hK => ?_) ?_
    · obtain ⟨⟨_, h1, rfl⟩, -⟩ : SFacts _ _ a' w' [1] := hf
      clear hlt
      clear hag
      have HR4 := Lw.hid (R99.out.kept hI.kept (fun i h1 h2 h3 => by omega))
      go_wp2_with fail
      refine (rs_err _ _ w' br _ HR4.out).mono ?_
      rintro e w4 ⟨rfl, rfl⟩
      go_wp2_with fail
      exact hK _ _ _ (hI.pure HPH.out (Kept.refl _ _) rfl) (aR.pure (Kept.refl _ _)) rfl
    refine gsteps_cons (fun D γ a' w' hI hD0 hdep hcl hag hlt hf K hK => ?_) ?_
    · obtain ⟨⟨_, h2, rfl⟩, -⟩ : SFacts _ _ a' w' [2] := hf
      clear hlt
      clear hag
      go_wp2_with fail
      exact hK _ _ _ (hI.pure HPH.out (Kept.refl _ _) rfl) (aR.pure (Kept.refl _ _)) rfl
    refine gsteps_cons (fun D γ a' w' hI hD0 hdep hcl hag hlt hf K hK => ?_) ?_
    · obtain ⟨⟨_, h3, rfl⟩, -⟩ : SFacts _ _ a' w' [3, 2] := hf
      clear hlt
      clear hag
      go_wp2_with fail
      exact hK _ _ _ (hI.pure HPH.out (Kept.refl _ _) rfl) (aR.pure (Kept.refl _ _)) rfl
    refine gsteps_cons (fun D γ a' w' hI hD0 hdep hcl hag hlt hf K hK => ?_) ?_
    · obtain ⟨⟨_, h4, rfl⟩, -⟩ : SFacts _ _ a' w' [4] := hf
      have s4 := hag.same 4 (by decide)
      clear hlt
      clear hag
      go_wp2_with fail
      exact hK _ _ _ (hI.pure HPH.out (Kept.refl _ _) rfl) (aR.pure (Kept.refl _ _)) rfl
    refine gsteps_cons (fun D γ a' w' hI hD0 hdep hcl hag hlt hf K hK => ?_) ?_
    · obtain ⟨⟨_, h5, rfl⟩, ⟨_, h4, rfl⟩, -⟩ : SFacts _ _ a' w' [5, 4] := hf
      clear hlt
      clear hag
      have HR4 := Lw.hid (R99.out.kept hI.kept (fun i h1 h2 h3 => by omega))
      go_wp2_with fail
      refine (rs_left _ _ w' br HR4.out).mono ?_
      rintro e w4 ⟨rfl, rfl⟩
      go_wp2_with fail
      exact hK _ _ _ (hI.pure HPH.out (Kept.refl _ _) rfl) (aR.pure (Kept.refl _ _)) rfl
    refine gsteps_cons (fun D γ a' w' hI hD0 hdep hcl hag hlt hf K hK => ?_) ?_
    · obtain ⟨⟨_, h6, rfl⟩, ⟨_, h4, rfl⟩, -⟩ : SFacts _ _ a' w' [6, 4] := hf
      clear hlt
      clear hag
      go_wp2_with fail
      exact hK _ _ _ (hI.pure HPH.out (Kept.refl _ _) rfl) (aR.pure (Kept.refl _ _)) rfl
    refine gsteps_cons (fun D γ a' w' hI hD0 hdep hcl hag hlt hf K hK => ?_) ?_
    · obtain ⟨⟨_, h4, rfl⟩, ⟨_, h7, rfl⟩, -⟩ : SFacts _ _ a' w' [4, 7] := hf
      clear hlt
      clear hag
      go_wp2_with fail
      exact hK _ _ _ (hI.pure HPH.out (Kept.refl _ _) rfl) (aR.pure (Kept.refl _ _)) rfl
    refine gsteps_cons (fun D γ a' w' hI hD0 hdep hcl hag hlt hf K hK => ?_) ?_
    · obtain ⟨⟨_, h8, rfl⟩, -⟩ : SFacts _ _ a' w' [8, 6] := hf
      clear hlt
      clear hag
      go_wp2_with fail
      exact hK _ _ _ (hI.pure HPH.out (Kept.refl _ _) rfl) (aR.pure (Kept.refl _ _)) rfl
    refine gsteps_cons (fun D γ a' w' hI hD0 hdep hcl hag hlt hf K hK => ?_) ?_
    · obtain ⟨⟨_, h9, rfl⟩, -⟩ : SFacts _ _ a' w' [9] := hf
      have s5 := hag.same 5 (by decide)
      clear hlt
      clear hag
      have hrb := hI.kept.heap RB99.out (fun e => by omega)
      have c0 := heap_cell hrb 0
      have c1 := heap_cell hrb 1
      have c2 := heap_cell hrb 2
      have c3 := heap_cell hrb 3
      have c4 := heap_cell hrb 4
      have c5 := heap_cell hrb 5
      have c6 := heap_cell hrb 6
      have c7 := heap_cell hrb 7
      have c8 := heap_cell hrb 8
      have c9 := heap_cell hrb 9
      clear hrb
      go_wp2_with fail
      exact hK _ _ _ (hI.pure HPH.out (Kept.refl _ _) rfl) (aR.pure (Kept.refl _ _)) rfl
    refine gsteps_cons (fun D γ a' w' hI hD0 hdep hcl hag hlt hf K hK => ?_) ?_
    · obtain ⟨⟨_, h10, rfl⟩, ⟨_, h9, rfl⟩, -⟩ : SFacts _ _ a' w' [10, 9] := hf
      clear hlt
      clear hag
      have HI := Lw.hid hI
      clear hI
      go_wp2_with fail
      refine (right_raw w' 4 id [] 0 0 n (some ⟨g, 0, none⟩) 0 0 0 (by unfold IsKind; decide)).mono ?_
      rw [HRT.out]
      rintro e w4 ⟨rfl, k4⟩
      have K4 := Lw.hid k4
      clear k4
      go_wp2_with fail
      exact hK _ _ _ (HI.out.pure HPH.out K4.out rfl) (aR.pure K4.out) rfl
    refine gsteps_cons (fun D γ a' w' hI hD0 hdep hcl hag hlt hf K hK => ?_) ?_
    · obtain ⟨⟨_, h9, rfl⟩, ⟨_, h11, rfl⟩, -⟩ : SFacts _ _ a' w' [9, 11] := hf
      clear hlt
      clear hag
      go_wp2_with fail
      exact hK _ _ _ (hI.pure HPH.out (Kept.refl _ _) rfl) (aR.pure (Kept.refl _ _)) rfl
    refine gsteps_cons (fun D γ a' w' hI hD0 hdep hcl hag hlt hf K hK => ?_) ?_
    · obtain ⟨⟨_, h0, rfl⟩, -⟩ : SFacts _ _ a' w' [0, 11] := hf
      have s2 := hag.same 2 (by decide)
      clear hlt
      clear hag
      obtain ⟨hg0, hk0⟩ := hI.no hD0
      have hb := hk0.heap C99.out (fun h => h)
      have ks := kept_setRow w' b2 #[.int .u8 4, .int .u32 (id : Int), .string ⟨#[]⟩, .int .i64 0, .int .i64 0, .int .i64 (n : Int), .pointer (some ⟨g, 0, none⟩), .int .u32 0, .int .u32 0, .int .u32 0]
      refine wpList_store_row rfl 69 _ _ rfl b2 #[.int .u8 4, .int .u32 (id : Int), .string ⟨#[]⟩, .int .i64 0, .int .i64 0, .int .i64 (n : Int), .pointer (some ⟨g, 0, none⟩), .int .u32 0, .int .u32 0, .int .u32 0] (by simp [Act.eval, s2]) (by simp [Act.eval, h0]) _ _ hb (by kernel_rfl) rfl (by kernel_rfl) ?_
      exact wpList_nil (hK undef true _ ⟨hI.kept.trans ks (fun _ _ h => h), fun h => by simp at h, fun _ => ⟨rfl, setRow_heap _ _ _ _ _ _ hb⟩⟩ ⟨ks, fun h => by rw [hg0] at h; cases h⟩ rfl)
    refine gsteps_cons (fun D γ a' w' hI hD0 hdep hcl hag hlt hf K hK => ?_) ?_
    · obtain ⟨⟨_, h12, rfl⟩, -⟩ : SFacts _ _ a' w' [12, 13, 0, 1, 2, 3, 4, 5, 6, 7, 8, 9, 10, 11] := hf
      clear hlt
      clear hag
      go_wp2_with fail
      exact hK _ _ _ (hI.pure HPH.out (Kept.refl _ _) rfl) (aR.pure (Kept.refl _ _)) rfl
    exact trivial
  · intro vs γ wz hI hvs
    have q0 : vs 0 = (.agg #[.int .u8 4, .int .u32 (id : Int), .string ⟨#[]⟩, .int .i64 0, .int .i64 0, .int .i64 (n : Int), .pointer (some ⟨g, 0, none⟩), .int .u32 0, .int .u32 0, .int .u32 0]) := hvs 0 _ _ rfl rfl
    have q1 : vs 1 = (.pointer (some ⟨br, 0, none⟩)) := hvs 1 _ _ rfl rfl
    have q2 : vs 2 = (.int .i64 0) := hvs 2 _ _ rfl rfl
    have q3 : vs 3 = (.bool true) := hvs 3 _ _ rfl rfl
    have q4 : vs 4 = (.bool true) := hvs 4 _ _ rfl rfl
    have q5 : vs 5 = (.pointer (some ⟨br, 0, none⟩)) := hvs 5 _ _ rfl rfl
    have q6 : vs 6 = (.int .i64 0) := hvs 6 _ _ rfl rfl
    have q7 : vs 7 = (.bool true) := hvs 7 _ _ rfl rfl
    have q8 : vs 8 = (.bool true) := hvs 8 _ _ rfl rfl
    have q9 : vs 9 = (.bool true) := hvs 9 _ _ rfl rfl
    have q10 : vs 10 = (.agg #[.int .u8 4, .int .u32 (id : Int), .string ⟨#[]⟩, .int .i64 0, .int .i64 0, .int .i64 (n : Int), .pointer (some ⟨g, 0, none⟩), .int .u32 0, .int .u32 0, .int .u32 0]) := hvs 10 _ _ rfl rfl
    have q11 : vs 11 = (.bool true) := hvs 11 _ _ rfl rfl
    have q12 : vs 12 = (.bool true) := hvs 12 _ _ rfl rfl
    have q14 : vs 14 = (.bool true) := hvs 14 _ _ rfl rfl
    clear hvs
    simp only [List.take_succ_cons, List.take_zero, List.drop_succ_cons, List.drop_zero, putAll, Act.put, List.setIfInBounds_toArray, List.set_cons_zero, List.set_cons_succ, Nat.reduceAdd, q0, q1, q2, q3, q4, q5, q6, q7, q8, q9, q10, q11, q12, q14]
    clear q0 q1 q2 q3 q4 q5 q6 q7 q8 q9 q10 q11 q12 q14
    have hf := (hI.yes rfl).2
    have KZ : Hid (Kept (fun _ => False) w wz) := Lw.hid (K99.out.trans hI.kept (fun i hi e => by have := HB2.out; omega))
    have e0 := heap_cell hf 0
    have e1 := heap_cell hf 1
    have e2 := heap_cell hf 2
    have e3 := heap_cell hf 3
    have e4 := heap_cell hf 4
    have e5 := heap_cell hf 5
    have e6 := heap_cell hf 6
    have e7 := heap_cell hf 7
    have e8 := heap_cell hf 8
    have e9 := heap_cell hf 9
    simp only [List.getElem?_toArray, List.getElem?_cons_zero, List.getElem?_cons_succ] at e0 e1 e2 e3 e4 e5 e6 e7 e8 e9
    have SZ := Lw.hid (SGF.out.kept hI.kept (fun k hk e => by omega))
    clear hI hf
    go_wp2_with fail
    exact bodyPost_ret (v := .tuple #[.agg #[.int .u8 4, .int .u32 (id : Int), .string ⟨#[]⟩, .int .i64 0, .int .i64 0, .int .i64 (n : Int), .pointer (some ⟨g, 0, none⟩), .int .u32 0, .int .u32 0, .int .u32 0], .bool true]) (by simp [results, Tryz.results26, go_sem, e0, e1, e2, e3, e4, e5, e6, e7, e8, e9]) rfl ⟨g, rfl, SZ.out.mono (fun b _ hb => by have := HB2.out; omega), KZ.out⟩
end Go.Proofs.YtgegjjnfcnalfaaGreatDoor
