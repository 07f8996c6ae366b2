/- ScribeBits, walked. -/
import Derived.Test.YtcmipliglcakdaaDoorWakes
import Derived.Test.YtcmipliglcakdaaDoorPlainBits
namespace Go.Proofs.YtcmipliglcakdaaDoor
open Go Go.RowKit Go.Lw
set_option maxRecDepth 100000
set_option maxHeartbeats 400000 in
/-- bytes.Clone: a copy in new memory, that may be written. -/
theorem bclone_any (w : World) (src : Value) (l : List UInt8) (hs : RdB w src l) (hlen : l.length ≤ 70368744177664) :
    Calls Tryd.prog 22 #[src] w fun e w' => ∃ v, e = .returned v ∧ w'.ownsRow 0 5 1 v l.length (l.map bv) ∧ Kept (fun _ => False) w w' ∧ (∀ k, blk v k → w.heap.size ≤ k) := by
  obtain ⟨ad, cap, rfl, h1, h2, hc⟩ := hs.open
  cases ad with
  | none =>
    obtain rfl : l = [] := by
      cases l with
      | nil => rfl
      | cons c l => obtain ⟨g, off, e, _⟩ := hc 0 (by simp); cases e
    have heq := fun w => Lib.run_eql_slice_nil (P := Tryd.prog) w 22 5 none 0 cap 0 0 Tryd.underlying22
    go_enter Tryd.func22, Tryd.ntmps22
    go_wp2_with fail
    go_ret
    exact ⟨_, rfl, World.ownsRow_nil w 0 _ 1, Kept.refl _ _, fun k hk => by cases hk⟩
  | some ad =>
    have HS := Lw.hid hs
    clear hc hs
    have heq := fun w => Lib.run_eql_slice_nil (P := Tryd.prog) w 22 5 (some ad) l.length cap 0 0 Tryd.underlying22
    have ho : (w.alloc (.cells #[] 5)).ownsRow 0 5 1 (.slice (some ⟨w.heap.size, 0, none⟩) 0 0) 0 [] := World.ownsRow_lit w #[] 0 (Nat.zero_le _) (by unfold maxLen; omega) rfl
    go_enter Tryd.func22, Tryd.ntmps22
    go_wp2_with (at_builtin; refine wpList_app rfl _ _ _ rfl EB _ 0 _ rfl ho _ l.length _ rfl (Rd.alloc HS.out _) (bytes_oneCell l) (by unfold maxLen; omega) (by omega) ?_; intro ad' cap' w1 ho' hg hf)
    go_ret
    rw [Nat.zero_add] at ho' hf
    refine ⟨.slice ad' l.length cap', rfl, ho', ((Kept.refl _ w).alloc _).grown hg (fun k hk hl => ?_), fun k hk => ?_⟩
    · have e : k = w.heap.size := blk_some hk
      omega
    · rcases hf k hk with h | h
      · have e : k = w.heap.size := blk_some h
        omega
      · simp at h; omega
set_option maxHeartbeats 2000000 in
theorem bits_any (w : World) (x : Value) (l : List UInt8) (at_ by_ : Nat) (hat : at_ < 65536) (hby : by_ < 4294967296) (hx : RdB w x l) (ht : Tab w) :
    Calls Tryd.prog 5 #[x, .int .u16 (at_ : Int), .int .u32 (by_ : Int)] w fun e w' => e = .returned (.bool true) ∧ Below w.heap.size w w' := by
  obtain ⟨ad, cap, rfl, h1, h2, hc⟩ := hx.open
  have HT := Lw.hid ht
  clear ht hc
  unfold maxLen at h2
  obtain ⟨l', n', hn, hl', HX⟩ : ∃ (l' : List UInt8) (n' : Nat), n' = min l.length 300 ∧ l'.length ≤ 300 ∧ Hid (RdB w (.slice ad n' cap) l') :=
    ⟨_, _, rfl, by rw [List.length_take]; omega, Lw.hid (hx.take _ (Nat.min_le_left _ _))⟩
  clear hx
  have hcases : n' = 300 ∧ 300 < l.length ∨ n' = l.length ∧ l.length ≤ 300 := by omega
  clear hn
  rcases hcases with ⟨rfl, hlt⟩ | ⟨rfl, hlt⟩
  all_goals
    go_enter Tryd.func5, Tryd.ntmps5
    go_wp2_with fail
    refine (bclone_any _ _ l' HX.out (by omega)).mono ?_
    rintro e w1 ⟨v1, rfl, ho1, hk1, hf1⟩
    have HO1 := Lw.hid ho1; have HK1 := Lw.hid hk1; have HF1 := Lw.hid hf1
    clear ho1 hk1 hf1
    go_wp2_with (at_builtin; refine wpList_app rfl _ _ _ rfl EB v1 l'.length _ rfl (HO1.out.alloc _) _ 4 _ rfl (Rd.lit _ [.int .u8 0, .int .u8 0, .int .u8 0, .int .u8 0] _ 1 _ 4 (by simp) rfl (by decide)) (bytes_oneCell [0, 0, 0, 0]) (by unfold maxLen; omega) (by omega) ?_; intro ad2 cap2 w2 ho2 hg2 hf2)
    have ho2' : w2.ownsRow 0 5 1 (.slice ad2 (l'.length + 4) cap2) (l'.length + 4) ((l' ++ [0, 0, 0, 0]).map bv) := by rw [List.map_append]; exact ho2
    have hlB : (l' ++ [0, 0, 0, 0]).length = l'.length + 4 := by simp
    have HB2 := Lw.hid ((((Below.of_kept HK1.out).alloc HK1.out.size _).grown hg2 (by have := HK1.out.size; simp; omega) (fun k hk => HF1.out k hk)))
    clear ho2 hg2 hf2
    generalize l' ++ [0, 0, 0, 0] = B at *
    generalize hN : l'.length + 4 = N at *
    have hN4 : 4 ≤ N := by omega
    have hN5 : N ≤ 304 := by omega
    have HN := Lw.hid hlB
    have HO2 := Lw.hid ho2'
    clear hlB ho2' hN hl'
    go_wp2_with fail
    refine (bclone_any _ _ B (RdB.of_own HO2.out HN.out.symm) (by rw [HN.out]; omega)).mono ?_
    rintro e w3 ⟨v3, rfl, ho3, hk3, hf3⟩
    rw [HN.out] at ho3
    obtain ⟨ad3, cap3, rfl, hc3, hm3, hg3⟩ := own_slice ho3
    obtain ⟨g3, rfl⟩ := hg3 (by omega)
    have hlt3 : w2.heap.size ≤ g3 := hf3 g3 rfl
    have HL3 := Lw.hid hlt3
    have HO3 := Lw.hid ho3
    have HO2' := Lw.hid (own_kept hk3 HO2.out (fun _ _ h => h))
    have HB3 := Lw.hid (HB2.out.trans (hk3.below HB2.out.size (fun _ _ h => h)))
    have HD := Lw.hid (own_lt HO2.out)
    have HB2w := Lw.hid HB2.out.size
    unfold maxLen at hm3
    clear ho3 hk3 hf3 hlt3 HO2 HB2 HO1 HK1 HF1
    obtain ⟨k, hk, hkN⟩ : ∃ k : Nat, (at_ : Int) % ((N : Int) - 3) = (k : Int) ∧ k + 3 < N := by
      refine ⟨at_ % (N - 3), by rw [show ((N : Int) - 3) = ((N - 3 : Nat) : Int) by omega]; exact (Int.natCast_emod at_ (N - 3)).symm, ?_⟩
      have := Nat.mod_lt at_ (show N - 3 > 0 by omega)
      omega
    go_wp2
    go_loopw [26] (fun i wr => ∃ j : Nat, j ≤ 4 ∧ i = .int .i64 j ∧ Hid (wr.ownsRow 0 5 1 (.slice (some ⟨g3, 0, none⟩) N cap3) N ((xr B k by_ j).map bv)) ∧ Hid (Kept (fun q => q = g3) w3 wr)) (fun i _ => 4 - (intOf i).toNat)
    case atStart => exact ⟨0, by omega, rfl, Lw.hid (by rw [xr_zero]; exact HO3.out), Lw.hid (Kept.refl _ _)⟩
    case round =>
      obtain ⟨j, hj, rfl, HO, HK⟩ := hrel
      by_cases hjl : j < 4
      · have hkj : k + j < B.length := by rw [HN.out]; omega
        have hget : ((xr B k by_ j).map bv)[k + j]? = some (bv B[k + j]) := by rw [List.getElem?_map, xr_get B k by_ j hkj]; rfl
        have hc := own_cell HO.out (k + j) _ hget (by omega)
        have hfz := HO.out.frozenAt (k + j)
        have HS := Lw.hid (xr_step B k by_ j hkj)
        have hob := (B[k + j]).toNat_lt
        unfold bv at hc
        have hx2 : bits .xor .u8 ((B[k + j]).toNat : Int) (((burst by_).getD j 0).toNat : Int) = ((B[k + j] ^^^ (burst by_).getD j 0).toNat : Int) := by
          rw [u8_xor_nat _ _ (UInt8.toNat_lt _) (UInt8.toNat_lt _), UInt8.toNat_xor]
        have HO' := Lw.hid (HO.out.stored (k + j) (bv (B[k + j] ^^^ (burst by_).getD j 0))).1
        rw [← List.map_set, HS.out] at HO'
        unfold bv at HO'
        have hkk : Kept (fun q => q = g3) w3 (wr.setCell ⟨g3, k + j, none⟩ (.int .u8 ((B[k + j] ^^^ (burst by_).getD j 0).toNat : Int))) := HK.out.setCell (fun _ => rfl) _
        have HK' := Lw.hid hkk.drew
        clear hkk hget HS HK HO
        have hj4 : j = 0 ∨ j = 1 ∨ j = 2 ∨ j = 3 := by omega
        have hcj : (j = 0 → (by_ : Int) / 16777216 = (((burst by_).getD j 0).toNat : Int)) ∧ (j = 1 → (by_ : Int) / 65536 % 256 = (((burst by_).getD j 0).toNat : Int)) ∧ (j = 2 → (by_ : Int) / 256 % 256 = (((burst by_).getD j 0).toNat : Int)) ∧ (j = 3 → (by_ : Int) % 256 = (((burst by_).getD j 0).toNat : Int)) := by
          refine ⟨?_, ?_, ?_, ?_⟩ <;> (rintro rfl; simp [burst] <;> omega)
        clear hjl hj
        generalize ((burst by_).getD j 0) = yy at *
        generalize (B[k + j] ^^^ yy).toNat = r at *
        generalize B[k + j].toNat = ob at *
        have hyb := yy.toNat_lt
        generalize yy.toNat = y at *
        rcases hj4 with rfl | rfl | rfl | rfl
        · simp only [Nat.add_zero] at hc hfz HO' HK'
          have e1 := hcj.1 rfl
          clear hcj
          go_wp2_with fail
          go_region
          go_wp2_with fail
          go_roundw
          case rel => exact ⟨1, by omega, rfl, HO', HK'⟩
          case measure => simp [intOf]
        · have e1 := hcj.2.1 rfl
          clear hcj
          go_wp2_with fail
          go_region
          go_wp2_with fail
          go_roundw
          case rel => exact ⟨2, by omega, rfl, HO', HK'⟩
          case measure => simp [intOf]
        · have e1 := hcj.2.2.1 rfl
          clear hcj
          go_wp2_with fail
          go_region
          go_wp2_with fail
          go_roundw
          case rel => exact ⟨3, by omega, rfl, HO', HK'⟩
          case measure => simp [intOf]
        · have e1 := hcj.2.2.2 rfl
          clear hcj
          go_wp2_with fail
          go_region
          go_wp2_with fail
          go_roundw
          case rel => exact ⟨4, by omega, rfl, HO', HK'⟩
          case measure => simp [intOf]
      · obtain rfl : j = 4 := by omega
        have hrb : RdB wr (.slice ad2 N cap2) B := RdB.of_own (own_kept HK.out HO2'.out (fun g hg e => by have := HD.out g hg; have := HL3.out; omega)) HN.out.symm
        have hrc : RdB wr (.slice (some ⟨g3, 0, none⟩) N cap3) (xr B k by_ 4) := RdB.of_own HO.out (by rw [xr_len]; exact HN.out.symm)
        have hbl : Below w.heap.size w wr := HB3.out.trans (HK.out.below HB3.out.size (fun q hq e => by have := HL3.out; have := HB2w.out; omega))
        have hT : Tab wr := HT.out.below hbl
        have hcc := crc_burst B k (N - k - 4) by_ (by rw [HN.out]; omega) hby
        rw [← xr_four B k (N - k - 4) by_ (by rw [HN.out]; omega)] at hcc
        have HRB := Lw.hid hrb; have HRC := Lw.hid hrc; have HBL := Lw.hid hbl; have HTT := Lw.hid hT
        clear hrb hrc hbl hT HO HK HO2' HB3
        generalize xr B k by_ 4 = C at *
        have hp1 := crcN_lt B
        have hp2 := crcN_lt C
        by_cases hz : by_ = 0
        · subst hz
          have hcc' : crcN B = crcN C := by simpa using hcc
          have HCC := Lw.hid hcc'
          clear hcc hcc'
          go_wp2_with fail
          refine (crc_any _ B _ HRB.out HTT.out).mono ?_
          rintro e w4 ⟨rfl, rfl⟩
          rw [HCC.out]
          go_wp2_with fail
          refine (crc_any _ C _ HRC.out HTT.out).mono ?_
          rintro e w4 ⟨rfl, rfl⟩
          go_wp2_with fail
          refine (wakes_any _ HTT.out).mono ?_
          rintro e w4 ⟨rfl, hb⟩
          go_wp2_with fail
          go_ret
          exact ⟨rfl, HBL.out.trans (hb.mono HBL.out.size)⟩
        · have hcc' : (crcN B == crcN C) = false := by rw [hcc]; simpa using hz
          have hzi : ((by_ : Int) == 0) = false := by rw [beq_eq_false_iff_ne]; omega
          have hci : ((crcN B : Int) == (crcN C : Int)) = false := by rw [beq_eq_false_iff_ne] at hcc' ⊢; omega
          clear hcc hz
          go_wp2_with fail
          refine (crc_any _ B _ HRB.out HTT.out).mono ?_
          rintro e w4 ⟨rfl, rfl⟩
          go_wp2_with fail
          refine (crc_any _ C _ HRC.out HTT.out).mono ?_
          rintro e w4 ⟨rfl, rfl⟩
          go_wp2_with fail
          refine (wakes_any _ HTT.out).mono ?_
          rintro e w4 ⟨rfl, hb⟩
          go_wp2_with fail
          go_ret
          exact ⟨rfl, HBL.out.trans (hb.mono HBL.out.size)⟩
end Go.Proofs.YtcmipliglcakdaaDoor
