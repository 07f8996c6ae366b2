/- ScribeKnown, walked. -/
import Derived.Test.YtcmipliglcakdaaDoorWriterNil
import Derived.Test.YtcmipliglcakdaaDoorRepeat
import Derived.Test.YtcmipliglcakdaaDoorWakes
namespace Go.Proofs.YtcmipliglcakdaaDoor
open Go Go.RowKit Go.Lw
set_option maxRecDepth 100000
theorem repeatL_len (l : List UInt8) (c : Nat) : (Go.Lib.repeatL l c).length = l.length * c := by
  induction c with
  | zero => simp [Go.Lib.repeatL]
  | succ n ih => simp [Go.Lib.repeatL, ih, Nat.mul_succ]; try omega
set_option maxHeartbeats 4000000 in
theorem known_any (w : World) (ht : Tab w) :
    Calls Tryd.prog 13 #[] w fun e w' => e = .returned (.bool true) ∧ Below w.heap.size w w' := by
  have HT := Lw.hid ht
  have HW := Lw.hid (WriterAt.new w)
  have HK0 := Lw.hid ((Kept.refl (fun _ => False) w).alloc (.cells #[.slice none 0 0, .int .i64 0] 30))
  clear ht
  go_enter Tryd.func13, Tryd.ntmps13
  go_wp2_with fail
  refine (text_nil _ ⟨#[120]⟩ (by decide)).mono ?_
  rintro e w1 ⟨bw, v, rfl, h1, k1, b1, f1⟩
  have H1 := Lw.hid h1
  clear h1
  go_wp2_with fail
  refine (byte_any _ bw v _ _ [7] (H1.out.alloc _) (RdB.lit w1 [7] _ 1 rfl (by decide)) (by decide)).mono ?_
  rintro e w2 ⟨rfl, hp2⟩
  obtain ⟨_, v2, hbe, h2, k2, b2, f2⟩ := NwPost.more ⟨H1.out, k1, b1, f1⟩ hp2.of_alloc
  cases hbe
  have H2 := Lw.hid h2
  clear h2 hp2 H1 k1 b1 f1
  go_wp2_with fail
  refine (done_any _ bw v2 _ H2.out (by decide)).mono ?_
  rintro e w3 ⟨a, rfl, hp3⟩
  obtain ⟨_, v3, hbe, _, k3, _, _⟩ := NwPost.more ⟨H2.out, k2, b2, f2⟩ hp3.wr
  cases hbe
  obtain ⟨_, _, _, _, ha, hf⟩ := hp3
  have HA : Hid (RdB w3 a [0, 1, 120, 7] ∧ ∀ k, blk a k → w.heap.size < k) := Lw.hid ⟨Rd.own ha, fun k hk => by have h1 := (hf k hk).1; have h2 := (k2).size; simp at h2; omega⟩
  have HW3 := Lw.hid (HW.out.kept k3 (fun h => h) (fun _ _ h => h))
  have HK3 := Lw.hid (HK0.out.trans k3 (fun _ _ h => h))
  clear H2 k2 b2 f2 k3 ha hf HW HK0
  go_wp2_with fail
  refine (repeat_any ⟨#[120]⟩ 65536 _ (by decide) (by decide)).mono ?_
  rintro e w4 ⟨rfl, k4⟩
  have hsz : (⟨(Go.Lib.repeatL (ByteArray.mk #[120]).data.toList 65536).toArray⟩ : ByteArray).size = 65536 := by
    show (Go.Lib.repeatL (ByteArray.mk #[120]).data.toList 65536).toArray.size = 65536
    rw [List.size_toArray, repeatL_len]; rfl
  generalize (⟨(Go.Lib.repeatL (ByteArray.mk #[120]).data.toList 65536).toArray⟩ : ByteArray) = s1 at *
  go_wp2_with fail
  refine (text_long _ _ _ _ s1 (by omega) (HW3.out.kept k4 (fun h => h) (fun _ _ h => h)) (by decide)).mono ?_
  rintro e w5 ⟨rfl, vw5, h5, k5, _⟩
  have H5 := Lw.hid h5
  have HA5 : Hid (RdB w5 a [0, 1, 120, 7] ∧ ∀ k, blk a k → w.heap.size < k) := Lw.hid ⟨(HA.out.1.kept k4 (fun _ _ h => h)).kept k5 (fun k hk e => e.elim (fun e => by have := HA.out.2 k hk; omega) blk_none), HA.out.2⟩
  have HK5 : Hid (Kept (fun k => k = w.heap.size) w w5) := Lw.hid (((HK3.out.trans k4 (fun _ _ h => h)).mono (fun _ _ h => h.elim)).trans k5 (fun k hk e => e.elim id (fun e => (blk_none e).elim)))
  clear h5 k5 k4 HA HW3 HK3
  go_wp2_with fail
  refine (byte_err _ _ _ _ 3 _ (by decide) (H5.out.alloc _)).mono ?_
  rintro e _ ⟨rfl, rfl⟩
  go_wp2_with fail
  refine (done_err _ _ _ _ 3 (by decide) (H5.out.alloc _)).mono ?_
  rintro e w6 ⟨rfl, k6⟩
  have HA6 : Hid (RdB w6 a [0, 1, 120, 7] ∧ ∀ k, blk a k → w.heap.size < k ∧ k < w6.heap.size) := Lw.hid (by
    have h := (HA5.out.1.alloc _).kept k6 (fun _ _ h => h)
    exact ⟨h, fun k hk => ⟨HA5.out.2 k hk, h.lt (by decide) k hk⟩⟩)
  have HK6 : Hid (Kept (fun k => k = w.heap.size) w w6) := Lw.hid ((HK5.out.alloc _).trans k6 (fun _ _ h => h.elim))
  clear k6 HA5 HK5 H5
  go_wp2_with fail
  refine (repeat_any ⟨#[120]⟩ 65535 _ (by decide) (by decide)).mono ?_
  rintro e w7 ⟨rfl, k7⟩
  have hsz2 : (⟨(Go.Lib.repeatL (ByteArray.mk #[120]).data.toList 65535).toArray⟩ : ByteArray).size = 65535 := by
    show (Go.Lib.repeatL (ByteArray.mk #[120]).data.toList 65535).toArray.size = 65535
    rw [List.size_toArray, repeatL_len]; rfl
  generalize (⟨(Go.Lib.repeatL (ByteArray.mk #[120]).data.toList 65535).toArray⟩ : ByteArray) = s2 at *
  have HW7 := Lw.hid ((WriterAt.new w6).kept k7 (fun h => h) (fun _ _ h => h))
  have k67 := ((Kept.refl (fun _ => False) w6).alloc (.cells #[.slice none 0 0, .int .i64 0] 30)).trans k7 (fun _ _ h => h)
  go_wp2_with fail
  refine (text_any _ _ _ _ s2 (by omega) HW7.out (by decide)).mono ?_
  rintro e w8 ⟨rfl, hp8⟩
  obtain ⟨v8, h8, k8⟩ := two_then hp8
  have H8 := Lw.hid h8
  have K8 := Lw.hid k8
  clear h8 k8 hp8
  go_wp2_with fail
  have hLL : ∃ L : List UInt8, ([] ++ (be 2 s2.size ++ s2.data.toList) : List UInt8) = L ∧ L.length = 65537 := ⟨_, rfl, by rw [List.nil_append, List.length_append, be_length, Array.length_toList]; show 2 + s2.size = 65537; rw [hsz2]⟩
  obtain ⟨L, hL, hLn⟩ := hLL
  rw [hL] at H8
  clear hL
  refine (done_any _ _ v8 L H8.out (by omega)).mono ?_
  rintro e w9 ⟨b, rfl, hp9⟩
  have HB9 : Hid (Below w6.heap.size w6 w9) := Lw.hid (WrPost.below (WrPost.of_kept k7 (K8.out _ _ _ hp9.wr)))
  obtain ⟨_, _, _, _, hb9, _⟩ := hp9
  obtain ⟨adb, capb, rfl, _, _, _⟩ := own_slice hb9
  clear hb9 K8 H8 k7 k67 HW7
  rw [hLn]
  clear hLn
  go_wp2_with fail
  refine (err_nil _).mono ?_
  rintro e _ ⟨rfl, rfl⟩
  go_wp2_with fail
  refine (left_nil _).mono ?_
  rintro e _ ⟨rfl, rfl⟩
  go_wp2_with fail
  refine (rbyte_nil _).mono ?_
  rintro e _ ⟨rfl, rfl⟩
  go_wp2_with fail
  refine (rest_nil _).mono ?_
  rintro e _ ⟨rfl, rfl⟩
  go_wp2_with fail
  refine (new_any _ _ [0, 3, 97, 98] (RdB.lit w9 [0, 3, 97, 98] _ 4 rfl (by decide)) (by decide)).mono ?_
  rintro e w10 ⟨br, rv, rfl, hr10, hk10, hbr, hrv⟩
  have HR10 := Lw.hid hr10
  have c10 : w10.cell? ⟨w9.heap.size, 0, none⟩ = some (.int .u8 0) := hk10.cell (heap_cell (heap_alloc w9 _) 0) (fun h => h)
  have hh10 := hk10.heap (heap_alloc w9 (.cells #[.int .u8 0, .int .u8 3, .int .u8 97, .int .u8 98] 5)) (fun h => h)
  have d10 := heap_free hh10 0
  clear hr10
  go_wp2_with fail
  have HKx : Hid (Kept (fun k => w6.heap.size ≤ k) w6 (w10.setCell ⟨w9.heap.size, 0, none⟩ (.int .u8 9))) := Lw.hid ((((Kept.of_below HB9.out).alloc _).trans hk10 (fun _ _ h => h.elim)).set w9.heap.size 0 (fun _ => HB9.out.size) _)
  have hne : br ≠ w9.heap.size := by simp at hbr; omega
  have HRx : Hid (ReaderAt (w10.setCell ⟨w9.heap.size, 0, none⟩ (.int .u8 9)) br rv ⟨[0, 3, 97, 98], false⟩) := Lw.hid (HR10.out.kept (((Kept.refl (fun k => k = w9.heap.size) w10)).set w9.heap.size 0 (fun _ => rfl) _) hne (fun g hg e => by have := (hrv g hg).1; simp at this; omega))
  have hs9 : w6.heap.size ≤ br := by have := HB9.out.size; simp at hbr; omega
  clear hk10 hrv hh10 c10 d10 HR10 HB9
  refine (rtext_any _ br rv _ HRx.out).mono ?_
  rintro e w11 ⟨rfl, hp11⟩
  obtain ⟨v11, h11, k11⟩ := rd_then hp11
  have H11 := Lw.hid h11
  have HK11 : Hid (Kept (fun k => w6.heap.size ≤ k) w6 w11) := Lw.hid (by
    obtain ⟨_, _, k, _⟩ := hp11
    have hb9 : w6.heap.size ≤ br := hs9
    exact HKx.out.trans k (fun i hi e => by subst e; exact hb9))
  have HA11 : Hid (RdB w11 a [0, 1, 120, 7]) := Lw.hid (HA6.out.1.kept HK11.out (fun k hk => by have := (HA6.out.2 k hk).2; omega))
  have HB11 : Hid (Below w.heap.size w w11) := Lw.hid (((HK6.out.mono (S' := fun k => w.heap.size ≤ k) (fun k hk e => by omega)).trans HK11.out (fun k hk e => by have := HK6.out.size; omega)).below (Nat.le_refl _) (fun k hk => by omega))
  have HT11 := Lw.hid (HT.out.below HB11.out)
  clear hp11 h11 k11 HRx HKx HK11 HA6 HK6 HT hbr hne
  have ex : (⟨[0, 3, 97, 98], false⟩ : Rdr).text = ([], ⟨[], true⟩) := by rfl
  rw [ex] at H11 ⊢
  clear ex
  go_wp2_with fail
  refine (equal_any _ _ _ _ [0, 1, 120, 7] (HA11.out.alloc _) (RdB.lit w11 [0, 1, 120, 7] _ 4 rfl (by decide)) true (by decide)).mono ?_
  rintro e _ ⟨rfl, rfl⟩
  go_wp2_with fail
  refine (err_any _ br v11 _ (H11.out.kept ((Kept.refl (fun _ => False) w11).alloc _) (fun h => h) (fun _ _ h => h))).mono ?_
  rintro e _ ⟨rfl, rfl⟩
  go_wp2_with fail
  refine (crc_any _ [] _ (RdB.nil _) (HT11.out.below ((Below.refl _ w11).alloc (Nat.le_refl _) _))).mono ?_
  rintro e _ ⟨rfl, rfl⟩
  have ec : crcN [] = 0 := by decide
  rw [ec]
  clear ec
  go_wp2_with (refine wpList_const rfl _ _ rfl _ _ _ _ rfl (by simp) Tryd.underlying22 Tryd.underlying5 ?_)
  refine (crc_any _ [97] _ (RdB.mark _ [97] _ _ _ 1 (by simp) rfl (by decide)) ((HT11.out.below ((Below.refl _ w11).alloc (Nat.le_refl _) _)).below ((Below.refl _ _).alloc (Nat.le_refl _) _))).mono ?_
  rintro e _ ⟨rfl, rfl⟩
  have ec : crcN [97] = 3904355907 := by decide
  rw [ec]
  clear ec
  go_wp2_with (refine wpList_const rfl _ _ rfl _ _ _ _ rfl (by simp) Tryd.underlying22 Tryd.underlying5 ?_)
  refine (crc_any _ [97, 98, 99] _ (RdB.mark _ [97, 98, 99] _ _ _ 3 (by simp) rfl (by decide)) (((HT11.out.below ((Below.refl _ w11).alloc (Nat.le_refl _) _)).below ((Below.refl _ _).alloc (Nat.le_refl _) _)).below ((Below.refl _ _).alloc (Nat.le_refl _) _))).mono ?_
  rintro e _ ⟨rfl, rfl⟩
  have ec : crcN [97, 98, 99] = 891568578 := by decide
  rw [ec]
  clear ec
  go_wp2_with fail
  refine (wakes_any _ (((HT11.out.below ((Below.refl _ w11).alloc (Nat.le_refl _) _)).below ((Below.refl _ _).alloc (Nat.le_refl _) _)).below ((Below.refl _ _).alloc (Nat.le_refl _) _))).mono ?_
  rintro e w12 ⟨rfl, hb12⟩
  go_wp2_with fail
  go_ret
  exact ⟨rfl, (((HB11.out.alloc HB11.out.size _).alloc (by have := HB11.out.size; simp; omega) _).alloc (by have := HB11.out.size; simp; omega) _).trans (hb12.mono (by have := HB11.out.size; simp; omega))⟩
end Go.Proofs.YtcmipliglcakdaaDoor
