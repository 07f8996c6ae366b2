/- DiskKnown, walked. -/
import Derived.Test.YtoiinmiedmjghaaDiskKnownP
namespace Go.Proofs.Ytoiinmiedmjghaa
open Go Go.RowKit Go.Lw
set_option maxRecDepth 100000
set_option maxHeartbeats 8000000 in
theorem dknown_any (w : World) : Calls Try.prog 5 #[] w fun e w' => e = .returned (.bool true) ∧ Kept (fun q => w.heap.size ≤ q) w w' := by
  have HT3 : Hid (∀ q, w.heap.size ≤ q → w.heap.size ≤ q) := Lw.hid (fun _ h => h)
  have hn0 : NoDisk (w.alloc (.cells #[.bool false, .int .i64 0, .slice none 0 0, .int .i64 0, .bool false, .bool false, .int .i64 0, .int .i64 0] 50)) none := .inl rfl
  have hz0 : NoDisk (w.alloc (.cells #[.bool false, .int .i64 0, .slice none 0 0, .int .i64 0, .bool false, .bool false, .int .i64 0, .int .i64 0] 50)) (some ⟨w.heap.size, 0, none⟩) := .inr ⟨_, rfl, heap_cell (heap_alloc _ _) 0⟩
  have HN := Lw.hid hn0; have HZ := Lw.hid hz0
  have KZ := Lw.hid ((Kept.refl (fun _ => False) w).alloc (.cells #[.bool false, .int .i64 0, .slice none 0 0, .int .i64 0, .bool false, .bool false, .int .i64 0, .int .i64 0] 50))
  clear hn0 hz0
  go_enter Try.func5, Try.ntmps5
  go_wp2_with fail
  refine (dput_no _ _ HN.out 0 _).mono ?_
  rintro e _ ⟨rfl, rfl⟩
  go_wp2_with fail
  refine (dplan_no _ _ HZ.out 0 0).mono ?_
  rintro e _ ⟨rfl, rfl⟩
  go_wp2_with fail
  refine (drevive_no _ _ HN.out ).mono ?_
  rintro e _ ⟨rfl, rfl⟩
  go_wp2_with fail
  refine (dstopped_no _ _ HZ.out ).mono ?_
  rintro e _ ⟨rfl, rfl⟩
  go_wp2_with fail
  refine (dend_no _ _ HN.out ).mono ?_
  rintro e _ ⟨rfl, rfl⟩
  go_wp2_with fail
  refine (dputs_no _ _ HZ.out ).mono ?_
  rintro e _ ⟨rfl, rfl⟩
  go_wp2_with fail
  refine (dread_no _ _ HN.out 0 9).mono ?_
  rintro e _ ⟨rfl, rfl⟩
  go_wp2_with fail
  refine (dcopy_no _ _ HZ.out ).mono ?_
  rintro e _ ⟨rfl, rfl⟩
  go_wp2_with fail
  refine (dnew_no _ (-1) (by decide) (by decide)).mono ?_
  rintro e _ ⟨rfl, rfl⟩
  go_wp2_with fail
  refine (dnew_no _ 1048577 (by decide) (by decide)).mono ?_
  rintro e _ ⟨rfl, rfl⟩
  go_wp2_with fail
  refine (dnew_any _ 0 (by decide)).mono ?_
  rintro e w1 ⟨gc, rfl, d1, k1, hg⟩
  have D1 := Lw.hid d1; have K1 := Lw.hid (KZ.out.trans k1 (fun _ _ h => h)); have hgc := heap_lt d1.box
  simp at hg
  clear d1 k1 KZ
  go_wp2_with fail
  refine (dnew_any _ 4 (by decide)).mono ?_
  rintro e W0 ⟨gd, rfl, d2, k2, hg2⟩
  have B0 : Hid (Duo (fun q => w.heap.size ≤ q) w W0 gc gd (.slice none 0 0) (.slice none 0 0) ⟨0, [], 0, false, false, 0, 0⟩ ⟨4, [], 0, false, false, 0, 0⟩) := Lw.hid ⟨D1.out.kept k2 (fun h => h) (fun _ _ h => h), d2, (K1.out.trans k2 (fun _ _ h => h)).mono (fun _ _ h => h.elim), by omega, by have := K1.out.size; omega, fun _ h => (blk_none h).elim, fun _ h => (blk_none h).elim, by omega, fun h => blk_none h, fun h => blk_none h, fun _ h => (blk_none h).elim⟩
  clear d2 k2 D1 K1 hg hg2 hgc HN HZ
  go_wp2_with fail
  refine (dput_any _ _ _ _ B0.out.d (Dsk.ok_mk (by decide) (by decide) (by decide) (by decide) (by decide) (by decide)) 0 (by decide) _ [] (RdB.nil _) (fun h => absurd rfl h)).mono ?_
  rw [show (⟨0, [], 0, false, false, 0, 0⟩ : Dsk).put 0 [] = ((⟨0, [], 1, false, false, -1, 0⟩ : Dsk), 0) from rfl]
  rintro e W1 ⟨rfl, hp⟩
  obtain ⟨x1, hb⟩ := B0.out.put hp HT3.out
  have B1 := Lw.hid hb
  clear hp hb B0
  go_wp2_with fail
  have hb1 := heap_lt B1.out.d.box
  have hv1 := Lw.hid (own_lt B1.out.d.own)
  refine (dput_any _ _ _ _ (B1.out.keptF ((Kept.refl _ _).alloc _)).d (Dsk.ok_mk (by decide) (by decide) (by decide) (by decide) (by decide) (by decide)) 0 (by decide) _ [1] (RdB.lit W1 [1] _ 1 rfl (by decide)) (fun _ q hq => by have := blk_new hq; exact ⟨by omega, fun h => by have := hv1.out q h; omega⟩)).mono ?_
  rw [show (⟨0, [], 1, false, false, -1, 0⟩ : Dsk).put 0 [1] = ((⟨0, [], 1, false, false, -1, 0⟩ : Dsk), 7) from rfl]
  rintro e W2 ⟨rfl, hp⟩
  obtain ⟨x2, hb⟩ := (B1.out.keptF ((Kept.refl _ _).alloc _)).put hp HT3.out
  have B2 := Lw.hid hb
  clear hp hb B1 hb1 hv1
  go_wp2_with fail
  refine (dputs_any _ _ _ _ B2.out.d).mono ?_
  rintro e _ ⟨rfl, rfl⟩
  go_wp2_with fail
  refine (dplan_any _ _ _ _ B2.out.r 1 99).mono ?_
  rw [show (⟨4, [], 0, false, false, 0, 0⟩ : Dsk).plan 1 99 = ((⟨4, [], 0, false, true, 1, 99⟩ : Dsk), 0) from rfl]
  rintro e W3 ⟨rfl, hp⟩
  obtain ⟨x3, hb⟩ := B2.out.rput hp HT3.out
  have B3 := Lw.hid hb
  clear hp hb B2
  go_wp2_with fail
  refine (dcopy_any _ _ _ _ B3.out.r (by decide)).mono ?_
  rintro e W4 ⟨gh, vh, rfl, d6, k6, hg6, hv6⟩
  have B4 := Lw.hid (B3.out.copy d6 k6 hg6 hv6 HT3.out)
  clear d6 k6 hg6 hv6 B3
  go_wp2_with (refine wpList_const rfl _ _ rfl _ _ _ _ rfl (by simp) Try.underlying22 Try.underlying5 ?_)
  have hb4 := heap_lt B4.out.d.box
  have hv4 := Lw.hid (own_lt B4.out.d.own)
  refine (dput_any _ _ _ _ (B4.out.keptF ((Kept.refl _ _).alloc _)).d (Dsk.ok_mk (by decide) (by decide) (by decide) (by decide) (by decide) (by decide)) 0 (by decide) _ [97, 98] (RdB.mark W4 [97, 98] _ _ _ 2 rfl rfl (by decide)) (fun _ q hq => by have := blk_new hq; exact ⟨by omega, fun h => by have := hv4.out q h; omega⟩)).mono ?_
  rw [show (⟨4, [], 0, false, true, 1, 99⟩ : Dsk).put 0 [97, 98] = ((⟨4, [97, 98], 1, false, true, 0, 99⟩ : Dsk), 0) from rfl]
  rintro e W5 ⟨rfl, hp⟩
  obtain ⟨x5, hb⟩ := (B4.out.keptF ((Kept.refl _ _).alloc _)).put hp HT3.out
  have B5 := Lw.hid hb
  clear hp hb B4 hb4 hv4
  go_wp2_with (refine wpList_const rfl _ _ rfl _ _ _ _ rfl (by simp) Try.underlying22 Try.underlying5 ?_)
  have hb5 := heap_lt B5.out.d.box
  have hv5 := Lw.hid (own_lt B5.out.d.own)
  refine (dput_any _ _ _ _ (B5.out.keptF ((Kept.refl _ _).alloc _)).d (Dsk.ok_mk (by decide) (by decide) (by decide) (by decide) (by decide) (by decide)) 2 (by decide) _ [99, 100] (RdB.mark W5 [99, 100] _ _ _ 2 rfl rfl (by decide)) (fun _ q hq => by have := blk_new hq; exact ⟨by omega, fun h => by have := hv5.out q h; omega⟩)).mono ?_
  rw [show (⟨4, [97, 98], 1, false, true, 0, 99⟩ : Dsk).put 2 [99, 100] = ((⟨4, [97, 98, 99, 100], 1, true, false, 0, 0⟩ : Dsk), 10) from rfl]
  rintro e W6 ⟨rfl, hp⟩
  obtain ⟨x6, hb⟩ := (B5.out.keptF ((Kept.refl _ _).alloc _)).put hp HT3.out
  have B6 := Lw.hid hb
  clear hp hb B5 hb5 hv5
  go_wp2_with (refine wpList_const rfl _ _ rfl _ _ _ _ rfl (by simp) Try.underlying22 Try.underlying5 ?_)
  have hb6 := heap_lt B6.out.d.box
  have hv6 := Lw.hid (own_lt B6.out.d.own)
  refine (dput_any _ _ _ _ (B6.out.keptF ((Kept.refl _ _).alloc _)).d (Dsk.ok_mk (by decide) (by decide) (by decide) (by decide) (by decide) (by decide)) 0 (by decide) _ [120] (RdB.mark W6 [120] _ _ _ 1 rfl rfl (by decide)) (fun _ q hq => by have := blk_new hq; exact ⟨by omega, fun h => by have := hv6.out q h; omega⟩)).mono ?_
  rw [show (⟨4, [97, 98, 99, 100], 1, true, false, 0, 0⟩ : Dsk).put 0 [120] = ((⟨4, [97, 98, 99, 100], 1, true, false, 0, 0⟩ : Dsk), 10) from rfl]
  rintro e W7 ⟨rfl, hp⟩
  obtain ⟨x7, hb⟩ := (B6.out.keptF ((Kept.refl _ _).alloc _)).put hp HT3.out
  have B7 := Lw.hid hb
  clear hp hb B6 hb6 hv6
  go_wp2_with (refine wpList_const rfl _ _ rfl _ _ _ _ rfl (by simp) Try.underlying22 Try.underlying5 ?_)
  have hb7 := heap_lt B7.out.r.box
  have hv7 := Lw.hid (own_lt B7.out.r.own)
  refine (dput_any _ _ _ _ (B7.out.keptF ((Kept.refl _ _).alloc _)).r (Dsk.ok_mk (by decide) (by decide) (by decide) (by decide) (by decide) (by decide)) 0 (by decide) _ [97, 98] (RdB.mark W7 [97, 98] _ _ _ 2 rfl rfl (by decide)) (fun _ q hq => by have := blk_new hq; exact ⟨by omega, fun h => by have := hv7.out q h; omega⟩)).mono ?_
  rw [show (⟨4, [], 0, false, true, 1, 99⟩ : Dsk).put 0 [97, 98] = ((⟨4, [97, 98], 1, false, true, 0, 99⟩ : Dsk), 0) from rfl]
  rintro e W8 ⟨rfl, hp⟩
  obtain ⟨x8, hb⟩ := (B7.out.keptF ((Kept.refl _ _).alloc _)).rput hp HT3.out
  have B8 := Lw.hid hb
  clear hp hb B7 hb7 hv7
  go_wp2_with fail
  refine (dplan_any _ _ _ _ B8.out.r 5 0).mono ?_
  rw [show (⟨4, [97, 98], 1, false, true, 0, 99⟩ : Dsk).plan 5 0 = ((⟨4, [97, 98], 1, false, true, 5, 0⟩ : Dsk), 0) from rfl]
  rintro e W9 ⟨rfl, hp⟩
  obtain ⟨x9, hb⟩ := B8.out.rput hp HT3.out
  have B9 := Lw.hid hb
  clear hp hb B8
  go_wp2_with (refine wpList_const rfl _ _ rfl _ _ _ _ rfl (by simp) Try.underlying22 Try.underlying5 ?_)
  have hb9 := heap_lt B9.out.r.box
  have hv9 := Lw.hid (own_lt B9.out.r.own)
  refine (dput_any _ _ _ _ (B9.out.keptF ((Kept.refl _ _).alloc _)).r (Dsk.ok_mk (by decide) (by decide) (by decide) (by decide) (by decide) (by decide)) 1 (by decide) _ [120, 121] (RdB.mark W9 [120, 121] _ _ _ 2 rfl rfl (by decide)) (fun _ q hq => by have := blk_new hq; exact ⟨by omega, fun h => by have := hv9.out q h; omega⟩)).mono ?_
  rw [show (⟨4, [97, 98], 1, false, true, 5, 0⟩ : Dsk).put 1 [120, 121] = ((⟨4, [97, 120, 121], 2, false, true, 4, 0⟩ : Dsk), 0) from rfl]
  rintro e W10 ⟨rfl, hp⟩
  obtain ⟨x10, hb⟩ := (B9.out.keptF ((Kept.refl _ _).alloc _)).rput hp HT3.out
  have B10 := Lw.hid hb
  clear hp hb B9 hb9 hv9
  go_wp2_with fail
  refine (dread_any _ _ _ _ B10.out.d (by decide) 0 9 (by decide) (by decide)).mono ?_
  rw [show (⟨4, [97, 98, 99, 100], 1, true, false, 0, 0⟩ : Dsk).rd 0 9 = [97, 98, 99, 100] from rfl]
  rintro e W11 ⟨r11, rfl, ho, hk, _⟩
  have B11 := Lw.hid (B10.out.keptF hk)
  have R11 : Hid (RdB W11 r11 [97, 98, 99, 100]) := Lw.hid (RdB.of_own ho rfl)
  clear ho hk B10
  have hs11 := run_str (P := Try.prog) (src := 22) (dst := 9) R11.out Try.underlying22 Try.underlying5 Try.underlying9
  go_wp2_with fail
  refine (dputs_any _ _ _ _ B11.out.d).mono ?_
  rintro e _ ⟨rfl, rfl⟩
  go_wp2_with fail
  refine (dstopped_any _ _ _ _ B11.out.d).mono ?_
  rintro e _ ⟨rfl, rfl⟩
  go_wp2_with fail
  refine (dread_any _ _ _ _ B11.out.r (by decide) 1 1 (by decide) (by decide)).mono ?_
  rw [show (⟨4, [97, 120, 121], 2, false, true, 4, 0⟩ : Dsk).rd 1 1 = [120] from rfl]
  rintro e W12 ⟨r12, rfl, ho, hk, _⟩
  have B12 := Lw.hid (B11.out.keptF hk)
  have R12 : Hid (RdB W12 r12 [120]) := Lw.hid (RdB.of_own ho rfl)
  clear ho hk B11
  have hs12 := run_str (P := Try.prog) (src := 22) (dst := 9) R12.out Try.underlying22 Try.underlying5 Try.underlying9
  go_wp2_with fail
  refine (dstopped_any _ _ _ _ B12.out.r).mono ?_
  rintro e _ ⟨rfl, rfl⟩
  go_wp2_with fail
  refine (dplan_any _ _ _ _ B12.out.r (-1) 0).mono ?_
  rw [show (⟨4, [97, 120, 121], 2, false, true, 4, 0⟩ : Dsk).plan (-1) 0 = ((⟨4, [97, 120, 121], 2, false, true, 4, 0⟩ : Dsk), 1) from rfl]
  rintro e W13 ⟨rfl, hp⟩
  obtain ⟨x13, hb⟩ := B12.out.rput hp HT3.out
  have B13 := Lw.hid hb
  clear hp hb B12
  go_wp2_with fail
  refine (dplan_any _ _ _ _ B13.out.r 0 (-1)).mono ?_
  rw [show (⟨4, [97, 120, 121], 2, false, true, 4, 0⟩ : Dsk).plan 0 (-1) = ((⟨4, [97, 120, 121], 2, false, true, 4, 0⟩ : Dsk), 1) from rfl]
  rintro e W14 ⟨rfl, hp⟩
  obtain ⟨x14, hb⟩ := B13.out.rput hp HT3.out
  have B14 := Lw.hid hb
  clear hp hb B13
  go_wp2_with fail
  refine (dread_any _ _ _ _ B14.out.r (by decide) 4 1 (by decide) (by decide)).mono ?_
  rw [show (⟨4, [97, 120, 121], 2, false, true, 4, 0⟩ : Dsk).rd 4 1 = [] from rfl]
  rintro e W15 ⟨r15, rfl, ho, hk, _⟩
  have B15 := Lw.hid (B14.out.keptF hk)
  obtain ⟨a15, c15, rfl, _, _, _⟩ := own_slice ho
  clear ho hk B14
  go_wp2_with fail
  refine (dread_any _ _ _ _ B15.out.r (by decide) (-1) 1 (by decide) (by decide)).mono ?_
  rw [show (⟨4, [97, 120, 121], 2, false, true, 4, 0⟩ : Dsk).rd (-1) 1 = [] from rfl]
  rintro e W16 ⟨r16, rfl, ho, hk, _⟩
  have B16 := Lw.hid (B15.out.keptF hk)
  obtain ⟨a16, c16, rfl, _, _, _⟩ := own_slice ho
  clear ho hk B15
  go_wp2_with fail
  refine (dread_any _ _ _ _ B16.out.r (by decide) 0 (-1) (by decide) (by decide)).mono ?_
  rw [show (⟨4, [97, 120, 121], 2, false, true, 4, 0⟩ : Dsk).rd 0 (-1) = [] from rfl]
  rintro e W17 ⟨r17, rfl, ho, hk, _⟩
  have B17 := Lw.hid (B16.out.keptF hk)
  obtain ⟨a17, c17, rfl, _, _, _⟩ := own_slice ho
  clear ho hk B16
  go_wp2_with fail
  refine (dtells_any _).mono ?_
  rintro e w9 ⟨rfl, k9⟩
  have K9 := Lw.hid (B17.out.k.trans k9 (fun _ _ h => h.elim))
  clear k9
  go_wp2_with fail
  go_ret
  exact ⟨rfl, K9.out⟩
theorem dknown_below (w : World) : Calls Try.prog 5 #[] w fun e w' => e = .returned (.bool true) ∧ Below w.heap.size w w' :=
  (dknown_any w).mono fun _ _ ⟨h, k⟩ => ⟨h, k.below (Nat.le_refl _) (fun k hk h => by omega)⟩
end Go.Proofs.Ytoiinmiedmjghaa
