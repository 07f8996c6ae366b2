/- No log; the chapter's example. -/
import Derived.Test.YtfmebmaklakckaaDoorLogS
namespace Go.Proofs.YtfmebmaklakckaaDoor
open Go Go.RowKit Go.Lw
set_option maxRecDepth 100000
set_option linter.unusedVariables false
set_option linter.unusedSimpArgs false
def wD0 : Dsk := ⟨1000, [], 0, false, false, 0, 0⟩
def wA1 : Dsk × Fd × Nat × Nat := appF wD0 fz [97]
def wD2 : Dsk := (wA1.1.plan 0 11).1
def wA3 : Dsk × Fd × Nat × Nat := appF wD2 wA1.2.1 [98, 98]
def wD4 : Dsk := wA3.1.revive.1
def wR5 : Dsk × Nat := recF wD4
def wS5 : Fd := lastF wD4.b
def wA6 : Dsk × Fd × Nat × Nat := appF wR5.1 wS5 [99]
theorem recF_new (cap : Nat) : recF ⟨cap, [], 0, false, false, 0, 0⟩ = (⟨cap, [], 0, false, false, 0, 0⟩, 0) := by
  unfold recF
  rw [if_neg (by simp), if_neg (by simp)]
theorem last_nil : lastF [] = fz := by decide +kernel
theorem wk1 : wA1.2.2.1 = 1 ∧ wA1.2.2.2 = 0 ∧ wA1.2.1.fin = 11 ∧ wA1.2.1.sum < 4294967296 := by decide +kernel
theorem wk2 : (wA1.1.plan 0 11).2 = 0 := by decide +kernel
theorem wk3 : wA3.2.2.1 = 0 ∧ wA3.2.2.2 = 10 := by decide +kernel
theorem wk4 : wA3.1.revive.2 = 0 := by decide +kernel
theorem wk5 : wR5.2 = 0 ∧ wS5.fin = 11 ∧ wS5.sum < 4294967296 := by decide +kernel
theorem wk5b : wR5.1.b.length ≤ 1048576 := by decide +kernel
theorem wk6 : logP wR5.1 wS5 = [[97]] := by decide +kernel
theorem wk7 : wA6.2.2.1 = 2 := by decide +kernel
set_option maxHeartbeats 8000000 in
theorem lwakes_any (w : World) (ht : Tab w) :
    Calls Tryd.prog 18 #[] w fun e w' => e = .returned (.bool true) ∧ Kept (fun _ => False) w w' := by
  have HT := Lw.hid ht
  clear ht
  go_enter Tryd.func18, Tryd.ntmps18
  go_wp2_with fail
  refine (dnew_any w 1000 (by decide)).mono ?_
  rintro e w1 ⟨g, rfl, d1, k1, hg⟩
  have S1 : Hid (DsW w w1 g (.slice none 0 0) wD0 0) := Lw.hid (DsW.start d1 k1 hg (by decide) HT.out)
  clear d1 k1 hg
  go_wp2_with fail
  refine (rec_ok S1.out (by decide) (recF_new 1000) last_nil).mono ?_
  rintro e w2 ⟨v2, BL, rfl, s2, _, b2, _⟩
  have S2 := Lw.hid s2; have B2 := Lw.hid b2
  clear s2 b2
  go_wp2_with (refine wpList_const rfl _ _ rfl _ _ _ _ rfl (by simp) Tryd.underlying38 Tryd.underlying5 ?_)
  refine (app_w (S2.out.keptF ((Kept.refl _ _).alloc _)) (by decide) (B2.out.keptF ((Kept.refl _ _).alloc _)) (by decide) (by decide) _ [97] (RdB.mark w2 [97] _ _ _ 1 rfl rfl (by decide))).mono ?_
  rintro e w3 ⟨rfl, v3, s', b', _⟩
  have S3 : Hid (DsW w w3 g v3 wA1.1 2) := Lw.hid s'
  have B3 : Hid (Bx w w3 g v3 BL wA1.2.1) := Lw.hid b'
  clear s' b'
  rw [show (appF ⟨1000, [], 0, false, false, 0, 0⟩ fz [97]).2.2.1 = 1 from wk1.1, show (appF ⟨1000, [], 0, false, false, 0, 0⟩ fz [97]).2.2.2 = 0 from wk1.2.1]
  go_wp2_with fail
  refine (plan_w S3.out 0 11 (by decide) (by decide)).mono ?_
  rw [wk2]
  rintro e w4 ⟨rfl, v4, s', b', _⟩
  have S4 : Hid (DsW w w4 g v4 wD2 2) := Lw.hid s'
  have B4 := Lw.hid (b' _ _ B3.out)
  clear s' b' S3 B3
  go_wp2_with (refine wpList_const rfl _ _ rfl _ _ _ _ rfl (by simp) Tryd.underlying38 Tryd.underlying5 ?_)
  refine (app_w (S4.out.keptF ((Kept.refl _ _).alloc _)) (by decide) (B4.out.keptF ((Kept.refl _ _).alloc _)) (by rw [wk1.2.2.1]; decide) wk1.2.2.2 _ [98, 98] (RdB.mark w4 [98, 98] _ _ _ 2 rfl rfl (by decide))).mono ?_
  rintro e w5 ⟨rfl, v5, s', b', _⟩
  have S5 : Hid (DsW w w5 g v5 wA3.1 3) := Lw.hid s'
  clear s' b' S4 B4
  rw [show (appF wD2 wA1.2.1 [98, 98]).2.2.1 = 0 from wk3.1, show (appF wD2 wA1.2.1 [98, 98]).2.2.2 = 10 from wk3.2]
  go_wp2_with fail
  refine (rev_w S5.out).mono ?_
  rw [wk4]
  rintro e w6 ⟨rfl, v6, s', _⟩
  have S6 : Hid (DsW w w6 g v6 wD4 3) := Lw.hid s'
  clear s' S5
  go_wp2_with fail
  refine (rec_ok S6.out (by decide) (D1 := wR5.1) (show recF wD4 = (wR5.1, 0) from by have := wk5.1; unfold wR5 at this ⊢; rw [← this]) (s := wS5) rfl).mono ?_
  rintro e w7 ⟨v7, BM, rfl, s', _, b', _⟩
  have S7 := Lw.hid s'
  have B7 := Lw.hid b'
  clear s' b' S6
  go_wp2_with fail
  refine (rows_w S7.out B7.out (by rw [wk5.2.1]; decide) wk6).mono ?_
  rintro e w8 ⟨r, vs, rfl, ho, hb, hp, k8⟩
  have S8 := Lw.hid (S7.out.keptF k8); have B8 := Lw.hid (B7.out.keptF k8)
  obtain ⟨adr, capr, rfl, hc, _, hnz⟩ := own_slice ho
  obtain ⟨gr, rfl⟩ := hnz (by decide)
  have hvl : vs.length = 1 := hp.1
  obtain ⟨u, rfl⟩ : ∃ u, vs = [u] := by
    cases vs with
    | nil => simp at hvl
    | cons u t => cases t with
      | nil => exact ⟨u, rfl⟩
      | cons _ _ => simp at hvl
  have hu := (hp.2 0 u [97] rfl rfl).1
  obtain ⟨adu, capu, rfl, _, _, _⟩ := hu.open
  have hb0 := hp.2 0 _ [97] rfl rfl
  have HB8 : Hid (∀ k, k = BM ∨ k = g ∨ blk v7 k → k < w7.heap.size) := Lw.hid (fun k hk => by
    rcases hk with rfl | rfl | h
    · exact heap_lt B7.out.box
    · exact heap_lt S7.out.d.box
    · exact own_lt S7.out.d.own k h)
  have HUB : Hid (∀ k, blk (.slice adu 1 capu) k → w7.heap.size ≤ k) := Lw.hid (fun k hk => (hb0.2 (by decide) k hk).1)
  have hgr : w7.heap.size ≤ gr := hb gr rfl
  have HU := Lw.hid hu; have HO := Lw.hid ho
  clear hb0
  clear ho hb hp k8 hu S7 B7
  go_wp2_with (refine wpList_const rfl _ _ rfl _ _ _ _ rfl (by simp) Tryd.underlying38 Tryd.underlying5 ?_)
  refine (app_w (S8.out.keptF ((Kept.refl _ _).alloc _)) (by decide) (B8.out.keptF ((Kept.refl _ _).alloc _)) (by rw [wk5.2.1]; decide) wk5.2.2 _ [99] (RdB.mark w8 [99] _ _ _ 1 rfl rfl (by decide))).mono ?_
  rintro e w9 ⟨rfl, v9, s', b', _, k9, _⟩
  have S9 : Hid (DsW w w9 g v9 wA6.1 5) := Lw.hid s'
  have K9 : Hid (Kept (fun k => k < w7.heap.size) w8 w9) := Lw.hid ((((Kept.refl (fun _ => False) w8).alloc _).mono (fun _ _ h => h.elim)).trans k9 (fun i _ h => HB8.out i h))
  have HU9 : Hid (RdB w9 (.slice adu 1 capu) [97]) := Lw.hid (HU.out.kept K9.out (fun k hk h => by have := HUB.out k hk; omega))
  have HO9 : Hid (w9.ownsRow 0 38 1 (.slice (some ⟨gr, 0, none⟩) 1 capr) 1 [.slice adu 1 capu]) := Lw.hid (own_kept K9.out HO.out (fun k hk h => by have := blk_some hk; dsimp only at this; omega))
  have q0 : w9.cell? ⟨gr, 0, none⟩ = some (.slice adu 1 capu) := own_cell HO9.out 0 _ rfl (by decide)
  clear b' s' k9 HU HO
  rw [show (appF wR5.1 wS5 [99]).2.2.1 = 2 from wk7]
  go_wp2_with (first | (refine wpList_str rfl _ _ _ rfl _ [97] rfl HU9.out Tryd.underlying38 Tryd.underlying5 Tryd.underlying9 ?_))
  go_ret
  exact ⟨rfl, S9.out.k⟩
end Go.Proofs.YtfmebmaklakckaaDoor
