/- package disk: Copy. -/
import Derived.Test.YtfmebmaklakckaaDoorDisk4
namespace Go.Proofs.YtfmebmaklakckaaDoor
open Go Go.RowKit Go.Lw
set_option maxRecDepth 100000
set_option maxHeartbeats 4000000 in
theorem dcopy_any (w : World) (g : Nat) (v : Value) (D : Dsk) (h : DiskAt w g v D) (hD : D.b.length ≤ 1048576) :
    Calls Tryd.prog 35 #[.pointer (some ⟨g, 0, none⟩)] w fun e w' => ∃ g' v', e = .returned (.pointer (some ⟨g', 0, none⟩)) ∧ DiskAt w' g' v' D ∧ Kept (fun _ => False) w w' ∧ w.heap.size ≤ g' ∧ ∀ k, blk v' k → w.heap.size ≤ k := by
  obtain ⟨ad, cap, rfl, hc1, hc2, hc3⟩ := own_slice h.own
  have c0 := heap_cell h.box 0; have c1 := heap_cell h.box 1; have c2 := heap_cell h.box 2; have c3 := heap_cell h.box 3; have c4 := heap_cell h.box 4; have c5 := heap_cell h.box 5; have c6 := heap_cell h.box 6; have c7 := heap_cell h.box 7
  have hgl := heap_lt h.box
  have H := Lw.hid h
  clear h hc3
  unfold maxLen at hc2
  obtain ⟨cp, b, puts, st, is, np, nb⟩ := D
  simp only at c0 c1 c2 c3 c4 c5 c6 c7 hc1 hD
  go_enter Tryd.func35, Tryd.ntmps35
  go_wp2_with fail
  refine (dnone_any w g _ _ H.out).mono ?_
  rintro e _ ⟨rfl, rfl⟩
  go_wp2_with fail
  have hal := (Kept.refl (fun _ => False) w).alloc (.cells #[.bool true, .int .i64 (cp : Int), .slice ad b.length cap, .int .i64 (puts : Int), .bool st, .bool is, .int .i64 np, .int .i64 nb] 79)
  have hbn := heap_alloc w (.cells #[.bool true, .int .i64 (cp : Int), .slice ad b.length cap, .int .i64 (puts : Int), .bool st, .bool is, .int .i64 np, .int .i64 nb] 79)
  have hrd : RdB (w.alloc (.cells #[.bool true, .int .i64 (cp : Int), .slice ad b.length cap, .int .i64 (puts : Int), .bool st, .bool is, .int .i64 np, .int .i64 nb] 79)) (.slice ad b.length cap) b := (RdB.of_own H.out.own rfl).alloc _
  refine (clone_any _ _ b hrd (by omega)).mono ?_
  rintro e w2 ⟨v2, rfl, o2, k2, f2⟩
  obtain ⟨a2, p2, rfl, _, _, _⟩ := own_slice o2
  have hbn2 := k2.heap hbn (fun h => h)
  have e2 := heap_cell hbn2 2
  have z2 := heap_free hbn2 2
  have HBN := Lw.hid hbn2; have HO := Lw.hid o2; have HK := Lw.hid (hal.trans k2 (fun _ _ h => h)); have HF := Lw.hid f2
  clear hal hbn hrd o2 k2 f2 hbn2
  go_wp2_with fail
  go_ret
  have hnew : ∀ k, blk (.slice a2 b.length p2) k → w.heap.size + 1 ≤ k := fun k hk => by have := HF.out k hk; simpa using this
  have hne : ¬ blk (.slice a2 b.length p2) w.heap.size := fun h => by have := hnew _ h; omega
  refine ⟨w.heap.size, _, rfl, ⟨heap_set HBN.out 2 _, own_setCell (p := ⟨w.heap.size, 2, none⟩) HO.out hne _, hne⟩, ?_, Nat.le_refl _, fun k hk => by have := hnew k hk; omega⟩
  have hks : Kept (fun q => q = w.heap.size) w (w2.setCell ⟨w.heap.size, 2, none⟩ (.slice a2 b.length p2)) := Kept.set (S := fun q => q = w.heap.size) (HK.out.mono (fun _ _ h => h.elim)) w.heap.size 2 (fun _ => rfl) _
  exact hks.mono (fun i hi e => by omega)
end Go.Proofs.YtfmebmaklakckaaDoor
