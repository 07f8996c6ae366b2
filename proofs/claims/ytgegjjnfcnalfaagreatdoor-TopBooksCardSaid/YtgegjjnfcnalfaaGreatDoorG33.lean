/- Of the proof of TopBooks: JP, RE. -/
import Derived.Test.YtgegjjnfcnalfaaGreatDoorG32
import Derived.Test.YtgegjjnfcnalfaaGreatDoorG24
import Derived.Test.YtgegjjnfcnalfaaGreatDoorG02
import Derived.Lib.MinMax
import Derived.Deep.LoopGhost
import Derived.WalkLawsBesides
namespace Go.Proofs.YtgegjjnfcnalfaaGreatDoor
open Go Go.RowKit Go.Lw
set_option maxRecDepth 100000
set_option linter.unusedVariables false
set_option linter.unusedSimpArgs false
set_option linter.unusedSectionVars false
attribute [local go_sem] BA_toList
structure A7 where
  what : Int
  ch : Int
  many : Int
  bytes : Int
  t : List UInt8
def A7.cells (a : A7) : List Value := [.int .i64 a.what, .int .i64 a.ch, .int .i64 a.many, .int .i64 a.bytes, .string (BA a.t)]
def DoPost (w : World) (B : Nat → Prop) (j BL g : Nat) (D : Dsk) (rs : List Rc) (e : Ending) (w' : World) : Prop :=
  ∃ b, e = .returned (.bool b) ∧ ((b = false ∧ Kept (fun _ => False) w w') ∨ (b = true ∧ ∃ r, r.Fit (runJ rs) ∧ AOk w B j BL g D rs r w'))
theorem AOk.of_more {w w' : World} {B : Nat → Prop} {j BL g : Nat} {D : Dsk} {rs : List Rc} {r : Rc} (h : AOk w (fun k => B k ∨ w.heap.size ≤ k) j BL g D rs r w') : AOk w B j BL g D rs r w' := by
  obtain ⟨v', h1, h2⟩ := h
  exact ⟨v', h1.mono (fun i _ hi => hi.elim (fun h => h) (fun h => .inr h)), h2.mono (fun i hi h => h.elim (fun h => h) (fun h => by omega))⟩
theorem AOk.kept {w w1 w' : World} {B : Nat → Prop} {j BL g : Nat} {D : Dsk} {rs : List Rc} {r : Rc} (k : Kept (fun _ => False) w w1) (h : AOk w1 B j BL g D rs r w') : AOk w B j BL g D rs r w' := by
  obtain ⟨v', h4, h5⟩ := h
  exact ⟨v', h4.mono (fun i _ hi => hi.imp (fun h => h) (fun h => Nat.le_trans k.size h)), (k.mono (fun _ _ h => h.elim)).trans h5 (fun _ _ h => h)⟩
theorem DoPost.of {w w1 w' : World} {B : Nat → Prop} {j BL g : Nat} {D : Dsk} {rs : List Rc} {er : Int} {b : Bool} (hb : b = (er == 0)) (k : Kept (fun _ => False) w w1) (h : (er ≠ 0 ∧ Kept (fun _ => False) w1 w') ∨ (er = 0 ∧ ∃ r, r.Fit (runJ rs) ∧ AOk w1 B j BL g D rs r w')) : DoPost w B j BL g D rs (.returned (.bool b)) w' := by
  rcases h with ⟨h1, h2⟩ | ⟨h1, r, hr, h2⟩
  · exact ⟨b, rfl, .inl ⟨by rw [hb]; simpa using h1, k.trans h2 (fun _ _ h => h)⟩⟩
  · exact ⟨b, rfl, .inr ⟨by rw [hb, h1]; rfl, r, hr, h2.kept k⟩⟩
section
variable (w : World) (B : Nat → Prop) (j BL g : Nat) (v : Value) (D : Dsk) (rs : List Rc) (K : Nat) (h : JL w B j BL g v D rs) (hd : Rdy K D rs) (ht : Tab w) (hr : 89 * rs.length + 89 ≤ D.cap) (hk : K + 1 ≤ 1000000) (hn : rs.length < 100) (hBl : ∀ k, B k → k < w.heap.size)
include h hd ht hr hk hn hBl
set_option maxHeartbeats 8000000 in
theorem does0 (ch many bt : Int) (t : List UInt8) (htl : t.length ≤ 60) :
    Calls Tryz.prog 13 #[.pointer (some ⟨j, 0, none⟩), .agg #[.int .i64 0, .int .i64 ch, .int .i64 many, .int .i64 bt, .string (BA t)]] w (DoPost w B j BL g D rs) := by
  obtain ⟨w1, hw1⟩ : ∃ w1, w.alloc (.cells #[.int .i64 0, .int .i64 ch, .int .i64 many, .int .i64 bt, .string (BA t)] 32) = w1 := ⟨_, rfl⟩
  have k1 : Kept (fun _ => False) w w1 := by rw [← hw1]; exact (Kept.refl _ w).alloc _
  have ht1 := ht.below (k1.below (Nat.le_refl _) (fun _ _ h => h))
  have hj1 := h.kept k1 (fun _ _ h => h)
  have hbx : w1.heap[w.heap.size]? = some (.cells #[.int .i64 0, .int .i64 ch, .int .i64 many, .int .i64 bt, .string (BA t)] 32 (0, 0)) := by rw [← hw1]; exact heap_alloc w _
  have HW := Lw.hid hw1; have K1 := Lw.hid k1; have HBX := Lw.hid hbx
  have HC := Lw.hid (intent_any w1 B j BL g v D rs K hj1 hd ht1 hr hk hn t htl)
  clear h hd ht hr hk hn hBl hw1 k1 ht1 hj1 hbx
  go_enter Tryz.func13, Tryz.ntmps13
  go_wp2_with fail
  rw [HW.out]
  refine HC.out.mono ?_
  rintro e w2 ⟨er, id, rfl, hp⟩
  have HP : Hid ((er ≠ 0 ∧ Kept (fun _ => False) w1 w2) ∨ (er = 0 ∧ ∃ r, r.Fit (runJ rs) ∧ AOk w1 B j BL g D rs r w2)) := Lw.hid (hp.imp (fun h => h) (fun h => ⟨h.1, h.2.2⟩))
  clear hp
  go_wp2_with fail
  go_ret
  exact DoPost.of (by simp) K1.out HP.out
set_option maxHeartbeats 8000000 in
theorem does1 (ch many bt : Int) (t : List UInt8) (htl : t.length ≤ 60) :
    Calls Tryz.prog 13 #[.pointer (some ⟨j, 0, none⟩), .agg #[.int .i64 1, .int .i64 ch, .int .i64 many, .int .i64 bt, .string (BA t)]] w (DoPost w B j BL g D rs) := by
  obtain ⟨w1, hw1⟩ : ∃ w1, w.alloc (.cells #[.int .i64 1, .int .i64 ch, .int .i64 many, .int .i64 bt, .string (BA t)] 32) = w1 := ⟨_, rfl⟩
  have k1 : Kept (fun _ => False) w w1 := by rw [← hw1]; exact (Kept.refl _ w).alloc _
  have ht1 := ht.below (k1.below (Nat.le_refl _) (fun _ _ h => h))
  have hj1 := h.kept k1 (fun _ _ h => h)
  have hbx : w1.heap[w.heap.size]? = some (.cells #[.int .i64 1, .int .i64 ch, .int .i64 many, .int .i64 bt, .string (BA t)] 32 (0, 0)) := by rw [← hw1]; exact heap_alloc w _
  have HW := Lw.hid hw1; have K1 := Lw.hid k1; have HBX := Lw.hid hbx
  have HC := Lw.hid (intent_any w1 B j BL g v D rs K hj1 hd ht1 hr hk hn t htl)
  clear h hd ht hr hk hn hBl hw1 k1 ht1 hj1 hbx
  go_enter Tryz.func13, Tryz.ntmps13
  go_wp2_with fail
  rw [HW.out]
  refine HC.out.mono ?_
  rintro e w2 ⟨er, id, rfl, hp⟩
  have HP : Hid ((er ≠ 0 ∧ Kept (fun _ => False) w1 w2) ∨ (er = 0 ∧ ∃ r, r.Fit (runJ rs) ∧ AOk w1 B j BL g D rs r w2)) := Lw.hid (hp.imp (fun h => h) (fun h => ⟨h.1, h.2.2⟩))
  clear hp
  go_wp2_with fail
  go_ret
  exact DoPost.of (by simp) K1.out HP.out
set_option maxHeartbeats 8000000 in
theorem does2 (ch many bt : Int) (t : List UInt8) (htl : t.length ≤ 60) :
    Calls Tryz.prog 13 #[.pointer (some ⟨j, 0, none⟩), .agg #[.int .i64 2, .int .i64 ch, .int .i64 many, .int .i64 bt, .string (BA t)]] w (DoPost w B j BL g D rs) := by
  obtain ⟨w1, hw1⟩ : ∃ w1, w.alloc (.cells #[.int .i64 2, .int .i64 ch, .int .i64 many, .int .i64 bt, .string (BA t)] 32) = w1 := ⟨_, rfl⟩
  have k1 : Kept (fun _ => False) w w1 := by rw [← hw1]; exact (Kept.refl _ w).alloc _
  have ht1 := ht.below (k1.below (Nat.le_refl _) (fun _ _ h => h))
  have hj1 := h.kept k1 (fun _ _ h => h)
  have hbx : w1.heap[w.heap.size]? = some (.cells #[.int .i64 2, .int .i64 ch, .int .i64 many, .int .i64 bt, .string (BA t)] 32 (0, 0)) := by rw [← hw1]; exact heap_alloc w _
  have HW := Lw.hid hw1; have K1 := Lw.hid k1; have HBX := Lw.hid hbx
  have HC := Lw.hid (put_any w1 B j BL g v D rs K hj1 hd ht1 hr hk hn ch t htl)
  clear h hd ht hr hk hn hBl hw1 k1 ht1 hj1 hbx
  go_enter Tryz.func13, Tryz.ntmps13
  go_wp2_with fail
  rw [HW.out]
  refine HC.out.mono ?_
  rintro e w2 ⟨er, rfl, hp⟩
  have HP := Lw.hid hp
  clear hp
  go_wp2_with fail
  go_ret
  exact DoPost.of (by simp) K1.out HP.out
set_option maxHeartbeats 8000000 in
theorem does3 (ch many bt : Int) (t : List UInt8) (htl : t.length ≤ 60) :
    Calls Tryz.prog 13 #[.pointer (some ⟨j, 0, none⟩), .agg #[.int .i64 3, .int .i64 ch, .int .i64 many, .int .i64 bt, .string (BA t)]] w (DoPost w B j BL g D rs) := by
  obtain ⟨w1, hw1⟩ : ∃ w1, w.alloc (.cells #[.int .i64 3, .int .i64 ch, .int .i64 many, .int .i64 bt, .string (BA t)] 32) = w1 := ⟨_, rfl⟩
  have k1 : Kept (fun _ => False) w w1 := by rw [← hw1]; exact (Kept.refl _ w).alloc _
  have ht1 := ht.below (k1.below (Nat.le_refl _) (fun _ _ h => h))
  have hj1 := h.kept k1 (fun _ _ h => h)
  have hbx : w1.heap[w.heap.size]? = some (.cells #[.int .i64 3, .int .i64 ch, .int .i64 many, .int .i64 bt, .string (BA t)] 32 (0, 0)) := by rw [← hw1]; exact heap_alloc w _
  have HW := Lw.hid hw1; have K1 := Lw.hid k1; have HBX := Lw.hid hbx
  have HC := Lw.hid (put_any w1 B j BL g v D rs K hj1 hd ht1 hr hk hn ch t htl)
  clear h hd ht hr hk hn hBl hw1 k1 ht1 hj1 hbx
  go_enter Tryz.func13, Tryz.ntmps13
  go_wp2_with fail
  rw [HW.out]
  refine HC.out.mono ?_
  rintro e w2 ⟨er, rfl, hp⟩
  have HP := Lw.hid hp
  clear hp
  go_wp2_with fail
  go_ret
  exact DoPost.of (by simp) K1.out HP.out
set_option maxHeartbeats 8000000 in
theorem does4 (ch many bt : Int) (t : List UInt8) (htl : t.length ≤ 60) :
    Calls Tryz.prog 13 #[.pointer (some ⟨j, 0, none⟩), .agg #[.int .i64 4, .int .i64 ch, .int .i64 many, .int .i64 bt, .string (BA t)]] w (DoPost w B j BL g D rs) := by
  obtain ⟨w1, hw1⟩ : ∃ w1, w.alloc (.cells #[.int .i64 4, .int .i64 ch, .int .i64 many, .int .i64 bt, .string (BA t)] 32) = w1 := ⟨_, rfl⟩
  have k1 : Kept (fun _ => False) w w1 := by rw [← hw1]; exact (Kept.refl _ w).alloc _
  have ht1 := ht.below (k1.below (Nat.le_refl _) (fun _ _ h => h))
  have hj1 := h.kept k1 (fun _ _ h => h)
  have hbx : w1.heap[w.heap.size]? = some (.cells #[.int .i64 4, .int .i64 ch, .int .i64 many, .int .i64 bt, .string (BA t)] 32 (0, 0)) := by rw [← hw1]; exact heap_alloc w _
  have HW := Lw.hid hw1; have K1 := Lw.hid k1; have HBX := Lw.hid hbx
  have HC := Lw.hid (put_any w1 B j BL g v D rs K hj1 hd ht1 hr hk hn ch t htl)
  clear h hd ht hr hk hn hBl hw1 k1 ht1 hj1 hbx
  go_enter Tryz.func13, Tryz.ntmps13
  go_wp2_with fail
  rw [HW.out]
  refine HC.out.mono ?_
  rintro e w2 ⟨er, rfl, hp⟩
  have HP := Lw.hid hp
  clear hp
  go_wp2_with fail
  go_ret
  exact DoPost.of (by simp) K1.out HP.out
set_option maxHeartbeats 8000000 in
theorem does5 (ch many bt : Int) (t : List UInt8) (htl : t.length ≤ 60) :
    Calls Tryz.prog 13 #[.pointer (some ⟨j, 0, none⟩), .agg #[.int .i64 5, .int .i64 ch, .int .i64 many, .int .i64 bt, .string (BA t)]] w (DoPost w B j BL g D rs) := by
  obtain ⟨w1, hw1⟩ : ∃ w1, w.alloc (.cells #[.int .i64 5, .int .i64 ch, .int .i64 many, .int .i64 bt, .string (BA t)] 32) = w1 := ⟨_, rfl⟩
  have k1 : Kept (fun _ => False) w w1 := by rw [← hw1]; exact (Kept.refl _ w).alloc _
  have ht1 := ht.below (k1.below (Nat.le_refl _) (fun _ _ h => h))
  have hj1 := h.kept k1 (fun _ _ h => h)
  have hbx : w1.heap[w.heap.size]? = some (.cells #[.int .i64 5, .int .i64 ch, .int .i64 many, .int .i64 bt, .string (BA t)] 32 (0, 0)) := by rw [← hw1]; exact heap_alloc w _
  have HW := Lw.hid hw1; have K1 := Lw.hid k1; have HBX := Lw.hid hbx
  have HC := Lw.hid (signal_any w1 B j BL g v D rs K hj1 hd ht1 hr hk hn many)
  clear h hd ht hr hk hn hBl hw1 k1 ht1 hj1 hbx
  go_enter Tryz.func13, Tryz.ntmps13
  go_wp2_with fail
  rw [HW.out]
  refine HC.out.mono ?_
  rintro e w2 ⟨er, rfl, hp⟩
  have HP := Lw.hid hp
  clear hp
  go_wp2_with fail
  go_ret
  exact DoPost.of (by simp) K1.out HP.out
set_option maxHeartbeats 8000000 in
theorem does6 (ch many bt : Int) (t : List UInt8) (htl : t.length ≤ 60) :
    Calls Tryz.prog 13 #[.pointer (some ⟨j, 0, none⟩), .agg #[.int .i64 6, .int .i64 ch, .int .i64 many, .int .i64 bt, .string (BA t)]] w (DoPost w B j BL g D rs) := by
  obtain ⟨w1, hw1⟩ : ∃ w1, w.alloc (.cells #[.int .i64 6, .int .i64 ch, .int .i64 many, .int .i64 bt, .string (BA t)] 32) = w1 := ⟨_, rfl⟩
  have k1 : Kept (fun _ => False) w w1 := by rw [← hw1]; exact (Kept.refl _ w).alloc _
  have ht1 := ht.below (k1.below (Nat.le_refl _) (fun _ _ h => h))
  have hj1 := h.kept k1 (fun _ _ h => h)
  have hbx : w1.heap[w.heap.size]? = some (.cells #[.int .i64 6, .int .i64 ch, .int .i64 many, .int .i64 bt, .string (BA t)] 32 (0, 0)) := by rw [← hw1]; exact heap_alloc w _
  have HW := Lw.hid hw1; have K1 := Lw.hid k1; have HBX := Lw.hid hbx
  have HJ := Lw.hid hj1; have HD := Lw.hid hd; have HT := Lw.hid ht1; have HBL := Lw.hid hBl
  obtain ⟨F, va, sp, h1, h2, h3⟩ := hj1.m
  have HJA := Lw.hid h1
  clear h hd ht hBl hw1 k1 ht1 hj1 hbx h1 h2 h3
  go_enter Tryz.func13, Tryz.ntmps13
  go_wp2_with fail
  rw [HW.out]
  refine (jstate_any w1 F j BL sp va _ HJA.out).mono ?_
  rintro e w2 ⟨q, rfl, hs2, k2⟩
  have HS2 := Lw.hid hs2; have K2 := Lw.hid (K1.out.trans k2 (fun _ _ h => h)); have K12 := Lw.hid k2
  have hb2 := k2.heap HBX.out (fun h => h)
  have HB2 := Lw.hid hb2
  have c4 := heap_cell hb2 4
  clear hs2 k2 hb2
  go_wp2_with fail
  refine (sset_any w2 _ q _ _ t HS2.out (by omega)).mono ?_
  rintro e w3 ⟨rfl, hs3, k3⟩
  have k3' : Kept (fun _ => False) w1 w3 := K12.out.trans k3 (fun i hi h => by omega)
  have HS3 := Lw.hid hs3; have K3 := Lw.hid (K1.out.trans k3' (fun _ _ h => h)); have K13 := Lw.hid k3'
  have hb3 := k3'.heap HBX.out (fun h => h)
  have c2 := heap_cell hb3 2
  have HC := Lw.hid (endc_any w3 B j BL g v D rs K (HJ.out.kept k3' (fun _ _ h => h)) HD.out (HT.out.below (k3'.below (Nat.le_refl _) (fun _ _ h => h))) hr hk hn _ q _ many t htl hs3 (fun k hk => by have := HBL.out k hk; have := K3.out.size; omega))
  clear hs3 k3 k3' hb3 c4
  go_wp2_with fail
  refine HC.out.mono ?_
  rintro e w4 ⟨er, rfl, hp⟩
  have HP : Hid ((er ≠ 0 ∧ Kept (fun _ => False) w3 w4) ∨ (er = 0 ∧ ∃ r, r.Fit (runJ rs) ∧ AOk w3 B j BL g D rs r w4)) := Lw.hid (hp.imp (fun h => h) (fun ⟨h, r, h2, h3⟩ => ⟨h, r, h2, h3.of_more⟩))
  clear hp
  go_wp2_with fail
  go_ret
  exact DoPost.of (by simp) K3.out HP.out
set_option maxHeartbeats 8000000 in
theorem does7 (ch many bt : Int) (t : List UInt8) (htl : t.length ≤ 60) :
    Calls Tryz.prog 13 #[.pointer (some ⟨j, 0, none⟩), .agg #[.int .i64 7, .int .i64 ch, .int .i64 many, .int .i64 bt, .string (BA t)]] w (DoPost w B j BL g D rs) := by
  obtain ⟨w1, hw1⟩ : ∃ w1, w.alloc (.cells #[.int .i64 7, .int .i64 ch, .int .i64 many, .int .i64 bt, .string (BA t)] 32) = w1 := ⟨_, rfl⟩
  have k1 : Kept (fun _ => False) w w1 := by rw [← hw1]; exact (Kept.refl _ w).alloc _
  have ht1 := ht.below (k1.below (Nat.le_refl _) (fun _ _ h => h))
  have hj1 := h.kept k1 (fun _ _ h => h)
  have hbx : w1.heap[w.heap.size]? = some (.cells #[.int .i64 7, .int .i64 ch, .int .i64 many, .int .i64 bt, .string (BA t)] 32 (0, 0)) := by rw [← hw1]; exact heap_alloc w _
  have HW := Lw.hid hw1; have K1 := Lw.hid k1; have HBX := Lw.hid hbx
  have HJ := Lw.hid hj1; have HD := Lw.hid hd; have HT := Lw.hid ht1; have HBL := Lw.hid hBl
  obtain ⟨F, va, sp, h1, h2, h3⟩ := hj1.m
  have HJA := Lw.hid h1
  clear h hd ht hBl hw1 k1 ht1 hj1 hbx h1 h2 h3
  go_enter Tryz.func13, Tryz.ntmps13
  go_wp2_with fail
  rw [HW.out]
  refine (jstate_any w1 F j BL sp va _ HJA.out).mono ?_
  rintro e w2 ⟨q, rfl, hs2, k2⟩
  have HS2 := Lw.hid hs2; have K2 := Lw.hid (K1.out.trans k2 (fun _ _ h => h)); have K12 := Lw.hid k2
  have hb2 := k2.heap HBX.out (fun h => h)
  have HB2 := Lw.hid hb2
  have c4 := heap_cell hb2 4
  clear hs2 k2 hb2
  go_wp2_with fail
  refine (sset_any w2 _ q _ _ t HS2.out (by omega)).mono ?_
  rintro e w3 ⟨rfl, hs3, k3⟩
  have k3' : Kept (fun _ => False) w1 w3 := K12.out.trans k3 (fun i hi h => by omega)
  have HS3 := Lw.hid hs3; have K3 := Lw.hid (K1.out.trans k3' (fun _ _ h => h)); have K13 := Lw.hid k3'
  have hb3 := k3'.heap HBX.out (fun h => h)
  have c2 := heap_cell hb3 2
  have HC := Lw.hid (endc_any w3 B j BL g v D rs K (HJ.out.kept k3' (fun _ _ h => h)) HD.out (HT.out.below (k3'.below (Nat.le_refl _) (fun _ _ h => h))) hr hk hn _ q _ many t htl hs3 (fun k hk => by have := HBL.out k hk; have := K3.out.size; omega))
  clear hs3 k3 k3' hb3 c4
  go_wp2_with fail
  refine HC.out.mono ?_
  rintro e w4 ⟨er, rfl, hp⟩
  have HP : Hid ((er ≠ 0 ∧ Kept (fun _ => False) w3 w4) ∨ (er = 0 ∧ ∃ r, r.Fit (runJ rs) ∧ AOk w3 B j BL g D rs r w4)) := Lw.hid (hp.imp (fun h => h) (fun ⟨h, r, h2, h3⟩ => ⟨h, r, h2, h3.of_more⟩))
  clear hp
  go_wp2_with fail
  go_ret
  exact DoPost.of (by simp) K3.out HP.out
set_option maxHeartbeats 8000000 in
theorem doesM (wh : Int) (ch many bt : Int) (t : List UInt8) (htl : t.length ≤ 60) (h0 : wh ≠ 0) (h1 : wh ≠ 1) (h2 : wh ≠ 2) (h3 : wh ≠ 3) (h4 : wh ≠ 4) (h5 : wh ≠ 5) (h6 : wh ≠ 6) (h7 : wh ≠ 7) :
    Calls Tryz.prog 13 #[.pointer (some ⟨j, 0, none⟩), .agg #[.int .i64 wh, .int .i64 ch, .int .i64 many, .int .i64 bt, .string (BA t)]] w (DoPost w B j BL g D rs) := by
  obtain ⟨w1, hw1⟩ : ∃ w1, w.alloc (.cells #[.int .i64 wh, .int .i64 ch, .int .i64 many, .int .i64 bt, .string (BA t)] 32) = w1 := ⟨_, rfl⟩
  have k1 : Kept (fun _ => False) w w1 := by rw [← hw1]; exact (Kept.refl _ w).alloc _
  have ht1 := ht.below (k1.below (Nat.le_refl _) (fun _ _ h => h))
  have hj1 := h.kept k1 (fun _ _ h => h)
  have hbx : w1.heap[w.heap.size]? = some (.cells #[.int .i64 wh, .int .i64 ch, .int .i64 many, .int .i64 bt, .string (BA t)] 32 (0, 0)) := by rw [← hw1]; exact heap_alloc w _
  have HW := Lw.hid hw1; have K1 := Lw.hid k1; have HBX := Lw.hid hbx
  have e0 : (wh == 0) = false := by simpa using h0
  have e1 : (wh == 1) = false := by simpa using h1
  have e2 : (wh == 2) = false := by simpa using h2
  have e3 : (wh == 3) = false := by simpa using h3
  have e4 : (wh == 4) = false := by simpa using h4
  have e5 : (wh == 5) = false := by simpa using h5
  have e6 : (wh == 6) = false := by simpa using h6
  have e7 : (wh == 7) = false := by simpa using h7
  have hm0 : 0 ≤ many % 4294967296 ∧ many % 4294967296 < 4294967296 := by omega
  obtain ⟨mb, hmb⟩ := Int.eq_ofNat_of_zero_le hm0.1
  have HC := Lw.hid (mark_any w1 B j BL g v D rs K hj1 hd ht1 hr hk hn ⟨1, mb, 0⟩ ⟨by show (1 : Nat) < _; omega, by show mb < _; omega, by show (0 : Nat) < _; omega⟩)
  have hmw : IntKind.u32.wrap many = (mb : Int) := by rw [IntKind.wrap_u32, hmb]
  clear h hd ht hr hk hn hBl hw1 k1 ht1 hj1 hbx h0 h1 h2 h3 h4 h5 h6 h7 hm0
  go_enter Tryz.func13, Tryz.ntmps13
  go_wp2_with fail
  rw [HW.out]
  refine HC.out.mono ?_
  rintro e w2 ⟨er, rfl, hp⟩
  have HP := Lw.hid hp
  clear hp
  go_wp2_with fail
  go_ret
  exact DoPost.of (by simp) K1.out HP.out
end
end Go.Proofs.YtgegjjnfcnalfaaGreatDoor
namespace Go.Proofs.YtgegjjnfcnalfaaGreatDoor
open Go Go.RowKit Go.Lw
set_option maxRecDepth 100000
set_option linter.unusedVariables false
set_option linter.unusedSimpArgs false
attribute [local go_sem] BA_toList
def A7.short (a : A7) : A7 := { a with t := a.t.take 60 }
def few7 (l : List A7) : List A7 := (l.take 10).map A7.short
theorem few7_snoc (l : List A7) (k : Nat) (hk : k < l.length) (h30 : k < 10) : few7 (l.take (k + 1)) = few7 (l.take k) ++ [l[k].short] := by
  unfold few7
  rw [take_snoc l k hk, List.take_append, List.map_append]
  have hl : (l.take k).length = k := by rw [List.length_take]; omega
  rw [hl, List.take_of_length_le (show [l[k]].length ≤ 10 - k by simp; omega)]; rfl
theorem few7_past (l : List A7) (k : Nat) (h40 : 10 ≤ k) : few7 (l.take (k + 1)) = few7 (l.take k) := by
  unfold few7
  rw [List.take_take, List.take_take, Nat.min_eq_left (by omega), Nat.min_eq_left (by omega)]
theorem few7_len (l : List A7) : (few7 l).length ≤ 10 := by unfold few7; simp; omega
theorem few7_short {l : List A7} {a : A7} (h : a ∈ few7 l) : a.t.length ≤ 60 := by
  unfold few7 at h
  obtain ⟨b, _, rfl⟩ := List.mem_map.1 h
  exact List.length_take_le _ _
theorem E7 : ElemT Tryz.prog 22 32 5 48 := by
  refine ElemT.of (z := .agg #[.int .i64 0, .int .i64 0, .int .i64 0, .int .i64 0, .string ⟨#[]⟩]) Tryz.underlying22 ?_ rfl (by decide)
  kernel_rfl
theorem one7 (a : A7) : ∀ u ∈ a.cells, u.oneCell' = true := by
  intro u hu
  simp only [A7.cells, List.mem_cons, List.not_mem_nil, or_false] at hu
  rcases hu with rfl | rfl | rfl | rfl | rfl <;> rfl
theorem BA_cut60 (t : List UInt8) : (BA t).extract 0 (min ((BA t).size : Int) 60).toNat = BA (t.take 60) := by
  rw [BA_size, BA_head]
  congr 1
  rw [show (min (t.length : Int) 60).toNat = min 60 t.length by omega]
  rw [List.take_eq_take_iff]; omega
theorem few7_rel {w wr w1 : World} {A B : Obj} {a ad : Option Addr} {n c cap : Nat} (hb : Kept (fun _ => False) w wr) (hf : ∀ b, blk (.slice a n c) b → w.heap.size ≤ b)
    (hg : ((wr.alloc A).alloc B).grownBy w1 (Value.slice a n c).ownBlock) (hfr : Fresh ((wr.alloc A).alloc B) (.slice a n c) (.slice ad (n + 1) cap)) :
    Kept (fun _ => False) w w1 ∧ ∀ b, blk (.slice ad (n + 1) cap) b → w.heap.size ≤ b := by
  have hz := hb.size
  refine ⟨((hb.alloc A).alloc B).grown hg (fun k hk hl => by have := hf k hk; omega), fun b hb' => ?_⟩
  rcases hfr b hb' with h | h
  · exact hf b h
  · simp at h; omega
set_option maxHeartbeats 4000000 in
theorem few_any (w : World) (x : Value) (l : List A7) (hr : Rd w 5 x l.length (l.flatMap A7.cells)) :
    Calls Tryz.prog 6 #[x, .int .i64 10] w fun e w' => ∃ v, e = .returned v ∧ w'.ownsRow 0 32 5 v (few7 l).length ((few7 l).flatMap A7.cells) ∧ Kept (fun _ => False) w w' ∧ ∀ b, blk v b → w.heap.size ≤ b := by
  obtain ⟨hlx, ad, cap, rfl, h1, h2, hc⟩ := id hr
  have HR := Lw.hid hr
  clear hlx hc hr
  unfold maxLen at h2
  obtain ⟨n, hn⟩ : ∃ n, l.length = n := ⟨_, rfl⟩
  have HN := Lw.hid hn
  rw [hn] at h1 HR ⊢
  clear hn
  go_enter Tryz.func6, Tryz.ntmps6
  go_wp2_with fail
  go_loopg [5, 10] n (fun gk v i wr => ∃ (k : Nat) (a : Option Addr) (c : Nat), gk = n - k ∧ k ≤ n ∧ i = .int .i64 (k : Int) ∧ v = .slice a (few7 (l.take k)).length c ∧ wr.ownsRow 0 32 5 v (few7 (l.take k)).length ((few7 (l.take k)).flatMap A7.cells) ∧ Kept (fun _ => False) w wr ∧ ∀ b, blk v b → w.heap.size ≤ b)
  case atStart => exact ⟨0, none, 0, rfl, Nat.zero_le _, rfl, by simp [few7], by simp [few7]; exact World.ownsRow_nil _ _ _ _, Kept.refl _ _, fun b h => by cases h⟩
  case round =>
    obtain ⟨k, a, c, rfl, hk, rfl, rfl, ho, hb, hf⟩ := hrel
    have HO := Lw.hid ho; have HB := Lw.hid hb; have HF := Lw.hid hf
    clear ho hb hf
    by_cases hlt : k < n
    · have hlt' : k < l.length := by rw [HN.out]; exact hlt
      have hrr := HR.out
      rw [← HN.out] at hrr
      obtain ⟨g, off, rfl, c0, cj⟩ := hrr.elem (fun _ _ => rfl) (by decide) k hlt'
      have c1 := cj 1 (by decide)
      have c2 := cj 2 (by decide)
      have c3 := cj 3 (by decide)
      have c4 := cj 4 (by decide)
      clear cj hrr
      obtain ⟨t, htt⟩ : ∃ t, l[k] = t := ⟨_, rfl⟩
      have HT := Lw.hid htt
      rw [htt] at c0 c1 c2 c3 c4
      simp only [A7.cells, List.getElem?_cons_zero, List.getElem?_cons_succ] at c0 c1 c2 c3 c4
      have b0 := HB.out.cell c0 (fun h => h)
      have b1 := HB.out.cell c1 (fun h => h)
      have b2 := HB.out.cell c2 (fun h => h)
      have b3 := HB.out.cell c3 (fun h => h)
      have b4 := HB.out.cell c4 (fun h => h)
      have hkd : decide ((k : Int) < (n : Int)) = true := by simp; omega
      have i0 : (0 : Int) ≤ (k : Int) := by omega
      have i1 : (k : Int) < (n : Int) := by omega
      have hkn : k + 1 ≤ n := hlt
      have hfl := few7_len (l.take k)
      clear c0 c1 c2 c3 c4 htt
      by_cases h40 : k < 10
      · have h40d : decide ((k : Int) < 10) = true := by simp; omega
        have HS' := Lw.hid (few7_snoc l k hlt' h40)
        have HCT := BA_cut60 t.t
        obtain ⟨f, hfe⟩ : ∃ f, few7 (l.take k) = f := ⟨_, rfl⟩
        rw [hfe] at HO HF HS' hfl ⊢
        obtain ⟨fn, hfn⟩ : ∃ fn, f.length = fn := ⟨_, rfl⟩
        have HFN := Lw.hid hfn
        rw [hfn] at HO HF hfl ⊢
        clear hfe hfn
        have HC : Hid (l[k].short.cells = [.int .i64 t.what, .int .i64 t.ch, .int .i64 t.many, .int .i64 t.bytes, .string (BA (t.t.take 60))]) := Lw.hid (by rw [HT.out]; rfl)
        go_wp2_with (at_builtin; refine wpList_app rfl _ _ _ rfl E7 (.slice a fn c) fn _ rfl ((HO.out.alloc _).alloc _) _ 1 _ rfl (Rd.lit _ [.int .i64 t.what, .int .i64 t.ch, .int .i64 t.many, .int .i64 t.bytes, .string (BA (t.t.take 60))] _ 5 _ 1 (by simp) rfl (by decide)) (one7 t.short) (by unfold maxLen; omega) (by omega) ?_; intro ad' cap' w1 ho' hg' hf'; obtain ⟨hb1, hf1⟩ := few7_rel HB.out HF.out hg' hf'; have HO' := Lw.hid ho'; have HB' := Lw.hid hb1; have HF' := Lw.hid hf1; clear ho' hb1 hf1 hg' hf')
        go_roundg (n - (k + 1))
        case measure => omega
        case rel => exact ⟨k + 1, ad', cap', rfl, hkn, by go_num, by rw [HS'.out, List.length_append, HFN.out]; rfl, by rw [HS'.out, List.length_append, HFN.out, List.flatMap_append, List.flatMap_singleton, HC.out]; exact HO'.out, HB'.out, HF'.out⟩
      · have h40d : decide ((k : Int) < 10) = false := by simp; omega
        have HP := Lw.hid (few7_past l k (by omega))
        have KA : ∀ o, Hid (Kept (fun _ => False) wr (wr.alloc o)) := fun o => Lw.hid ((Kept.refl _ wr).alloc o)
        go_wp2_with fail
        go_roundg (n - (k + 1))
        case measure => omega
        case rel => exact ⟨k + 1, a, c, rfl, hkn, by go_num, by rw [HP.out], by rw [HP.out]; exact own_kept (KA _).out HO.out (fun _ _ h => h), HB.out.trans (KA _).out (fun _ _ h => h), HF.out⟩
    · obtain rfl : k = n := by omega
      have hkd : decide ((k : Int) < (k : Int)) = false := by simp
      have htk : l.take k = l := List.take_of_length_le (by rw [HN.out]; exact Nat.le_refl _)
      rw [htk] at HO HF ⊢
      clear htk
      go_wp2_with fail
      go_ret
      exact ⟨_, rfl, HO.out, HB.out, HF.out⟩
end Go.Proofs.YtgegjjnfcnalfaaGreatDoor
