/- Of the proof of TopBooks: JP. -/
import Derived.Test.YtgegjjnfcnalfaaGreatDoorG32
import Derived.Test.YtgegjjnfcnalfaaGreatDoorG24
namespace Go.Proofs.YtgegjjnfcnalfaaGreatDoor
open Go Go.RowKit Go.Lw
set_option maxRecDepth 100000
set_option linter.unusedVariables false
set_option linter.unusedSimpArgs false
attribute [local go_sem] BA_toList
structure A7 where
  what : Int
  ch : Int
  many : Int
  bytes : Int
  t : List UInt8
def A7.cells (a : A7) : List Value := [.int .i64 a.what, .int .i64 a.ch, .int .i64 a.many, .int .i64 a.bytes, .string (BA a.t)]
def DoPost (w : World) (B : Nat → Prop) (j BL g : Nat) (D : Dsk) (rs : List Rc) (e : Ending) (w' : World) : Prop :=
  ∃ b, e = .returned (.bool b) ∧ ((b = false ∧ Kept (fun _ => False) w w') ∨ (b = true ∧ ∃ r, r.Fit (runJ rs) ∧ AOk w B j BL g D rs r w'))
theorem AOk.of_more {w w' : World} {B : Nat → Prop} {j BL g : Nat} {D : Dsk} {rs : List Rc} {r : Rc} (h : AOk w (fun k => B k ∨ w.heap.size ≤ k) j BL g D rs r w') : AOk w B j BL g D rs r w' := by
  obtain ⟨v', h1, h2⟩ := h
  exact ⟨v', h1.mono (fun i _ hi => hi.elim (fun h => h) (fun h => .inr h)), h2.mono (fun i hi h => h.elim (fun h => h) (fun h => by omega))⟩
theorem AOk.kept {w w1 w' : World} {B : Nat → Prop} {j BL g : Nat} {D : Dsk} {rs : List Rc} {r : Rc} (k : Kept (fun _ => False) w w1) (h : AOk w1 B j BL g D rs r w') : AOk w B j BL g D rs r w' := by
  obtain ⟨v', h4, h5⟩ := h
  exact ⟨v', h4.mono (fun i _ hi => hi.imp (fun h => h) (fun h => Nat.le_trans k.size h)), (k.mono (fun _ _ h => h.elim)).trans h5 (fun _ _ h => h)⟩
theorem DoPost.of {w w1 w' : World} {B : Nat → Prop} {j BL g : Nat} {D : Dsk} {rs : List Rc} {er : Int} {b : Bool} (hb : b = (er == 0)) (k : Kept (fun _ => False) w w1) (h : (er ≠ 0 ∧ Kept (fun _ => False) w1 w') ∨ (er = 0 ∧ ∃ r, r.Fit (runJ rs) ∧ AOk w1 B j BL g D rs r w')) : DoPost w B j BL g D rs (.returned (.bool b)) w' := by
  rcases h with ⟨h1, h2⟩ | ⟨h1, r, hr, h2⟩
  · exact ⟨b, rfl, .inl ⟨by rw [hb]; simpa using h1, k.trans h2 (fun _ _ h => h)⟩⟩
  · exact ⟨b, rfl, .inr ⟨by rw [hb, h1]; rfl, r, hr, h2.kept k⟩⟩
set_option maxHeartbeats 8000000 in
theorem does0 (w : World) (B : Nat → Prop) (j BL g : Nat) (v : Value) (D : Dsk) (rs : List Rc) (K : Nat) (h : JL w B j BL g v D rs) (hd : Rdy K D rs) (ht : Tab w) (hr : 89 * rs.length + 89 ≤ D.cap) (hk : K + 1 ≤ 1000000) (hn : rs.length < 100) (hBl : ∀ k, B k → k < w.heap.size) (ch many bt : Int) (t : List UInt8) (htl : t.length ≤ 60) :
    Calls Tryz.prog 13 #[.pointer (some ⟨j, 0, none⟩), .agg #[.int .i64 0, .int .i64 ch, .int .i64 many, .int .i64 bt, .string (BA t)]] w (DoPost w B j BL g D rs) := by
  obtain ⟨w1, hw1⟩ : ∃ w1, w.alloc (.cells #[.int .i64 0, .int .i64 ch, .int .i64 many, .int .i64 bt, .string (BA t)] 32) = w1 := ⟨_, rfl⟩
  have k1 : Kept (fun _ => False) w w1 := by rw [← hw1]; exact (Kept.refl _ w).alloc _
  have ht1 := ht.below (k1.below (Nat.le_refl _) (fun _ _ h => h))
  have hj1 := h.kept k1 (fun _ _ h => h)
  have hbx : w1.heap[w.heap.size]? = some (.cells #[.int .i64 0, .int .i64 ch, .int .i64 many, .int .i64 bt, .string (BA t)] 32 (0, 0)) := by rw [← hw1]; exact heap_alloc w _
  have HW := Lw.hid hw1; have K1 := Lw.hid k1; have HBX := Lw.hid hbx
  have HC := Lw.hid (intent_any w1 B j BL g v D rs K hj1 hd ht1 hr hk hn t htl)
  clear h hd ht hr hk hn hBl hw1 k1 ht1 hj1 hbx
  go_enter Tryz.func13, Tryz.ntmps13
  go_wp2_with fail
  rw [HW.out]
  refine HC.out.mono ?_
  rintro e w2 ⟨er, id, rfl, hp⟩
  have HP : Hid ((er ≠ 0 ∧ Kept (fun _ => False) w1 w2) ∨ (er = 0 ∧ ∃ r, r.Fit (runJ rs) ∧ AOk w1 B j BL g D rs r w2)) := Lw.hid (hp.imp (fun h => h) (fun h => ⟨h.1, h.2.2⟩))
  clear hp
  go_wp2_with fail
  go_ret
  exact DoPost.of (by simp) K1.out HP.out
set_option maxHeartbeats 8000000 in
theorem does1 (w : World) (B : Nat → Prop) (j BL g : Nat) (v : Value) (D : Dsk) (rs : List Rc) (K : Nat) (h : JL w B j BL g v D rs) (hd : Rdy K D rs) (ht : Tab w) (hr : 89 * rs.length + 89 ≤ D.cap) (hk : K + 1 ≤ 1000000) (hn : rs.length < 100) (hBl : ∀ k, B k → k < w.heap.size) (ch many bt : Int) (t : List UInt8) (htl : t.length ≤ 60) :
    Calls Tryz.prog 13 #[.pointer (some ⟨j, 0, none⟩), .agg #[.int .i64 1, .int .i64 ch, .int .i64 many, .int .i64 bt, .string (BA t)]] w (DoPost w B j BL g D rs) := by
  obtain ⟨w1, hw1⟩ : ∃ w1, w.alloc (.cells #[.int .i64 1, .int .i64 ch, .int .i64 many, .int .i64 bt, .string (BA t)] 32) = w1 := ⟨_, rfl⟩
  have k1 : Kept (fun _ => False) w w1 := by rw [← hw1]; exact (Kept.refl _ w).alloc _
  have ht1 := ht.below (k1.below (Nat.le_refl _) (fun _ _ h => h))
  have hj1 := h.kept k1 (fun _ _ h => h)
  have hbx : w1.heap[w.heap.size]? = some (.cells #[.int .i64 1, .int .i64 ch, .int .i64 many, .int .i64 bt, .string (BA t)] 32 (0, 0)) := by rw [← hw1]; exact heap_alloc w _
  have HW := Lw.hid hw1; have K1 := Lw.hid k1; have HBX := Lw.hid hbx
  have HC := Lw.hid (intent_any w1 B j BL g v D rs K hj1 hd ht1 hr hk hn t htl)
  clear h hd ht hr hk hn hBl hw1 k1 ht1 hj1 hbx
  go_enter Tryz.func13, Tryz.ntmps13
  go_wp2_with fail
  rw [HW.out]
  refine HC.out.mono ?_
  rintro e w2 ⟨er, id, rfl, hp⟩
  have HP : Hid ((er ≠ 0 ∧ Kept (fun _ => False) w1 w2) ∨ (er = 0 ∧ ∃ r, r.Fit (runJ rs) ∧ AOk w1 B j BL g D rs r w2)) := Lw.hid (hp.imp (fun h => h) (fun h => ⟨h.1, h.2.2⟩))
  clear hp
  go_wp2_with fail
  go_ret
  exact DoPost.of (by simp) K1.out HP.out
set_option maxHeartbeats 8000000 in
theorem does2 (w : World) (B : Nat → Prop) (j BL g : Nat) (v : Value) (D : Dsk) (rs : List Rc) (K : Nat) (h : JL w B j BL g v D rs) (hd : Rdy K D rs) (ht : Tab w) (hr : 89 * rs.length + 89 ≤ D.cap) (hk : K + 1 ≤ 1000000) (hn : rs.length < 100) (hBl : ∀ k, B k → k < w.heap.size) (ch many bt : Int) (t : List UInt8) (htl : t.length ≤ 60) :
    Calls Tryz.prog 13 #[.pointer (some ⟨j, 0, none⟩), .agg #[.int .i64 2, .int .i64 ch, .int .i64 many, .int .i64 bt, .string (BA t)]] w (DoPost w B j BL g D rs) := by
  obtain ⟨w1, hw1⟩ : ∃ w1, w.alloc (.cells #[.int .i64 2, .int .i64 ch, .int .i64 many, .int .i64 bt, .string (BA t)] 32) = w1 := ⟨_, rfl⟩
  have k1 : Kept (fun _ => False) w w1 := by rw [← hw1]; exact (Kept.refl _ w).alloc _
  have ht1 := ht.below (k1.below (Nat.le_refl _) (fun _ _ h => h))
  have hj1 := h.kept k1 (fun _ _ h => h)
  have hbx : w1.heap[w.heap.size]? = some (.cells #[.int .i64 2, .int .i64 ch, .int .i64 many, .int .i64 bt, .string (BA t)] 32 (0, 0)) := by rw [← hw1]; exact heap_alloc w _
  have HW := Lw.hid hw1; have K1 := Lw.hid k1; have HBX := Lw.hid hbx
  have HC := Lw.hid (put_any w1 B j BL g v D rs K hj1 hd ht1 hr hk hn ch t htl)
  clear h hd ht hr hk hn hBl hw1 k1 ht1 hj1 hbx
  go_enter Tryz.func13, Tryz.ntmps13
  go_wp2_with fail
  rw [HW.out]
  refine HC.out.mono ?_
  rintro e w2 ⟨er, rfl, hp⟩
  have HP := Lw.hid hp
  clear hp
  go_wp2_with fail
  go_ret
  exact DoPost.of (by simp) K1.out HP.out
set_option maxHeartbeats 8000000 in
theorem does3 (w : World) (B : Nat → Prop) (j BL g : Nat) (v : Value) (D : Dsk) (rs : List Rc) (K : Nat) (h : JL w B j BL g v D rs) (hd : Rdy K D rs) (ht : Tab w) (hr : 89 * rs.length + 89 ≤ D.cap) (hk : K + 1 ≤ 1000000) (hn : rs.length < 100) (hBl : ∀ k, B k → k < w.heap.size) (ch many bt : Int) (t : List UInt8) (htl : t.length ≤ 60) :
    Calls Tryz.prog 13 #[.pointer (some ⟨j, 0, none⟩), .agg #[.int .i64 3, .int .i64 ch, .int .i64 many, .int .i64 bt, .string (BA t)]] w (DoPost w B j BL g D rs) := by
  obtain ⟨w1, hw1⟩ : ∃ w1, w.alloc (.cells #[.int .i64 3, .int .i64 ch, .int .i64 many, .int .i64 bt, .string (BA t)] 32) = w1 := ⟨_, rfl⟩
  have k1 : Kept (fun _ => False) w w1 := by rw [← hw1]; exact (Kept.refl _ w).alloc _
  have ht1 := ht.below (k1.below (Nat.le_refl _) (fun _ _ h => h))
  have hj1 := h.kept k1 (fun _ _ h => h)
  have hbx : w1.heap[w.heap.size]? = some (.cells #[.int .i64 3, .int .i64 ch, .int .i64 many, .int .i64 bt, .string (BA t)] 32 (0, 0)) := by rw [← hw1]; exact heap_alloc w _
  have HW := Lw.hid hw1; have K1 := Lw.hid k1; have HBX := Lw.hid hbx
  have HC := Lw.hid (put_any w1 B j BL g v D rs K hj1 hd ht1 hr hk hn ch t htl)
  clear h hd ht hr hk hn hBl hw1 k1 ht1 hj1 hbx
  go_enter Tryz.func13, Tryz.ntmps13
  go_wp2_with fail
  rw [HW.out]
  refine HC.out.mono ?_
  rintro e w2 ⟨er, rfl, hp⟩
  have HP := Lw.hid hp
  clear hp
  go_wp2_with fail
  go_ret
  exact DoPost.of (by simp) K1.out HP.out
set_option maxHeartbeats 8000000 in
theorem does4 (w : World) (B : Nat → Prop) (j BL g : Nat) (v : Value) (D : Dsk) (rs : List Rc) (K : Nat) (h : JL w B j BL g v D rs) (hd : Rdy K D rs) (ht : Tab w) (hr : 89 * rs.length + 89 ≤ D.cap) (hk : K + 1 ≤ 1000000) (hn : rs.length < 100) (hBl : ∀ k, B k → k < w.heap.size) (ch many bt : Int) (t : List UInt8) (htl : t.length ≤ 60) :
    Calls Tryz.prog 13 #[.pointer (some ⟨j, 0, none⟩), .agg #[.int .i64 4, .int .i64 ch, .int .i64 many, .int .i64 bt, .string (BA t)]] w (DoPost w B j BL g D rs) := by
  obtain ⟨w1, hw1⟩ : ∃ w1, w.alloc (.cells #[.int .i64 4, .int .i64 ch, .int .i64 many, .int .i64 bt, .string (BA t)] 32) = w1 := ⟨_, rfl⟩
  have k1 : Kept (fun _ => False) w w1 := by rw [← hw1]; exact (Kept.refl _ w).alloc _
  have ht1 := ht.below (k1.below (Nat.le_refl _) (fun _ _ h => h))
  have hj1 := h.kept k1 (fun _ _ h => h)
  have hbx : w1.heap[w.heap.size]? = some (.cells #[.int .i64 4, .int .i64 ch, .int .i64 many, .int .i64 bt, .string (BA t)] 32 (0, 0)) := by rw [← hw1]; exact heap_alloc w _
  have HW := Lw.hid hw1; have K1 := Lw.hid k1; have HBX := Lw.hid hbx
  have HC := Lw.hid (put_any w1 B j BL g v D rs K hj1 hd ht1 hr hk hn ch t htl)
  clear h hd ht hr hk hn hBl hw1 k1 ht1 hj1 hbx
  go_enter Tryz.func13, Tryz.ntmps13
  go_wp2_with fail
  rw [HW.out]
  refine HC.out.mono ?_
  rintro e w2 ⟨er, rfl, hp⟩
  have HP := Lw.hid hp
  clear hp
  go_wp2_with fail
  go_ret
  exact DoPost.of (by simp) K1.out HP.out
set_option maxHeartbeats 8000000 in
theorem does5 (w : World) (B : Nat → Prop) (j BL g : Nat) (v : Value) (D : Dsk) (rs : List Rc) (K : Nat) (h : JL w B j BL g v D rs) (hd : Rdy K D rs) (ht : Tab w) (hr : 89 * rs.length + 89 ≤ D.cap) (hk : K + 1 ≤ 1000000) (hn : rs.length < 100) (hBl : ∀ k, B k → k < w.heap.size) (ch many bt : Int) (t : List UInt8) (htl : t.length ≤ 60) :
    Calls Tryz.prog 13 #[.pointer (some ⟨j, 0, none⟩), .agg #[.int .i64 5, .int .i64 ch, .int .i64 many, .int .i64 bt, .string (BA t)]] w (DoPost w B j BL g D rs) := by
  obtain ⟨w1, hw1⟩ : ∃ w1, w.alloc (.cells #[.int .i64 5, .int .i64 ch, .int .i64 many, .int .i64 bt, .string (BA t)] 32) = w1 := ⟨_, rfl⟩
  have k1 : Kept (fun _ => False) w w1 := by rw [← hw1]; exact (Kept.refl _ w).alloc _
  have ht1 := ht.below (k1.below (Nat.le_refl _) (fun _ _ h => h))
  have hj1 := h.kept k1 (fun _ _ h => h)
  have hbx : w1.heap[w.heap.size]? = some (.cells #[.int .i64 5, .int .i64 ch, .int .i64 many, .int .i64 bt, .string (BA t)] 32 (0, 0)) := by rw [← hw1]; exact heap_alloc w _
  have HW := Lw.hid hw1; have K1 := Lw.hid k1; have HBX := Lw.hid hbx
  have HC := Lw.hid (signal_any w1 B j BL g v D rs K hj1 hd ht1 hr hk hn many)
  clear h hd ht hr hk hn hBl hw1 k1 ht1 hj1 hbx
  go_enter Tryz.func13, Tryz.ntmps13
  go_wp2_with fail
  rw [HW.out]
  refine HC.out.mono ?_
  rintro e w2 ⟨er, rfl, hp⟩
  have HP := Lw.hid hp
  clear hp
  go_wp2_with fail
  go_ret
  exact DoPost.of (by simp) K1.out HP.out
set_option maxHeartbeats 8000000 in
theorem does6 (w : World) (B : Nat → Prop) (j BL g : Nat) (v : Value) (D : Dsk) (rs : List Rc) (K : Nat) (h : JL w B j BL g v D rs) (hd : Rdy K D rs) (ht : Tab w) (hr : 89 * rs.length + 89 ≤ D.cap) (hk : K + 1 ≤ 1000000) (hn : rs.length < 100) (hBl : ∀ k, B k → k < w.heap.size) (ch many bt : Int) (t : List UInt8) (htl : t.length ≤ 60) :
    Calls Tryz.prog 13 #[.pointer (some ⟨j, 0, none⟩), .agg #[.int .i64 6, .int .i64 ch, .int .i64 many, .int .i64 bt, .string (BA t)]] w (DoPost w B j BL g D rs) := by
  obtain ⟨w1, hw1⟩ : ∃ w1, w.alloc (.cells #[.int .i64 6, .int .i64 ch, .int .i64 many, .int .i64 bt, .string (BA t)] 32) = w1 := ⟨_, rfl⟩
  have k1 : Kept (fun _ => False) w w1 := by rw [← hw1]; exact (Kept.refl _ w).alloc _
  have ht1 := ht.below (k1.below (Nat.le_refl _) (fun _ _ h => h))
  have hj1 := h.kept k1 (fun _ _ h => h)
  have hbx : w1.heap[w.heap.size]? = some (.cells #[.int .i64 6, .int .i64 ch, .int .i64 many, .int .i64 bt, .string (BA t)] 32 (0, 0)) := by rw [← hw1]; exact heap_alloc w _
  have HW := Lw.hid hw1; have K1 := Lw.hid k1; have HBX := Lw.hid hbx
  have HJ := Lw.hid hj1; have HD := Lw.hid hd; have HT := Lw.hid ht1; have HBL := Lw.hid hBl
  obtain ⟨F, va, sp, h1, h2, h3⟩ := hj1.m
  have HJA := Lw.hid h1
  clear h hd ht hBl hw1 k1 ht1 hj1 hbx h1 h2 h3
  go_enter Tryz.func13, Tryz.ntmps13
  go_wp2_with fail
  rw [HW.out]
  refine (jstate_any w1 F j BL sp va _ HJA.out).mono ?_
  rintro e w2 ⟨q, rfl, hs2, k2⟩
  have HS2 := Lw.hid hs2; have K2 := Lw.hid (K1.out.trans k2 (fun _ _ h => h)); have K12 := Lw.hid k2
  have hb2 := k2.heap HBX.out (fun h => h)
  have HB2 := Lw.hid hb2
  have c4 := heap_cell hb2 4
  clear hs2 k2 hb2
  go_wp2_with fail
  refine (sset_any w2 _ q _ _ t HS2.out (by omega)).mono ?_
  rintro e w3 ⟨rfl, hs3, k3⟩
  have k3' : Kept (fun _ => False) w1 w3 := K12.out.trans k3 (fun i hi h => by omega)
  have HS3 := Lw.hid hs3; have K3 := Lw.hid (K1.out.trans k3' (fun _ _ h => h)); have K13 := Lw.hid k3'
  have hb3 := k3'.heap HBX.out (fun h => h)
  have c2 := heap_cell hb3 2
  have HC := Lw.hid (endc_any w3 B j BL g v D rs K (HJ.out.kept k3' (fun _ _ h => h)) HD.out (HT.out.below (k3'.below (Nat.le_refl _) (fun _ _ h => h))) hr hk hn _ q _ many t htl hs3 (fun k hk => by have := HBL.out k hk; have := K3.out.size; omega))
  clear hs3 k3 k3' hb3 c4
  go_wp2_with fail
  refine HC.out.mono ?_
  rintro e w4 ⟨er, rfl, hp⟩
  have HP : Hid ((er ≠ 0 ∧ Kept (fun _ => False) w3 w4) ∨ (er = 0 ∧ ∃ r, r.Fit (runJ rs) ∧ AOk w3 B j BL g D rs r w4)) := Lw.hid (hp.imp (fun h => h) (fun ⟨h, r, h2, h3⟩ => ⟨h, r, h2, h3.of_more⟩))
  clear hp
  go_wp2_with fail
  go_ret
  exact DoPost.of (by simp) K3.out HP.out
set_option maxHeartbeats 8000000 in
theorem does7 (w : World) (B : Nat → Prop) (j BL g : Nat) (v : Value) (D : Dsk) (rs : List Rc) (K : Nat) (h : JL w B j BL g v D rs) (hd : Rdy K D rs) (ht : Tab w) (hr : 89 * rs.length + 89 ≤ D.cap) (hk : K + 1 ≤ 1000000) (hn : rs.length < 100) (hBl : ∀ k, B k → k < w.heap.size) (ch many bt : Int) (t : List UInt8) (htl : t.length ≤ 60) :
    Calls Tryz.prog 13 #[.pointer (some ⟨j, 0, none⟩), .agg #[.int .i64 7, .int .i64 ch, .int .i64 many, .int .i64 bt, .string (BA t)]] w (DoPost w B j BL g D rs) := by
  obtain ⟨w1, hw1⟩ : ∃ w1, w.alloc (.cells #[.int .i64 7, .int .i64 ch, .int .i64 many, .int .i64 bt, .string (BA t)] 32) = w1 := ⟨_, rfl⟩
  have k1 : Kept (fun _ => False) w w1 := by rw [← hw1]; exact (Kept.refl _ w).alloc _
  have ht1 := ht.below (k1.below (Nat.le_refl _) (fun _ _ h => h))
  have hj1 := h.kept k1 (fun _ _ h => h)
  have hbx : w1.heap[w.heap.size]? = some (.cells #[.int .i64 7, .int .i64 ch, .int .i64 many, .int .i64 bt, .string (BA t)] 32 (0, 0)) := by rw [← hw1]; exact heap_alloc w _
  have HW := Lw.hid hw1; have K1 := Lw.hid k1; have HBX := Lw.hid hbx
  have HJ := Lw.hid hj1; have HD := Lw.hid hd; have HT := Lw.hid ht1; have HBL := Lw.hid hBl
  obtain ⟨F, va, sp, h1, h2, h3⟩ := hj1.m
  have HJA := Lw.hid h1
  clear h hd ht hBl hw1 k1 ht1 hj1 hbx h1 h2 h3
  go_enter Tryz.func13, Tryz.ntmps13
  go_wp2_with fail
  rw [HW.out]
  refine (jstate_any w1 F j BL sp va _ HJA.out).mono ?_
  rintro e w2 ⟨q, rfl, hs2, k2⟩
  have HS2 := Lw.hid hs2; have K2 := Lw.hid (K1.out.trans k2 (fun _ _ h => h)); have K12 := Lw.hid k2
  have hb2 := k2.heap HBX.out (fun h => h)
  have HB2 := Lw.hid hb2
  have c4 := heap_cell hb2 4
  clear hs2 k2 hb2
  go_wp2_with fail
  refine (sset_any w2 _ q _ _ t HS2.out (by omega)).mono ?_
  rintro e w3 ⟨rfl, hs3, k3⟩
  have k3' : Kept (fun _ => False) w1 w3 := K12.out.trans k3 (fun i hi h => by omega)
  have HS3 := Lw.hid hs3; have K3 := Lw.hid (K1.out.trans k3' (fun _ _ h => h)); have K13 := Lw.hid k3'
  have hb3 := k3'.heap HBX.out (fun h => h)
  have c2 := heap_cell hb3 2
  have HC := Lw.hid (endc_any w3 B j BL g v D rs K (HJ.out.kept k3' (fun _ _ h => h)) HD.out (HT.out.below (k3'.below (Nat.le_refl _) (fun _ _ h => h))) hr hk hn _ q _ many t htl hs3 (fun k hk => by have := HBL.out k hk; have := K3.out.size; omega))
  clear hs3 k3 k3' hb3 c4
  go_wp2_with fail
  refine HC.out.mono ?_
  rintro e w4 ⟨er, rfl, hp⟩
  have HP : Hid ((er ≠ 0 ∧ Kept (fun _ => False) w3 w4) ∨ (er = 0 ∧ ∃ r, r.Fit (runJ rs) ∧ AOk w3 B j BL g D rs r w4)) := Lw.hid (hp.imp (fun h => h) (fun ⟨h, r, h2, h3⟩ => ⟨h, r, h2, h3.of_more⟩))
  clear hp
  go_wp2_with fail
  go_ret
  exact DoPost.of (by simp) K3.out HP.out
set_option maxHeartbeats 8000000 in
theorem doesM (w : World) (B : Nat → Prop) (j BL g : Nat) (v : Value) (D : Dsk) (rs : List Rc) (K : Nat) (h : JL w B j BL g v D rs) (hd : Rdy K D rs) (ht : Tab w) (hr : 89 * rs.length + 89 ≤ D.cap) (hk : K + 1 ≤ 1000000) (hn : rs.length < 100) (hBl : ∀ k, B k → k < w.heap.size) (wh : Int) (ch many bt : Int) (t : List UInt8) (htl : t.length ≤ 60) (h0 : wh ≠ 0) (h1 : wh ≠ 1) (h2 : wh ≠ 2) (h3 : wh ≠ 3) (h4 : wh ≠ 4) (h5 : wh ≠ 5) (h6 : wh ≠ 6) (h7 : wh ≠ 7) :
    Calls Tryz.prog 13 #[.pointer (some ⟨j, 0, none⟩), .agg #[.int .i64 wh, .int .i64 ch, .int .i64 many, .int .i64 bt, .string (BA t)]] w (DoPost w B j BL g D rs) := by
  obtain ⟨w1, hw1⟩ : ∃ w1, w.alloc (.cells #[.int .i64 wh, .int .i64 ch, .int .i64 many, .int .i64 bt, .string (BA t)] 32) = w1 := ⟨_, rfl⟩
  have k1 : Kept (fun _ => False) w w1 := by rw [← hw1]; exact (Kept.refl _ w).alloc _
  have ht1 := ht.below (k1.below (Nat.le_refl _) (fun _ _ h => h))
  have hj1 := h.kept k1 (fun _ _ h => h)
  have hbx : w1.heap[w.heap.size]? = some (.cells #[.int .i64 wh, .int .i64 ch, .int .i64 many, .int .i64 bt, .string (BA t)] 32 (0, 0)) := by rw [← hw1]; exact heap_alloc w _
  have HW := Lw.hid hw1; have K1 := Lw.hid k1; have HBX := Lw.hid hbx
  have e0 : (wh == 0) = false := by simpa using h0
  have e1 : (wh == 1) = false := by simpa using h1
  have e2 : (wh == 2) = false := by simpa using h2
  have e3 : (wh == 3) = false := by simpa using h3
  have e4 : (wh == 4) = false := by simpa using h4
  have e5 : (wh == 5) = false := by simpa using h5
  have e6 : (wh == 6) = false := by simpa using h6
  have e7 : (wh == 7) = false := by simpa using h7
  have hm0 : 0 ≤ many % 4294967296 ∧ many % 4294967296 < 4294967296 := by omega
  obtain ⟨mb, hmb⟩ := Int.eq_ofNat_of_zero_le hm0.1
  have HC := Lw.hid (mark_any w1 B j BL g v D rs K hj1 hd ht1 hr hk hn ⟨1, mb, 0⟩ ⟨by show (1 : Nat) < _; omega, by show mb < _; omega, by show (0 : Nat) < _; omega⟩)
  have hmw : IntKind.u32.wrap many = (mb : Int) := by rw [IntKind.wrap_u32, hmb]
  clear h hd ht hr hk hn hBl hw1 k1 ht1 hj1 hbx h0 h1 h2 h3 h4 h5 h6 h7 hm0
  go_enter Tryz.func13, Tryz.ntmps13
  go_wp2_with fail
  rw [HW.out]
  refine HC.out.mono ?_
  rintro e w2 ⟨er, rfl, hp⟩
  have HP := Lw.hid hp
  clear hp
  go_wp2_with fail
  go_ret
  exact DoPost.of (by simp) K1.out HP.out
end Go.Proofs.YtgegjjnfcnalfaaGreatDoor
