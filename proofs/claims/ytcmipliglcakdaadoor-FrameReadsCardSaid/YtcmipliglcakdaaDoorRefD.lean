/- longwireref04.Decode, walked. -/
import Derived.Test.YtcmipliglcakdaaDoorRefDN
import Derived.Test.YtcmipliglcakdaaDoorFramePB
import Derived.Test.YtcmipliglcakdaaDoorSoftTail
namespace Go.Proofs.YtcmipliglcakdaaDoor
open Go Go.RowKit Go.Lw
set_option maxRecDepth 100000
/-- A whole frame of the document's, stored. -/
def rset (w : World) (b : Nat) (f : Frm) (v : Value) : World := ((((((w.setCell ⟨b, 0, none⟩ (.int .i64 (f.kind : Int))).setCell ⟨b, 1, none⟩ (.int .u32 (f.ses : Int))).setCell ⟨b, 2, none⟩ (.int .u32 (f.ep : Int))).setCell ⟨b, 3, none⟩ (.int .u32 (f.num : Int))).setCell ⟨b, 4, none⟩ (.int .u32 (f.ack : Int))).setCell ⟨b, 5, none⟩ (.int .u32 (f.mask : Int))).setCell ⟨b, 6, none⟩ v
theorem rset_other {w : World} {b k : Nat} {f : Frm} {v : Value} (h : k ≠ b) : (rset w b f v).heap[k]? = w.heap[k]? := by
  unfold rset
  rw [Below.heap_setCell _ _ _ _ h, Below.heap_setCell _ _ _ _ h, Below.heap_setCell _ _ _ _ h, Below.heap_setCell _ _ _ _ h, Below.heap_setCell _ _ _ _ h, Below.heap_setCell _ _ _ _ h, Below.heap_setCell _ _ _ _ h]
theorem rset_same {w : World} {b : Nat} {f : Frm} {v a0 a1 a2 a3 a4 a5 a6 : Value} {T : TypeId} (h : w.heap[b]? = some (.cells #[a0, a1, a2, a3, a4, a5, a6] T (0, 0))) :
    (rset w b f v).heap[b]? = some (.cells #[.int .i64 (f.kind : Int), .int .u32 (f.ses : Int), .int .u32 (f.ep : Int), .int .u32 (f.num : Int), .int .u32 (f.ack : Int), .int .u32 (f.mask : Int), v] T (0, 0)) := by
  have h0 := heap_set h 0 (.int .i64 (f.kind : Int))
  have h1 := heap_set h0 1 (.int .u32 (f.ses : Int))
  have h2 := heap_set h1 2 (.int .u32 (f.ep : Int))
  have h3 := heap_set h2 3 (.int .u32 (f.num : Int))
  have h4 := heap_set h3 4 (.int .u32 (f.ack : Int))
  have h5 := heap_set h4 5 (.int .u32 (f.mask : Int))
  have h6 := heap_set h5 6 v
  simp only [List.setIfInBounds_toArray, List.set_cons_zero, List.set_cons_succ] at h6
  exact h6
theorem rset_kept {S : Nat → Prop} {a w : World} {b : Nat} {f : Frm} {v : Value} (h : Kept S a w) (hb : b < a.heap.size → S b) : Kept S a (rset w b f v) :=
  ((((((h.set b 0 hb _).set b 1 hb _).set b 2 hb _).set b 3 hb _).set b 4 hb _).set b 5 hb _).set b 6 hb _
theorem rdb_cast3 {w : World} {ad : Option Addr} {n cap : Nat} {l : List UInt8} (hn : l.length = n) (h : RdB w (.slice ad l.length cap) l) : RdB w (.slice ad n cap) l := by subst hn; exact h
theorem rd_cast {w : World} {ad : Option Addr} {n cap : Nat} {l : List UInt8} (hn : l.length = n) (h : RdB w (.slice ad n cap) l) : Rd w 1 (.slice ad n cap) n (l.map bv) := by subst hn; exact h
/-- A new variable, a frame of the document's, at zero. -/
def IsNewR (b0 : Nat) (v : Value) (w : World) : Prop := ∃ g, v = .pointer (some ⟨g, 0, none⟩) ∧ b0 ≤ g ∧ w.heap[g]? = some (.cells #[.int .i64 (0 : Int), .int .u32 (0 : Int), .int .u32 (0 : Int), .int .u32 (0 : Int), .int .u32 (0 : Int), .int .u32 (0 : Int), .slice none 0 0] 48 (0, 0))
def stNewR (b0 : Nat) : Stable := ⟨IsNewR b0, fun _ _ _ hk ⟨g, h1, h2, h3⟩ => ⟨g, h1, h2, hk.heap h3 (fun h => h)⟩⟩
/-- Bytes in new memory. -/
def IsNewP (b0 : Nat) (L : List UInt8) (v : Value) (w : World) : Prop := ∃ ad cap, v = .slice ad L.length cap ∧ RdB w (.slice ad L.length cap) L ∧ ∀ k, blk (.slice ad L.length cap) k → b0 ≤ k
def stNewP (b0 : Nat) (L : List UInt8) : Stable := ⟨IsNewP b0 L, fun _ _ _ hk ⟨ad, cap, h1, h2, h3⟩ => ⟨ad, cap, h1, h2.kept hk (fun _ _ h => h), h3⟩⟩
set_option maxHeartbeats 8000000 in
theorem rdecode_any (w : World) (src : Value) (b : List UInt8) (hs : RdB w src b) (hl : b.length ≤ 70368744177664) :
    Calls Tryd.prog 49 #[src] w fun e w' => ∃ ad cap, e = .returned (.tuple #[(decF b).1.rval (.slice ad (decF b).1.p.length cap), .int .u64 ((decF b).2.1 : Int), .int .i64 ((decF b).2.2 : Int)]) ∧ RdB w' (.slice ad (decF b).1.p.length cap) (decF b).1.p ∧ Kept (fun _ => False) w w' ∧ ∀ k, blk (.slice ad (decF b).1.p.length cap) k → w.heap.size ≤ k := by
  obtain ⟨adb, capb, rfl, hs1, hs2, hs3⟩ := hs.open
  unfold maxLen at hs2
  have HS := Lw.hid hs
  have hde := decF_eq b
  have HDE := Lw.hid hde
  clear hs hde
  have refuse : ∀ (er : Nat), decF b = (zeroF, 0, er) → ∀ wz, Kept (fun _ => False) w wz → (∃ ad cap, Ending.returned (.tuple #[.agg #[.int .i64 0, .int .u32 0, .int .u32 0, .int .u32 0, .int .u32 0, .int .u32 0, .slice none 0 0], .int .u64 0, .int .i64 (er : Int)]) = .returned (.tuple #[(decF b).1.rval (.slice ad (decF b).1.p.length cap), .int .u64 ((decF b).2.1 : Int), .int .i64 ((decF b).2.2 : Int)]) ∧ RdB wz (.slice ad (decF b).1.p.length cap) (decF b).1.p ∧ Kept (fun _ => False) w wz ∧ ∀ k, blk (.slice ad (decF b).1.p.length cap) k → w.heap.size ≤ k) := fun er he wz hk => by
    rw [he]
    exact ⟨none, 0, rfl, RdB.nil _, hk, fun k hk => (blk_none hk).elim⟩
  have REF := Lw.hid refuse
  clear refuse
  obtain ⟨n, hn⟩ : ∃ n, b.length = n := ⟨_, rfl⟩
  have HN := Lw.hid hn
  have HS3 := Lw.hid hs3
  clear hs3
  rw [hn] at hs1 hl ⊢
  clear hn
  by_cases h35 : n < 35
  · have HQ : Hid (decF b = (zeroF, 0, 4)) := Lw.hid (by rw [HDE.out, HN.out, if_pos (by omega)])
    go_enter Tryd.func49, Tryd.ntmps49
    go_wp2_with fail
    exact bodyPost_ret (v := .tuple #[.agg #[.int .i64 0, .int .u32 0, .int .u32 0, .int .u32 0, .int .u32 0, .int .u32 0, .slice none 0 0], .int .u64 0, .int .i64 4]) (by simp [results, go_sem]) rfl (REF.out 4 HQ.out _ ((Kept.refl _ w).alloc _))
  obtain ⟨P, hP⟩ : ∃ P, plen b = P := ⟨_, rfl⟩
  have HP := Lw.hid hP
  have hP9 : P < 65536 := by
    rw [← hP]; unfold plen
    have h1 := beVal_lt ((b.drop 21).take 2)
    have h2 : ((b.drop 21).take 2).length = 2 := by simp; have := HN.out; omega
    rw [h2] at h1; exact h1
  clear hP
  go_enter Tryd.func49, Tryd.ntmps49
  have rz := heap_alloc w (.cells #[.int .i64 (0 : Int), .int .u32 (0 : Int), .int .u32 (0 : Int), .int .u32 (0 : Int), .int .u32 (0 : Int), .int .u32 (0 : Int), .slice none 0 0] 48 (0, 0))
  go_wp2_with (refine wpList_slice_lh rfl _ _ _ _ rfl EB (.slice adb n capb) n _ .i64 .i64 21 23 21 23 rfl rfl rfl (rd_cast HN.out ((rdb_cast3 HN.out HS.out).alloc _)) rfl rfl (by decide) (by omega) ?_; intro ad1 cap1 hr1 hk1; have R1 := Lw.hid (RdB.of_mid (by rw [HN.out]; omega) hr1); clear hr1 hk1)
  refine (number04_any _ _ ((b.drop 21).take 2) R1.out (by rw [List.length_take]; omega)).mono ?_
  rintro e w1 ⟨rfl, rfl⟩
  have hPv : beVal ((b.drop 21).take 2) = P := HP.out
  rw [hPv]
  clear hPv R1
  have K1 := Lw.hid ((Kept.refl (fun _ => False) w).alloc (.cells #[.int .i64 (0 : Int), .int .u32 (0 : Int), .int .u32 (0 : Int), .int .u32 (0 : Int), .int .u32 (0 : Int), .int .u32 (0 : Int), .slice none 0 0] 48 (0, 0)))
  have RZ := Lw.hid rz
  clear rz
  generalize w.alloc (.cells #[.int .i64 (0 : Int), .int .u32 (0 : Int), .int .u32 (0 : Int), .int .u32 (0 : Int), .int .u32 (0 : Int), .int .u32 (0 : Int), .slice none 0 0] 48 (0, 0)) = w1 at *
  have hd35 : decide ((n : Int) < 35) = false := by simp; omega
  have hsz : w.heap.size < w1.heap.size := heap_lt RZ.out
  by_cases h4 : n < 35 + P
  · have hlt : decide ((n : Int) < 35 + (P : Int)) = true := by simp; omega
    have HQ : Hid (decF b = (zeroF, 0, 4)) := Lw.hid (by rw [HDE.out, HN.out, HP.out, if_pos (.inr h4)])
    have hrz := RZ.out
    have c0 := heap_cell hrz 0
    have cf0 := heap_free hrz 0
    have c1 := heap_cell hrz 1
    have cf1 := heap_free hrz 1
    have c2 := heap_cell hrz 2
    have cf2 := heap_free hrz 2
    have c3 := heap_cell hrz 3
    have cf3 := heap_free hrz 3
    have c4 := heap_cell hrz 4
    have cf4 := heap_free hrz 4
    have c5 := heap_cell hrz 5
    have cf5 := heap_free hrz 5
    have c6 := heap_cell hrz 6
    have cf6 := heap_free hrz 6
    have hset : ∀ (G : World → Prop), (∀ wz, wz.heap[w.heap.size]? = some (.cells #[.int .i64 (0 : Int), .int .u32 (0 : Int), .int .u32 (0 : Int), .int .u32 (0 : Int), .int .u32 (0 : Int), .int .u32 (0 : Int), .slice none 0 0] 48 (0, 0)) → Kept (fun _ => False) w wz → G wz) → G (((((((w1.setCell ⟨w.heap.size, 0, none⟩ (.int .i64 0)).setCell ⟨w.heap.size, 1, none⟩ (.int .u32 0)).setCell ⟨w.heap.size, 2, none⟩ (.int .u32 0)).setCell ⟨w.heap.size, 3, none⟩ (.int .u32 0)).setCell ⟨w.heap.size, 4, none⟩ (.int .u32 0)).setCell ⟨w.heap.size, 5, none⟩ (.int .u32 0)).setCell ⟨w.heap.size, 6, none⟩ (.slice none 0 0)) := fun G h => h (rset w1 w.heap.size zeroF (.slice none 0 0)) (rset_same hrz) (rset_kept K1.out (fun h => by omega))
    have HSET := Lw.hid hset
    clear hset hrz
    go_wp2_with fail
    refine HSET.out _ (fun wz hz hkz => ?_)
    have z0 := heap_cell hz 0
    have z1 := heap_cell hz 1
    have z2 := heap_cell hz 2
    have z3 := heap_cell hz 3
    have z4 := heap_cell hz 4
    have z5 := heap_cell hz 5
    have z6 := heap_cell hz 6
    exact bodyPost_ret (v := .tuple #[.agg #[.int .i64 0, .int .u32 0, .int .u32 0, .int .u32 0, .int .u32 0, .int .u32 0, .slice none 0 0], .int .u64 0, .int .i64 4]) (by simp [results, go_sem, z0, z1, z2, z3, z4, z5, z6]) rfl (REF.out 4 HQ.out wz hkz)
  have hd4 : decide ((n : Int) < 35 + (P : Int)) = false := by simp; omega
  by_cases h5 : 35 + P < n
  · have hlt : decide (35 + (P : Int) < (n : Int)) = true := by simp; omega
    have HQ : Hid (decF b = (zeroF, 0, 5)) := Lw.hid (by rw [HDE.out, HN.out, HP.out, if_neg (by omega), if_pos h5])
    have hrz := RZ.out
    have c0 := heap_cell hrz 0
    have cf0 := heap_free hrz 0
    have c1 := heap_cell hrz 1
    have cf1 := heap_free hrz 1
    have c2 := heap_cell hrz 2
    have cf2 := heap_free hrz 2
    have c3 := heap_cell hrz 3
    have cf3 := heap_free hrz 3
    have c4 := heap_cell hrz 4
    have cf4 := heap_free hrz 4
    have c5 := heap_cell hrz 5
    have cf5 := heap_free hrz 5
    have c6 := heap_cell hrz 6
    have cf6 := heap_free hrz 6
    have hset : ∀ (G : World → Prop), (∀ wz, wz.heap[w.heap.size]? = some (.cells #[.int .i64 (0 : Int), .int .u32 (0 : Int), .int .u32 (0 : Int), .int .u32 (0 : Int), .int .u32 (0 : Int), .int .u32 (0 : Int), .slice none 0 0] 48 (0, 0)) → Kept (fun _ => False) w wz → G wz) → G (((((((w1.setCell ⟨w.heap.size, 0, none⟩ (.int .i64 0)).setCell ⟨w.heap.size, 1, none⟩ (.int .u32 0)).setCell ⟨w.heap.size, 2, none⟩ (.int .u32 0)).setCell ⟨w.heap.size, 3, none⟩ (.int .u32 0)).setCell ⟨w.heap.size, 4, none⟩ (.int .u32 0)).setCell ⟨w.heap.size, 5, none⟩ (.int .u32 0)).setCell ⟨w.heap.size, 6, none⟩ (.slice none 0 0)) := fun G h => h (rset w1 w.heap.size zeroF (.slice none 0 0)) (rset_same hrz) (rset_kept K1.out (fun h => by omega))
    have HSET := Lw.hid hset
    clear hset hrz
    go_wp2_with fail
    refine HSET.out _ (fun wz hz hkz => ?_)
    have z0 := heap_cell hz 0
    have z1 := heap_cell hz 1
    have z2 := heap_cell hz 2
    have z3 := heap_cell hz 3
    have z4 := heap_cell hz 4
    have z5 := heap_cell hz 5
    have z6 := heap_cell hz 6
    exact bodyPost_ret (v := .tuple #[.agg #[.int .i64 0, .int .u32 0, .int .u32 0, .int .u32 0, .int .u32 0, .int .u32 0, .slice none 0 0], .int .u64 0, .int .i64 5]) (by simp [results, go_sem, z0, z1, z2, z3, z4, z5, z6]) rfl (REF.out 5 HQ.out wz hkz)
  have hd5 : decide (35 + (P : Int) < (n : Int)) = false := by simp; omega
  obtain ⟨sm, hsm⟩ : ∃ sm, beVal (b.drop (31 + P)) = sm := ⟨_, rfl⟩
  obtain ⟨cr, hcr⟩ : ∃ cr, crcN (b.take (31 + P)) = cr := ⟨_, rfl⟩
  have hcr9 : cr < 4294967296 := by rw [← hcr]; exact crcN_lt _
  have HSM := Lw.hid hsm; have HCR := Lw.hid hcr
  clear hsm hcr
  have h310 : (0 : Int) ≤ 31 + (P : Int) := by omega
  go_wp2_with fail
  refine wp_region_tail 12 [stV (.slice adb n capb), stV (.int .i64 (P : Int)), stV (.int .i64 (31 + (P : Int))), stB (b.drop (31 + P)), stV (.int .u64 (sm : Int)), stV (.slice adb n capb), stV (.int .i64 (P : Int)), stV (.int .i64 (31 + (P : Int))), stB (b.take (31 + P)), stV (.int .u32 (cr : Int)), stV (.int .u64 (cr : Int)), stV (.bool ((sm : Int) != (cr : Int)))] (by kernel_rfl) (by kernel_rfl) ?_ ?_
  · -- each operation by itself
    refine ssteps_cons (fun a' w' hI hag hf K hK => ?_) ?_
    · have s0 := hag.same 0 (by decide)
      clear hag
      go_wp2_with fail
      exact hK _ _ hI (Kept.refl _ _) rfl
    refine ssteps_cons (fun a' w' hI hag hf K hK => ?_) ?_
    · have s5 := hag.same 5 (by decide)
      clear hag
      go_wp2_with fail
      exact hK _ _ hI (Kept.refl _ _) rfl
    refine ssteps_cons (fun a' w' hI hag hf K hK => ?_) ?_
    · obtain ⟨⟨_, h1, rfl⟩, -⟩ : SFacts _ _ a' w' [1] := hf
      clear hag
      go_wp2_with fail
      exact hK _ _ hI (Kept.refl _ _) rfl
    refine ssteps_cons (fun a' w' hI hag hf K hK => ?_) ?_
    · obtain ⟨⟨_, h0, rfl⟩, ⟨_, h2, rfl⟩, -⟩ : SFacts _ _ a' w' [0, 2] := hf
      clear hag
      refine wpList_slice_l rfl _ _ _ rfl EB (.slice adb n capb) n _ .i64 (31 + (P : Int) : Int) (31 + P) (by simp [Act.eval, h0]) (by simp [Act.eval, h2]) (rd_cast HN.out ((rdb_cast3 HN.out HS.out).kept (K1.out.trans hI (fun _ _ h => h)) (fun _ _ h => h))) (by omega) (by omega) (fun ad c hr hb => ?_)
      exact hK _ _ hI (Kept.refl _ _) (RdB.of_drop (n := 31 + P) (by rw [HN.out]; exact hr))
    refine ssteps_cons (fun a' w' hI hag hf K hK => ?_) ?_
    · obtain ⟨⟨v3, h3, e3⟩, -⟩ : SFacts _ _ a' w' [3] := hf
      clear hag
      go_wp2_with fail
      refine (number04_any _ _ (b.drop (31 + P)) e3 (by rw [List.length_drop, HN.out]; omega)).mono ?_
      rw [HSM.out]
      rintro e wn ⟨rfl, rfl⟩
      go_wp2_with fail
      exact hK _ _ hI (Kept.refl _ _) rfl
    refine ssteps_cons (fun a' w' hI hag hf K hK => ?_) ?_
    · have s0 := hag.same 0 (by decide)
      clear hag
      go_wp2_with fail
      exact hK _ _ hI (Kept.refl _ _) rfl
    refine ssteps_cons (fun a' w' hI hag hf K hK => ?_) ?_
    · have s5 := hag.same 5 (by decide)
      clear hag
      go_wp2_with fail
      exact hK _ _ hI (Kept.refl _ _) rfl
    refine ssteps_cons (fun a' w' hI hag hf K hK => ?_) ?_
    · obtain ⟨⟨_, h6, rfl⟩, -⟩ : SFacts _ _ a' w' [6] := hf
      clear hag
      go_wp2_with fail
      exact hK _ _ hI (Kept.refl _ _) rfl
    refine ssteps_cons (fun a' w' hI hag hf K hK => ?_) ?_
    · obtain ⟨⟨_, h5, rfl⟩, ⟨_, h7, rfl⟩, -⟩ : SFacts _ _ a' w' [5, 7] := hf
      clear hag
      refine wpList_slice_h rfl _ _ _ rfl EB (.slice adb n capb) n _ .i64 (31 + (P : Int) : Int) (31 + P) (by simp [Act.eval, h5]) (by simp [Act.eval, h7]) (rd_cast HN.out ((rdb_cast3 HN.out HS.out).kept (K1.out.trans hI (fun _ _ h => h)) (fun _ _ h => h))) (by omega) (by omega) (fun ad c hr hb => ?_)
      exact hK _ _ hI (Kept.refl _ _) (RdB.of_take (by rw [HN.out]; omega) hr)
    refine ssteps_cons (fun a' w' hI hag hf K hK => ?_) ?_
    · obtain ⟨⟨v8, h8, e8⟩, -⟩ : SFacts _ _ a' w' [8, 4] := hf
      clear hag
      go_wp2_with fail
      refine (refCrc_any _ (b.take (31 + P)) _ e8).mono ?_
      rw [HCR.out]
      rintro e wn ⟨rfl, rfl⟩
      go_wp2_with fail
      exact hK _ _ hI (Kept.refl _ _) rfl
    refine ssteps_cons (fun a' w' hI hag hf K hK => ?_) ?_
    · obtain ⟨⟨_, h9, rfl⟩, -⟩ : SFacts _ _ a' w' [9] := hf
      clear hag
      go_wp2_with fail
      exact hK _ _ hI (Kept.refl _ _) rfl
    refine ssteps_cons (fun a' w' hI hag hf K hK => ?_) ?_
    · obtain ⟨⟨_, h4, rfl⟩, ⟨_, h10, rfl⟩, -⟩ : SFacts _ _ a' w' [4, 10] := hf
      clear hag
      go_wp2_with fail
      exact hK _ _ hI (Kept.refl _ _) rfl
    exact trivial
  · intro vs w2 hI hvs
    have q0 : vs 0 = (.slice adb n capb) := hvs 0 _ _ rfl rfl
    have q1 : vs 1 = (.int .i64 (P : Int)) := hvs 1 _ _ rfl rfl
    have q2 : vs 2 = (.int .i64 (31 + (P : Int))) := hvs 2 _ _ rfl rfl
    have q3 := hvs 3 _ _ rfl rfl
    have q4 : vs 4 = (.int .u64 (sm : Int)) := hvs 4 _ _ rfl rfl
    have q5 : vs 5 = (.slice adb n capb) := hvs 5 _ _ rfl rfl
    have q6 : vs 6 = (.int .i64 (P : Int)) := hvs 6 _ _ rfl rfl
    have q7 : vs 7 = (.int .i64 (31 + (P : Int))) := hvs 7 _ _ rfl rfl
    have q8 := hvs 8 _ _ rfl rfl
    have q9 : vs 9 = (.int .u32 (cr : Int)) := hvs 9 _ _ rfl rfl
    have q10 : vs 10 = (.int .u64 (cr : Int)) := hvs 10 _ _ rfl rfl
    have q11 : vs 11 = (.bool ((sm : Int) != (cr : Int))) := hvs 11 _ _ rfl rfl
    clear hvs
    simp only [List.take_succ_cons, List.take_zero, List.drop_succ_cons, List.drop_zero, putAll, Act.put, List.setIfInBounds_toArray, List.set_cons_zero, List.set_cons_succ, Nat.reduceAdd, q0, q1, q2, q4, q5, q6, q7, q9, q10, q11]
    clear q0 q1 q2 q4 q5 q6 q7 q9 q10 q11
    generalize vs 3 = x3 at *
    generalize vs 8 = x8 at *
    have K2 := Lw.hid (K1.out.trans hI (fun _ _ h => h))
    have RZ2 := Lw.hid (hI.heap RZ.out (fun h => h))
    have hsz2 : w.heap.size < w2.heap.size := heap_lt RZ2.out
    clear hI K1 RZ q3 q8
    have hsum : (fields b).sum = sm := by
      unfold fields
      simp only
      rw [HP.out, List.take_of_length_le (by rw [List.length_drop, HN.out]; omega)]
      exact HSM.out
    have hlen4 : b.length - 4 = 31 + P := by rw [HN.out]; omega
    have HSU := Lw.hid hsum; have HL4 := Lw.hid hlen4
    clear hsum hlen4
    by_cases hse : sm = cr
    rotate_left
    · have hne : ((sm : Int) != (cr : Int)) = true := by rw [bne_iff_ne]; omega
      rw [hne]
      have HQ : Hid (decF b = (zeroF, 0, 11)) := Lw.hid (by rw [HDE.out, HN.out, HP.out, if_neg (by omega), if_neg (by omega), if_pos (by rw [HSU.out, ← HN.out, HL4.out, HCR.out]; exact hse)])
      have hrz := RZ2.out
      have c0 := heap_cell hrz 0
      have cf0 := heap_free hrz 0
      have c1 := heap_cell hrz 1
      have cf1 := heap_free hrz 1
      have c2 := heap_cell hrz 2
      have cf2 := heap_free hrz 2
      have c3 := heap_cell hrz 3
      have cf3 := heap_free hrz 3
      have c4 := heap_cell hrz 4
      have cf4 := heap_free hrz 4
      have c5 := heap_cell hrz 5
      have cf5 := heap_free hrz 5
      have c6 := heap_cell hrz 6
      have cf6 := heap_free hrz 6
      have hset : ∀ (G : World → Prop), (∀ wz, wz.heap[w.heap.size]? = some (.cells #[.int .i64 (0 : Int), .int .u32 (0 : Int), .int .u32 (0 : Int), .int .u32 (0 : Int), .int .u32 (0 : Int), .int .u32 (0 : Int), .slice none 0 0] 48 (0, 0)) → Kept (fun _ => False) w wz → G wz) → G (((((((w2.setCell ⟨w.heap.size, 0, none⟩ (.int .i64 0)).setCell ⟨w.heap.size, 1, none⟩ (.int .u32 0)).setCell ⟨w.heap.size, 2, none⟩ (.int .u32 0)).setCell ⟨w.heap.size, 3, none⟩ (.int .u32 0)).setCell ⟨w.heap.size, 4, none⟩ (.int .u32 0)).setCell ⟨w.heap.size, 5, none⟩ (.int .u32 0)).setCell ⟨w.heap.size, 6, none⟩ (.slice none 0 0)) := fun G h => h (rset w2 w.heap.size zeroF (.slice none 0 0)) (rset_same hrz) (rset_kept K2.out (fun h => by omega))
      have HSET := Lw.hid hset
      clear hset hrz
      go_wp2_with fail
      refine HSET.out _ (fun wz hz hkz => ?_)
      have z0 := heap_cell hz 0
      have z1 := heap_cell hz 1
      have z2 := heap_cell hz 2
      have z3 := heap_cell hz 3
      have z4 := heap_cell hz 4
      have z5 := heap_cell hz 5
      have z6 := heap_cell hz 6
      exact bodyPost_ret (v := .tuple #[.agg #[.int .i64 0, .int .u32 0, .int .u32 0, .int .u32 0, .int .u32 0, .int .u32 0, .slice none 0 0], .int .u64 0, .int .i64 11]) (by simp [results, go_sem, z0, z1, z2, z3, z4, z5, z6]) rfl (REF.out 11 HQ.out wz hkz)
    have HSE : Hid ((fields b).sum = crcN (b.take (b.length - 4))) := Lw.hid (by rw [HSU.out, HL4.out, HCR.out]; exact hse)
    have hne : ((sm : Int) != (cr : Int)) = false := by rw [hse]; simp
    rw [hne]
    clear hne hse HSM HCR HSU HL4 hcr9
    obtain ⟨g0, o0, rfl, hc0⟩ := HS3.out 0 (by rw [HN.out]; omega)
    obtain ⟨k0, hk0⟩ : ∃ k, beVal (b.take 1) = k := ⟨_, rfl⟩
    have hb0 : (b[0]'(by rw [HN.out]; omega)).toNat = k0 := by
      rw [← hk0]
      cases b with
      | nil => have := HN.out; simp at this; omega
      | cons x r => simp [beVal]
    rw [hb0, Nat.add_zero] at hc0
    have hk9 : k0 < 256 := by rw [← hb0]; exact UInt8.toNat_lt _
    clear hb0
    have HC0 := Lw.hid (K2.out.cell hc0 (fun h => h)); have HK0 := Lw.hid hk0
    clear hc0 hk0
    obtain ⟨s, hs⟩ : ∃ v, beVal ((b.drop 1).take 4) = v := ⟨_, rfl⟩
    have hs9 : s < 4294967296 := by
      have h1 := beVal_lt ((b.drop 1).take 4)
      have h2 : ((b.drop 1).take 4).length = 4 := by rw [List.length_take, List.length_drop, HN.out]; omega
      rw [h2] at h1; omega
    have Vs := Lw.hid hs
    clear hs
    obtain ⟨e, he⟩ : ∃ v, beVal ((b.drop 5).take 4) = v := ⟨_, rfl⟩
    have he9 : e < 4294967296 := by
      have h1 := beVal_lt ((b.drop 5).take 4)
      have h2 : ((b.drop 5).take 4).length = 4 := by rw [List.length_take, List.length_drop, HN.out]; omega
      rw [h2] at h1; omega
    have Ve := Lw.hid he
    clear he
    obtain ⟨nu, hnu⟩ : ∃ v, beVal ((b.drop 9).take 4) = v := ⟨_, rfl⟩
    have hnu9 : nu < 4294967296 := by
      have h1 := beVal_lt ((b.drop 9).take 4)
      have h2 : ((b.drop 9).take 4).length = 4 := by rw [List.length_take, List.length_drop, HN.out]; omega
      rw [h2] at h1; omega
    have Vnu := Lw.hid hnu
    clear hnu
    obtain ⟨a, ha⟩ : ∃ v, beVal ((b.drop 13).take 4) = v := ⟨_, rfl⟩
    have ha9 : a < 4294967296 := by
      have h1 := beVal_lt ((b.drop 13).take 4)
      have h2 : ((b.drop 13).take 4).length = 4 := by rw [List.length_take, List.length_drop, HN.out]; omega
      rw [h2] at h1; omega
    have Va := Lw.hid ha
    clear ha
    obtain ⟨m, hm⟩ : ∃ v, beVal ((b.drop 17).take 4) = v := ⟨_, rfl⟩
    have hm9 : m < 4294967296 := by
      have h1 := beVal_lt ((b.drop 17).take 4)
      have h2 : ((b.drop 17).take 4).length = 4 := by rw [List.length_take, List.length_drop, HN.out]; omega
      rw [h2] at h1; omega
    have Vm := Lw.hid hm
    clear hm
    have hi0 : (0 : Int) < (n : Int) := by omega
    have hi1 : (5 : Int) ≤ (n : Int) := by omega
    have hi2 : (9 : Int) ≤ (n : Int) := by omega
    have hi3 : (13 : Int) ≤ (n : Int) := by omega
    have hi4 : (17 : Int) ≤ (n : Int) := by omega
    have hi5 : (21 : Int) ≤ (n : Int) := by omega
    go_wp2_with fail
    refine wp_region_tail 26 [stV (.slice (some ⟨g0, o0, none⟩) n capb), stV (.pointer (some ⟨g0, o0, none⟩)), stV (.int .u8 (k0 : Int)), stV (.int .i64 (k0 : Int)), stV (.slice (some ⟨g0, o0, none⟩) n capb), stB ((b.drop 1).take 4), stV (.int .u64 (s : Int)), stV (.int .u32 (s : Int)), stV (.slice (some ⟨g0, o0, none⟩) n capb), stB ((b.drop 5).take 4), stV (.int .u64 (e : Int)), stV (.int .u32 (e : Int)), stV (.slice (some ⟨g0, o0, none⟩) n capb), stB ((b.drop 9).take 4), stV (.int .u64 (nu : Int)), stV (.int .u32 (nu : Int)), stV (.slice (some ⟨g0, o0, none⟩) n capb), stB ((b.drop 13).take 4), stV (.int .u64 (a : Int)), stV (.int .u32 (a : Int)), stV (.slice (some ⟨g0, o0, none⟩) n capb), stB ((b.drop 17).take 4), stV (.int .u64 (m : Int)), stV (.int .u32 (m : Int)), stV (.agg #[.int .i64 (k0 : Int), .int .u32 (s : Int), .int .u32 (e : Int), .int .u32 (nu : Int), .int .u32 (a : Int), .int .u32 (m : Int), .slice none 0 0]), stNewR w2.heap.size] (by kernel_rfl) (by kernel_rfl) ?_ ?_
    · -- each operation by itself
      refine ssteps_cons (fun a' w' hI hag hf K hK => ?_) ?_
      · have s0 := hag.same 0 (by decide)
        clear hag
        go_wp2_with fail
        exact hK _ _ hI (Kept.refl _ _) rfl
      refine ssteps_cons (fun a' w' hI hag hf K hK => ?_) ?_
      · obtain ⟨⟨_, h0, rfl⟩, -⟩ : SFacts _ _ a' w' [0] := hf
        clear hag
        go_wp2_with fail
        exact hK _ _ hI (Kept.refl _ _) rfl
      refine ssteps_cons (fun a' w' hI hag hf K hK => ?_) ?_
      · obtain ⟨⟨_, h1, rfl⟩, -⟩ : SFacts _ _ a' w' [1] := hf
        clear hag
        have g0c := hI.cell HC0.out (fun h => h)
        go_wp2_with fail
        exact hK _ _ hI (Kept.refl _ _) rfl
      refine ssteps_cons (fun a' w' hI hag hf K hK => ?_) ?_
      · obtain ⟨⟨_, h2, rfl⟩, -⟩ : SFacts _ _ a' w' [2] := hf
        clear hag
        go_wp2_with fail
        exact hK _ _ hI (Kept.refl _ _) rfl
      refine ssteps_cons (fun a' w' hI hag hf K hK => ?_) ?_
      · have s0 := hag.same 0 (by decide)
        clear hag
        go_wp2_with fail
        exact hK _ _ hI (Kept.refl _ _) rfl
      refine ssteps_cons (fun a' w' hI hag hf K hK => ?_) ?_
      · obtain ⟨⟨_, h4, rfl⟩, -⟩ : SFacts _ _ a' w' [4] := hf
        clear hag
        refine wpList_slice_lh rfl _ _ _ _ rfl EB (.slice (some ⟨g0, o0, none⟩) n capb) n _ .i64 .i64 (1 : Int) (5 : Int) (1) (5) (by simp [Act.eval, h4]) rfl rfl (rd_cast HN.out ((rdb_cast3 HN.out HS.out).kept (K2.out.trans hI (fun _ _ h => h)) (fun _ _ h => h))) (by omega) (by omega) (by omega) (by omega) (fun ad c hr hb => ?_)
        exact hK _ _ hI (Kept.refl _ _) (RdB.of_mid (by rw [HN.out]; omega) hr)
      refine ssteps_cons (fun a' w' hI hag hf K hK => ?_) ?_
      · obtain ⟨⟨v5, h5, e5⟩, -⟩ : SFacts _ _ a' w' [5] := hf
        clear hag
        go_wp2_with fail
        refine (number04_any _ _ ((b.drop 1).take 4) e5 (by rw [List.length_take]; omega)).mono ?_
        rw [Vs.out]
        rintro e wn ⟨rfl, rfl⟩
        go_wp2_with fail
        exact hK _ _ hI (Kept.refl _ _) rfl
      refine ssteps_cons (fun a' w' hI hag hf K hK => ?_) ?_
      · obtain ⟨⟨_, h6, rfl⟩, -⟩ : SFacts _ _ a' w' [6] := hf
        clear hag
        go_wp2_with fail
        exact hK _ _ hI (Kept.refl _ _) rfl
      refine ssteps_cons (fun a' w' hI hag hf K hK => ?_) ?_
      · have s0 := hag.same 0 (by decide)
        clear hag
        go_wp2_with fail
        exact hK _ _ hI (Kept.refl _ _) rfl
      refine ssteps_cons (fun a' w' hI hag hf K hK => ?_) ?_
      · obtain ⟨⟨_, h8, rfl⟩, -⟩ : SFacts _ _ a' w' [8] := hf
        clear hag
        refine wpList_slice_lh rfl _ _ _ _ rfl EB (.slice (some ⟨g0, o0, none⟩) n capb) n _ .i64 .i64 (5 : Int) (9 : Int) (5) (9) (by simp [Act.eval, h8]) rfl rfl (rd_cast HN.out ((rdb_cast3 HN.out HS.out).kept (K2.out.trans hI (fun _ _ h => h)) (fun _ _ h => h))) (by omega) (by omega) (by omega) (by omega) (fun ad c hr hb => ?_)
        exact hK _ _ hI (Kept.refl _ _) (RdB.of_mid (by rw [HN.out]; omega) hr)
      refine ssteps_cons (fun a' w' hI hag hf K hK => ?_) ?_
      · obtain ⟨⟨v9, h9, e9⟩, -⟩ : SFacts _ _ a' w' [9, 6] := hf
        clear hag
        go_wp2_with fail
        refine (number04_any _ _ ((b.drop 5).take 4) e9 (by rw [List.length_take]; omega)).mono ?_
        rw [Ve.out]
        rintro e wn ⟨rfl, rfl⟩
        go_wp2_with fail
        exact hK _ _ hI (Kept.refl _ _) rfl
      refine ssteps_cons (fun a' w' hI hag hf K hK => ?_) ?_
      · obtain ⟨⟨_, h10, rfl⟩, -⟩ : SFacts _ _ a' w' [10] := hf
        clear hag
        go_wp2_with fail
        exact hK _ _ hI (Kept.refl _ _) rfl
      refine ssteps_cons (fun a' w' hI hag hf K hK => ?_) ?_
      · have s0 := hag.same 0 (by decide)
        clear hag
        go_wp2_with fail
        exact hK _ _ hI (Kept.refl _ _) rfl
      refine ssteps_cons (fun a' w' hI hag hf K hK => ?_) ?_
      · obtain ⟨⟨_, h12, rfl⟩, -⟩ : SFacts _ _ a' w' [12] := hf
        clear hag
        refine wpList_slice_lh rfl _ _ _ _ rfl EB (.slice (some ⟨g0, o0, none⟩) n capb) n _ .i64 .i64 (9 : Int) (13 : Int) (9) (13) (by simp [Act.eval, h12]) rfl rfl (rd_cast HN.out ((rdb_cast3 HN.out HS.out).kept (K2.out.trans hI (fun _ _ h => h)) (fun _ _ h => h))) (by omega) (by omega) (by omega) (by omega) (fun ad c hr hb => ?_)
        exact hK _ _ hI (Kept.refl _ _) (RdB.of_mid (by rw [HN.out]; omega) hr)
      refine ssteps_cons (fun a' w' hI hag hf K hK => ?_) ?_
      · obtain ⟨⟨v13, h13, e13⟩, -⟩ : SFacts _ _ a' w' [13, 10] := hf
        clear hag
        go_wp2_with fail
        refine (number04_any _ _ ((b.drop 9).take 4) e13 (by rw [List.length_take]; omega)).mono ?_
        rw [Vnu.out]
        rintro e wn ⟨rfl, rfl⟩
        go_wp2_with fail
        exact hK _ _ hI (Kept.refl _ _) rfl
      refine ssteps_cons (fun a' w' hI hag hf K hK => ?_) ?_
      · obtain ⟨⟨_, h14, rfl⟩, -⟩ : SFacts _ _ a' w' [14] := hf
        clear hag
        go_wp2_with fail
        exact hK _ _ hI (Kept.refl _ _) rfl
      refine ssteps_cons (fun a' w' hI hag hf K hK => ?_) ?_
      · have s0 := hag.same 0 (by decide)
        clear hag
        go_wp2_with fail
        exact hK _ _ hI (Kept.refl _ _) rfl
      refine ssteps_cons (fun a' w' hI hag hf K hK => ?_) ?_
      · obtain ⟨⟨_, h16, rfl⟩, -⟩ : SFacts _ _ a' w' [16] := hf
        clear hag
        refine wpList_slice_lh rfl _ _ _ _ rfl EB (.slice (some ⟨g0, o0, none⟩) n capb) n _ .i64 .i64 (13 : Int) (17 : Int) (13) (17) (by simp [Act.eval, h16]) rfl rfl (rd_cast HN.out ((rdb_cast3 HN.out HS.out).kept (K2.out.trans hI (fun _ _ h => h)) (fun _ _ h => h))) (by omega) (by omega) (by omega) (by omega) (fun ad c hr hb => ?_)
        exact hK _ _ hI (Kept.refl _ _) (RdB.of_mid (by rw [HN.out]; omega) hr)
      refine ssteps_cons (fun a' w' hI hag hf K hK => ?_) ?_
      · obtain ⟨⟨v17, h17, e17⟩, -⟩ : SFacts _ _ a' w' [17, 14] := hf
        clear hag
        go_wp2_with fail
        refine (number04_any _ _ ((b.drop 13).take 4) e17 (by rw [List.length_take]; omega)).mono ?_
        rw [Va.out]
        rintro e wn ⟨rfl, rfl⟩
        go_wp2_with fail
        exact hK _ _ hI (Kept.refl _ _) rfl
      refine ssteps_cons (fun a' w' hI hag hf K hK => ?_) ?_
      · obtain ⟨⟨_, h18, rfl⟩, -⟩ : SFacts _ _ a' w' [18] := hf
        clear hag
        go_wp2_with fail
        exact hK _ _ hI (Kept.refl _ _) rfl
      refine ssteps_cons (fun a' w' hI hag hf K hK => ?_) ?_
      · have s0 := hag.same 0 (by decide)
        clear hag
        go_wp2_with fail
        exact hK _ _ hI (Kept.refl _ _) rfl
      refine ssteps_cons (fun a' w' hI hag hf K hK => ?_) ?_
      · obtain ⟨⟨_, h20, rfl⟩, -⟩ : SFacts _ _ a' w' [20] := hf
        clear hag
        refine wpList_slice_lh rfl _ _ _ _ rfl EB (.slice (some ⟨g0, o0, none⟩) n capb) n _ .i64 .i64 (17 : Int) (21 : Int) (17) (21) (by simp [Act.eval, h20]) rfl rfl (rd_cast HN.out ((rdb_cast3 HN.out HS.out).kept (K2.out.trans hI (fun _ _ h => h)) (fun _ _ h => h))) (by omega) (by omega) (by omega) (by omega) (fun ad c hr hb => ?_)
        exact hK _ _ hI (Kept.refl _ _) (RdB.of_mid (by rw [HN.out]; omega) hr)
      refine ssteps_cons (fun a' w' hI hag hf K hK => ?_) ?_
      · obtain ⟨⟨v21, h21, e21⟩, -⟩ : SFacts _ _ a' w' [21, 18] := hf
        clear hag
        go_wp2_with fail
        refine (number04_any _ _ ((b.drop 17).take 4) e21 (by rw [List.length_take]; omega)).mono ?_
        rw [Vm.out]
        rintro e wn ⟨rfl, rfl⟩
        go_wp2_with fail
        exact hK _ _ hI (Kept.refl _ _) rfl
      refine ssteps_cons (fun a' w' hI hag hf K hK => ?_) ?_
      · obtain ⟨⟨_, h22, rfl⟩, -⟩ : SFacts _ _ a' w' [22] := hf
        clear hag
        go_wp2_with fail
        exact hK _ _ hI (Kept.refl _ _) rfl
      refine ssteps_cons (fun a' w' hI hag hf K hK => ?_) ?_
      · obtain ⟨⟨_, h3, rfl⟩, ⟨_, h7, rfl⟩, ⟨_, h11, rfl⟩, ⟨_, h15, rfl⟩, ⟨_, h19, rfl⟩, ⟨_, h23, rfl⟩, -⟩ : SFacts _ _ a' w' [3, 7, 11, 15, 19, 23] := hf
        clear hag
        go_wp2_with fail
        exact hK _ _ hI (Kept.refl _ _) rfl
      refine ssteps_cons (fun a' w' hI hag hf K hK => ?_) ?_
      · clear hag
        go_wp2_with fail
        exact hK _ _ (hI.alloc _) ((Kept.refl _ _).alloc _) ⟨_, rfl, hI.size, heap_alloc _ _⟩
      exact trivial
    · intro vs w3 hI hvs
      have q0 : vs 0 = (.slice (some ⟨g0, o0, none⟩) n capb) := hvs 0 _ _ rfl rfl
      have q1 : vs 1 = (.pointer (some ⟨g0, o0, none⟩)) := hvs 1 _ _ rfl rfl
      have q2 : vs 2 = (.int .u8 (k0 : Int)) := hvs 2 _ _ rfl rfl
      have q3 : vs 3 = (.int .i64 (k0 : Int)) := hvs 3 _ _ rfl rfl
      have q4 : vs 4 = (.slice (some ⟨g0, o0, none⟩) n capb) := hvs 4 _ _ rfl rfl
      have q5 := hvs 5 _ _ rfl rfl
      have q6 : vs 6 = (.int .u64 (s : Int)) := hvs 6 _ _ rfl rfl
      have q7 : vs 7 = (.int .u32 (s : Int)) := hvs 7 _ _ rfl rfl
      have q8 : vs 8 = (.slice (some ⟨g0, o0, none⟩) n capb) := hvs 8 _ _ rfl rfl
      have q9 := hvs 9 _ _ rfl rfl
      have q10 : vs 10 = (.int .u64 (e : Int)) := hvs 10 _ _ rfl rfl
      have q11 : vs 11 = (.int .u32 (e : Int)) := hvs 11 _ _ rfl rfl
      have q12 : vs 12 = (.slice (some ⟨g0, o0, none⟩) n capb) := hvs 12 _ _ rfl rfl
      have q13 := hvs 13 _ _ rfl rfl
      have q14 : vs 14 = (.int .u64 (nu : Int)) := hvs 14 _ _ rfl rfl
      have q15 : vs 15 = (.int .u32 (nu : Int)) := hvs 15 _ _ rfl rfl
      have q16 : vs 16 = (.slice (some ⟨g0, o0, none⟩) n capb) := hvs 16 _ _ rfl rfl
      have q17 := hvs 17 _ _ rfl rfl
      have q18 : vs 18 = (.int .u64 (a : Int)) := hvs 18 _ _ rfl rfl
      have q19 : vs 19 = (.int .u32 (a : Int)) := hvs 19 _ _ rfl rfl
      have q20 : vs 20 = (.slice (some ⟨g0, o0, none⟩) n capb) := hvs 20 _ _ rfl rfl
      have q21 := hvs 21 _ _ rfl rfl
      have q22 : vs 22 = (.int .u64 (m : Int)) := hvs 22 _ _ rfl rfl
      have q23 : vs 23 = (.int .u32 (m : Int)) := hvs 23 _ _ rfl rfl
      have q24 : vs 24 = (.agg #[.int .i64 (k0 : Int), .int .u32 (s : Int), .int .u32 (e : Int), .int .u32 (nu : Int), .int .u32 (a : Int), .int .u32 (m : Int), .slice none 0 0]) := hvs 24 _ _ rfl rfl
      have q25 := hvs 25 _ _ rfl rfl
      clear hvs
      simp only [List.take_succ_cons, List.take_zero, List.drop_succ_cons, List.drop_zero, putAll, Act.put, List.setIfInBounds_toArray, List.set_cons_zero, List.set_cons_succ, Nat.reduceAdd, q0, q1, q2, q3, q4, q6, q7, q8, q10, q11, q12, q14, q15, q16, q18, q19, q20, q22, q23, q24]
      clear q0 q1 q2 q3 q4 q6 q7 q8 q10 q11 q12 q14 q15 q16 q18 q19 q20 q22 q23 q24
      generalize vs 5 = x5 at *
      generalize vs 9 = x9 at *
      generalize vs 13 = x13 at *
      generalize vs 17 = x17 at *
      generalize vs 21 = x21 at *
      generalize vs 25 = x25 at *
      obtain ⟨g, rfl, hg1, hg2⟩ : IsNewR w2.heap.size x25 w3 := q25
      clear q5 q9 q13 q17 q21
      have c0 := heap_cell hg2 0
      have cf0 := heap_free hg2 0
      have c1 := heap_cell hg2 1
      have cf1 := heap_free hg2 1
      have c2 := heap_cell hg2 2
      have cf2 := heap_free hg2 2
      have c3 := heap_cell hg2 3
      have cf3 := heap_free hg2 3
      have c4 := heap_cell hg2 4
      have cf4 := heap_free hg2 4
      have c5 := heap_cell hg2 5
      have cf5 := heap_free hg2 5
      have c6 := heap_cell hg2 6
      have cf6 := heap_free hg2 6
      have hset : ∀ (G : World → Prop), (∀ wz, wz.heap[g]? = some (.cells #[.int .i64 (k0 : Int), .int .u32 (s : Int), .int .u32 (e : Int), .int .u32 (nu : Int), .int .u32 (a : Int), .int .u32 (m : Int), .slice none 0 0] 48 (0, 0)) → Kept (fun _ => False) w2 wz → G wz) → G (((((((w3.setCell ⟨g, 0, none⟩ (.int .i64 (k0 : Int))).setCell ⟨g, 1, none⟩ (.int .u32 (s : Int))).setCell ⟨g, 2, none⟩ (.int .u32 (e : Int))).setCell ⟨g, 3, none⟩ (.int .u32 (nu : Int))).setCell ⟨g, 4, none⟩ (.int .u32 (a : Int))).setCell ⟨g, 5, none⟩ (.int .u32 (m : Int))).setCell ⟨g, 6, none⟩ (.slice none 0 0)) := fun G h => h (rset w3 g ⟨k0, s, e, nu, a, m, []⟩ (.slice none 0 0)) (rset_same hg2) (rset_kept hI (fun h => by omega))
      have HSET := Lw.hid hset
      clear hset hg2
      go_wp2_with fail
      refine HSET.out _ (fun w4 hg4 hk4 => ?_)
      clear HSET hI
      clear c0 cf0 c1 cf1 c2 cf2 c3 cf3 c4 cf4 c5 cf5 c6 cf6
      have K4 := Lw.hid (K2.out.trans hk4 (fun _ _ h => h))
      have RZ4 := Lw.hid (hk4.heap RZ2.out (fun h => h))
      have G4 := Lw.hid hg4
      have hsz4 : g < w4.heap.size := heap_lt hg4
      have hgw : w.heap.size < g := by omega
      clear hk4 hg4 K2 RZ2 HC0
      have h230 : (0 : Int) ≤ 23 + (P : Int) := by omega
      obtain ⟨p, hp⟩ : ∃ p, (b.drop 23).take P = p := ⟨_, rfl⟩
      have hpl : p.length = P := by rw [← hp, List.length_take, List.length_drop, HN.out]; omega
      have HPP := Lw.hid hp; have HPL := Lw.hid hpl
      clear hp hpl
      refine wp_region_tail 8 [stV (.pointer (some ⟨g, 6, none⟩)), stV (.slice none 0 0), stV (.slice (some ⟨g0, o0, none⟩) n capb), stV (.int .i64 (P : Int)), stV (.int .i64 (23 + (P : Int))), stB p, stNewP w4.heap.size p, stV (.pointer (some ⟨g, 6, none⟩))] (by kernel_rfl) (by kernel_rfl) ?_ ?_
      · -- each operation by itself
        refine ssteps_cons (fun a' w' hI hag hf K hK => ?_) ?_
        · have s6 := hag.same 6 (by decide)
          clear hag
          go_wp2_with fail
          exact hK _ _ hI (Kept.refl _ _) rfl
        refine ssteps_cons (fun a' w' hI hag hf K hK => ?_) ?_
        · obtain ⟨⟨_, h0, rfl⟩, -⟩ : SFacts _ _ a' w' [0] := hf
          clear hag
          have hh := hI.heap G4.out (fun h => h)
          have c6 := heap_cell hh 6
          clear hh
          go_wp2_with fail
          exact hK _ _ hI (Kept.refl _ _) rfl
        refine ssteps_cons (fun a' w' hI hag hf K hK => ?_) ?_
        · have s0 := hag.same 0 (by decide)
          clear hag
          go_wp2_with fail
          exact hK _ _ hI (Kept.refl _ _) rfl
        refine ssteps_cons (fun a' w' hI hag hf K hK => ?_) ?_
        · have s5 := hag.same 5 (by decide)
          clear hag
          go_wp2_with fail
          exact hK _ _ hI (Kept.refl _ _) rfl
        refine ssteps_cons (fun a' w' hI hag hf K hK => ?_) ?_
        · obtain ⟨⟨_, h3, rfl⟩, -⟩ : SFacts _ _ a' w' [3] := hf
          clear hag
          go_wp2_with fail
          exact hK _ _ hI (Kept.refl _ _) rfl
        refine ssteps_cons (fun a' w' hI hag hf K hK => ?_) ?_
        · obtain ⟨⟨_, h2, rfl⟩, ⟨_, h4, rfl⟩, -⟩ : SFacts _ _ a' w' [2, 4] := hf
          clear hag
          refine wpList_slice_lh rfl _ _ _ _ rfl EB (.slice (some ⟨g0, o0, none⟩) n capb) n _ .i64 .i64 23 (23 + (P : Int)) 23 (23 + P) (by simp [Act.eval, h2]) rfl (by simp [Act.eval, h4]) (rd_cast HN.out ((rdb_cast3 HN.out HS.out).kept (K4.out.trans hI (fun _ _ h => h)) (fun _ _ h => h))) (by omega) (by omega) (by omega) (by omega) (fun ad c hr hb => ?_)
          have hr' := RdB.of_mid (by rw [HN.out]; omega) hr
          exact hK _ _ hI (Kept.refl _ _) (show RdB w' (.slice ad (23 + P - 23) c) p by rw [← HPP.out]; rw [Nat.add_sub_cancel_left] at hr' ⊢; exact hr')
        refine ssteps_cons (fun a' w' hI hag hf K hK => ?_) ?_
        · obtain ⟨⟨_, h1, rfl⟩, ⟨v5, h5, e5⟩, -⟩ : SFacts _ _ a' w' [1, 5] := hf
          clear hag
          obtain ⟨adp, capp, rfl, hp1, hp2, -⟩ := RdB.open (show RdB w' v5 p from e5)
          refine wpList_app rfl _ _ _ rfl EB (.slice none 0 0) 0 [] (by simp [Act.eval, h1]) (World.ownsRow_nil _ 0 _ 1) _ p.length _ (by simp [Act.eval, h5]) (show RdB w' _ _ from e5) (bytes_oneCell _) (by unfold maxLen; rw [HPL.out]; omega) (by rw [HPL.out]; omega) (fun ad cap wn ho hg hf => ?_)
          have hkn : Kept (fun _ => False) w' wn := (Kept.refl _ _).grown hg (fun k hk => by cases hk)
          rw [Nat.zero_add] at ho hf ⊢
          refine hK _ _ (hI.trans hkn (fun _ _ h => h)) hkn ⟨ad, cap, rfl, ?_, fun k hk => ?_⟩
          · exact RdB.of_own ho rfl
          · rcases hf k hk with h | h
            · exact (blk_none h).elim
            · have := hI.size; omega
        refine ssteps_cons (fun a' w' hI hag hf K hK => ?_) ?_
        · have s6 := hag.same 6 (by decide)
          clear hag
          go_wp2_with fail
          exact hK _ _ hI (Kept.refl _ _) rfl
        exact trivial
      · intro vs w5 hI hvs
        have q0 : vs 0 = (.pointer (some ⟨g, 6, none⟩)) := hvs 0 _ _ rfl rfl
        have q1 : vs 1 = (.slice none 0 0) := hvs 1 _ _ rfl rfl
        have q2 : vs 2 = (.slice (some ⟨g0, o0, none⟩) n capb) := hvs 2 _ _ rfl rfl
        have q3 : vs 3 = (.int .i64 (P : Int)) := hvs 3 _ _ rfl rfl
        have q4 : vs 4 = (.int .i64 (23 + (P : Int))) := hvs 4 _ _ rfl rfl
        have q5 := hvs 5 _ _ rfl rfl
        have q6 := hvs 6 _ _ rfl rfl
        have q7 : vs 7 = (.pointer (some ⟨g, 6, none⟩)) := hvs 7 _ _ rfl rfl
        clear hvs
        simp only [List.take_succ_cons, List.take_zero, List.drop_succ_cons, List.drop_zero, putAll, Act.put, List.setIfInBounds_toArray, List.set_cons_zero, List.set_cons_succ, Nat.reduceAdd, q0, q1, q2, q3, q4, q7]
        clear q0 q1 q2 q3 q4 q7
        generalize vs 5 = x5 at *
        generalize vs 6 = x6 at *
        obtain ⟨adp, capp, rfl, hp1, hp2⟩ : ∃ ad cap, x6 = .slice ad p.length cap ∧ RdB w5 (.slice ad p.length cap) p ∧ ∀ k, blk (.slice ad p.length cap) k → w4.heap.size ≤ k := q6
        clear q5
        have hg5 := hI.heap G4.out (fun h => h)
        have c0 := heap_cell hg5 0
        have cf0 := heap_free hg5 0
        have c1 := heap_cell hg5 1
        have cf1 := heap_free hg5 1
        have c2 := heap_cell hg5 2
        have cf2 := heap_free hg5 2
        have c3 := heap_cell hg5 3
        have cf3 := heap_free hg5 3
        have c4 := heap_cell hg5 4
        have cf4 := heap_free hg5 4
        have c5 := heap_cell hg5 5
        have cf5 := heap_free hg5 5
        have c6 := heap_cell hg5 6
        have cf6 := heap_free hg5 6
        have hset : ∀ (G : World → Prop), (∀ wz, wz.heap[g]? = some (.cells #[.int .i64 (k0 : Int), .int .u32 (s : Int), .int .u32 (e : Int), .int .u32 (nu : Int), .int .u32 (a : Int), .int .u32 (m : Int), .slice adp p.length capp] 48 (0, 0)) → Kept (fun _ => False) w wz → wz.heap[w.heap.size]? = some (.cells #[.int .i64 (0 : Int), .int .u32 (0 : Int), .int .u32 (0 : Int), .int .u32 (0 : Int), .int .u32 (0 : Int), .int .u32 (0 : Int), .slice none 0 0] 48 (0, 0)) → RdB wz (.slice adp p.length capp) p → G wz) → G (w5.setCell ⟨g, 6, none⟩ (.slice adp p.length capp)) := fun G h => h _ (heap_set hg5 6 _) ((K4.out.trans hI (fun _ _ h => h)).set g 6 (fun h => by omega) _) ((Below.heap_setCell _ _ _ _ (by show w.heap.size ≠ g; omega)).trans (hI.heap RZ4.out (fun h => h))) (hp1.kept ((Kept.refl (fun k => k = g) w5).set g 6 (fun _ => rfl) _) (fun k hk e => by have := hp2 k hk; omega))
        have HSET := Lw.hid hset
        clear hset hg5 hp1 hI
        go_wp2_with fail
        refine HSET.out (fun wz => Calls Tryd.prog _ _ wz _) (fun w6 hg6 hk6 hr6 hp6 => ?_)
        clear HSET
        clear c0 cf0 c1 cf1 c2 cf2 c3 cf3 c4 cf4 c5 cf5 c6 cf6
        have G6 := Lw.hid hg6; have K6 := Lw.hid hk6; have RZ6 := Lw.hid hr6; have P6 := Lw.hid hp6
        clear hg6 hk6 hr6 hp6 G4 K4 RZ4
        have hgs6 : g < w6.heap.size := heap_lt G6.out
        have PB := Lw.hid hp2
        clear hp2
        refine (rmay_any _ ⟨k0, s, e, nu, a, m, p⟩ adp capp _ rfl (by simp only; rw [HPL.out]; omega) hk9).mono ?_
        rintro ee w7 ⟨rfl, k7⟩
        have K7 := Lw.hid (K6.out.trans k7 (fun _ _ h => h))
        have G7 := Lw.hid (k7.heap G6.out (fun h => h))
        have RZ7 := Lw.hid (k7.heap RZ6.out (fun h => h))
        have P7 := Lw.hid (P6.out.kept k7 (fun _ _ h => h))
        have hsz7 := k7.size
        clear k7 K6 G6 RZ6 P6
        obtain ⟨my, hmy⟩ : ∃ my, (⟨k0, s, e, nu, a, m, p⟩ : Frm).may = my := ⟨_, rfl⟩
        have HMY := Lw.hid hmy
        rw [hmy]
        clear hmy
        have HFF : Hid ((fields b).f = ⟨k0, s, e, nu, a, m, p⟩) := Lw.hid (by
          unfold fields
          simp only
          rw [HK0.out, Vs.out, Ve.out, Vnu.out, Va.out, Vm.out, HP.out, HPP.out])
        cases my with
        | false =>
          have HQ : Hid (decF b = (zeroF, 0, 5)) := Lw.hid (by rw [HDE.out, HN.out, HP.out, if_neg (by omega), if_neg (by omega), if_neg (by rw [← HN.out]; exact not_not_intro HSE.out), if_pos (by rw [HFF.out]; exact HMY.out)])
          have hrz := RZ7.out
          have c0 := heap_cell hrz 0
          have cf0 := heap_free hrz 0
          have c1 := heap_cell hrz 1
          have cf1 := heap_free hrz 1
          have c2 := heap_cell hrz 2
          have cf2 := heap_free hrz 2
          have c3 := heap_cell hrz 3
          have cf3 := heap_free hrz 3
          have c4 := heap_cell hrz 4
          have cf4 := heap_free hrz 4
          have c5 := heap_cell hrz 5
          have cf5 := heap_free hrz 5
          have c6 := heap_cell hrz 6
          have cf6 := heap_free hrz 6
          have hset : ∀ (G : World → Prop), (∀ wz, wz.heap[w.heap.size]? = some (.cells #[.int .i64 (0 : Int), .int .u32 (0 : Int), .int .u32 (0 : Int), .int .u32 (0 : Int), .int .u32 (0 : Int), .int .u32 (0 : Int), .slice none 0 0] 48 (0, 0)) → Kept (fun _ => False) w wz → G wz) → G (((((((w7.setCell ⟨w.heap.size, 0, none⟩ (.int .i64 0)).setCell ⟨w.heap.size, 1, none⟩ (.int .u32 0)).setCell ⟨w.heap.size, 2, none⟩ (.int .u32 0)).setCell ⟨w.heap.size, 3, none⟩ (.int .u32 0)).setCell ⟨w.heap.size, 4, none⟩ (.int .u32 0)).setCell ⟨w.heap.size, 5, none⟩ (.int .u32 0)).setCell ⟨w.heap.size, 6, none⟩ (.slice none 0 0)) := fun G h => h (rset w7 w.heap.size zeroF (.slice none 0 0)) (rset_same hrz) (rset_kept K7.out (fun h => by omega))
          have HSET := Lw.hid hset
          clear hset hrz
          go_wp2_with fail
          refine HSET.out _ (fun wz hz hkz => ?_)
          have z0 := heap_cell hz 0
          have z1 := heap_cell hz 1
          have z2 := heap_cell hz 2
          have z3 := heap_cell hz 3
          have z4 := heap_cell hz 4
          have z5 := heap_cell hz 5
          have z6 := heap_cell hz 6
          exact bodyPost_ret (v := .tuple #[.agg #[.int .i64 0, .int .u32 0, .int .u32 0, .int .u32 0, .int .u32 0, .int .u32 0, .slice none 0 0], .int .u64 0, .int .i64 5]) (by simp [results, go_sem, z0, z1, z2, z3, z4, z5, z6]) rfl (REF.out 5 HQ.out wz hkz)
        | true =>
          obtain ⟨tg, htg⟩ : ∃ t, beVal ((b.drop (23 + P)).take 8) = t := ⟨_, rfl⟩
          have HTG := Lw.hid htg
          clear htg
          have HFT : Hid ((fields b).tag = tg) := Lw.hid (by
            unfold fields
            simp only
            rw [HP.out, HTG.out])
          have HQ : Hid (decF b = (⟨k0, s, e, nu, a, m, p⟩, tg, 0)) := Lw.hid (by rw [HDE.out, HN.out, HP.out, if_neg (by omega), if_neg (by omega), if_neg (by rw [← HN.out]; exact not_not_intro HSE.out), if_neg (by rw [HFF.out, HMY.out]; decide), HFF.out, HFT.out])
          go_wp2_with fail
          refine wp_region_tail 8 [stV (.agg #[.int .i64 (k0 : Int), .int .u32 (s : Int), .int .u32 (e : Int), .int .u32 (nu : Int), .int .u32 (a : Int), .int .u32 (m : Int), .slice adp p.length capp]), stV (.slice (some ⟨g0, o0, none⟩) n capb), stV (.int .i64 (P : Int)), stV (.int .i64 (23 + (P : Int))), stV (.int .i64 (P : Int)), stV (.int .i64 (31 + (P : Int))), stB ((b.drop (23 + P)).take 8), stV (.int .u64 (tg : Int))] (by kernel_rfl) (by kernel_rfl) ?_ ?_
          · -- each operation by itself
            refine ssteps_cons (fun a' w' hI hag hf K hK => ?_) ?_
            · have s6 := hag.same 6 (by decide)
              clear hag
              have hh := hI.heap G7.out (fun h => h)
              have c0 := heap_cell hh 0
              have c1 := heap_cell hh 1
              have c2 := heap_cell hh 2
              have c3 := heap_cell hh 3
              have c4 := heap_cell hh 4
              have c5 := heap_cell hh 5
              have c6 := heap_cell hh 6
              clear hh
              go_wp2_with fail
              exact hK _ _ hI (Kept.refl _ _) rfl
            refine ssteps_cons (fun a' w' hI hag hf K hK => ?_) ?_
            · have s0 := hag.same 0 (by decide)
              clear hag
              go_wp2_with fail
              exact hK _ _ hI (Kept.refl _ _) rfl
            refine ssteps_cons (fun a' w' hI hag hf K hK => ?_) ?_
            · have s5 := hag.same 5 (by decide)
              clear hag
              go_wp2_with fail
              exact hK _ _ hI (Kept.refl _ _) rfl
            refine ssteps_cons (fun a' w' hI hag hf K hK => ?_) ?_
            · obtain ⟨⟨_, h2, rfl⟩, -⟩ : SFacts _ _ a' w' [2] := hf
              clear hag
              go_wp2_with fail
              exact hK _ _ hI (Kept.refl _ _) rfl
            refine ssteps_cons (fun a' w' hI hag hf K hK => ?_) ?_
            · have s5 := hag.same 5 (by decide)
              clear hag
              go_wp2_with fail
              exact hK _ _ hI (Kept.refl _ _) rfl
            refine ssteps_cons (fun a' w' hI hag hf K hK => ?_) ?_
            · obtain ⟨⟨_, h4, rfl⟩, -⟩ : SFacts _ _ a' w' [4] := hf
              clear hag
              go_wp2_with fail
              exact hK _ _ hI (Kept.refl _ _) rfl
            refine ssteps_cons (fun a' w' hI hag hf K hK => ?_) ?_
            · obtain ⟨⟨_, h1, rfl⟩, ⟨_, h3, rfl⟩, ⟨_, h5, rfl⟩, -⟩ : SFacts _ _ a' w' [1, 3, 5] := hf
              clear hag
              refine wpList_slice_lh rfl _ _ _ _ rfl EB (.slice (some ⟨g0, o0, none⟩) n capb) n _ .i64 .i64 (23 + (P : Int)) (31 + (P : Int)) (23 + P) (31 + P) (by simp [Act.eval, h1]) (by simp [Act.eval, h3]) (by simp [Act.eval, h5]) (rd_cast HN.out ((rdb_cast3 HN.out HS.out).kept (K7.out.trans hI (fun _ _ h => h)) (fun _ _ h => h))) (by omega) (by omega) (by omega) (by omega) (fun ad c hr hb => ?_)
              have hr' := RdB.of_mid (by rw [HN.out]; omega) hr
              have h8 : 31 + P - (23 + P) = 8 := by omega
              rw [h8] at hr'
              exact hK _ _ hI (Kept.refl _ _) (show RdB w' (.slice ad (31 + P - (23 + P)) c) ((b.drop (23 + P)).take 8) by rw [h8]; exact hr')
            refine ssteps_cons (fun a' w' hI hag hf K hK => ?_) ?_
            · obtain ⟨⟨v6, h6, e6⟩, -⟩ : SFacts _ _ a' w' [6] := hf
              clear hag
              go_wp2_with fail
              refine (number04_any _ _ ((b.drop (23 + P)).take 8) e6 (by rw [List.length_take]; omega)).mono ?_
              rw [HTG.out]
              rintro e wn ⟨rfl, rfl⟩
              go_wp2_with fail
              exact hK _ _ hI (Kept.refl _ _) rfl
            exact trivial
          · intro vs w8 hI hvs
            have q0 : vs 0 = (.agg #[.int .i64 (k0 : Int), .int .u32 (s : Int), .int .u32 (e : Int), .int .u32 (nu : Int), .int .u32 (a : Int), .int .u32 (m : Int), .slice adp p.length capp]) := hvs 0 _ _ rfl rfl
            have q1 : vs 1 = (.slice (some ⟨g0, o0, none⟩) n capb) := hvs 1 _ _ rfl rfl
            have q2 : vs 2 = (.int .i64 (P : Int)) := hvs 2 _ _ rfl rfl
            have q3 : vs 3 = (.int .i64 (23 + (P : Int))) := hvs 3 _ _ rfl rfl
            have q4 : vs 4 = (.int .i64 (P : Int)) := hvs 4 _ _ rfl rfl
            have q5 : vs 5 = (.int .i64 (31 + (P : Int))) := hvs 5 _ _ rfl rfl
            have q6 := hvs 6 _ _ rfl rfl
            have q7 : vs 7 = (.int .u64 (tg : Int)) := hvs 7 _ _ rfl rfl
            clear hvs
            simp only [List.take_succ_cons, List.take_zero, List.drop_succ_cons, List.drop_zero, putAll, Act.put, List.setIfInBounds_toArray, List.set_cons_zero, List.set_cons_succ, Nat.reduceAdd, q0, q1, q2, q3, q4, q5, q7]
            clear q0 q1 q2 q3 q4 q5 q7
            generalize vs 6 = x6 at *
            clear q6
            have hrz := hI.heap RZ7.out (fun h => h)
            have c0 := heap_cell hrz 0
            have cf0 := heap_free hrz 0
            have c1 := heap_cell hrz 1
            have cf1 := heap_free hrz 1
            have c2 := heap_cell hrz 2
            have cf2 := heap_free hrz 2
            have c3 := heap_cell hrz 3
            have cf3 := heap_free hrz 3
            have c4 := heap_cell hrz 4
            have cf4 := heap_free hrz 4
            have c5 := heap_cell hrz 5
            have cf5 := heap_free hrz 5
            have c6 := heap_cell hrz 6
            have cf6 := heap_free hrz 6
            have hset : ∀ (G : World → Prop), (∀ wz, wz.heap[w.heap.size]? = some (.cells #[.int .i64 (k0 : Int), .int .u32 (s : Int), .int .u32 (e : Int), .int .u32 (nu : Int), .int .u32 (a : Int), .int .u32 (m : Int), .slice adp p.length capp] 48 (0, 0)) → Kept (fun _ => False) w wz → RdB wz (.slice adp p.length capp) p → G wz) → G (((((((w8.setCell ⟨w.heap.size, 0, none⟩ (.int .i64 (k0 : Int))).setCell ⟨w.heap.size, 1, none⟩ (.int .u32 (s : Int))).setCell ⟨w.heap.size, 2, none⟩ (.int .u32 (e : Int))).setCell ⟨w.heap.size, 3, none⟩ (.int .u32 (nu : Int))).setCell ⟨w.heap.size, 4, none⟩ (.int .u32 (a : Int))).setCell ⟨w.heap.size, 5, none⟩ (.int .u32 (m : Int))).setCell ⟨w.heap.size, 6, none⟩ (.slice adp p.length capp)) := fun G h => h (rset w8 w.heap.size ⟨k0, s, e, nu, a, m, p⟩ (.slice adp p.length capp)) (rset_same hrz) (rset_kept (K7.out.trans hI (fun _ _ h => h)) (fun h => by omega)) ((P7.out.kept hI (fun _ _ h => h)).kept (rset_kept (S := fun k => k = w.heap.size) (Kept.refl _ w8) (fun _ => rfl)) (fun k hk e => by have := PB.out k hk; omega))
            have HSET := Lw.hid hset
            clear hset hrz hI
            go_wp2_with fail
            refine HSET.out _ (fun wz hz hkz hpz => ?_)
            have z0 := heap_cell hz 0
            have z1 := heap_cell hz 1
            have z2 := heap_cell hz 2
            have z3 := heap_cell hz 3
            have z4 := heap_cell hz 4
            have z5 := heap_cell hz 5
            have z6 := heap_cell hz 6
            refine bodyPost_ret (v := .tuple #[.agg #[.int .i64 (k0 : Int), .int .u32 (s : Int), .int .u32 (e : Int), .int .u32 (nu : Int), .int .u32 (a : Int), .int .u32 (m : Int), .slice adp p.length capp], .int .u64 (tg : Int), .int .i64 0]) (by simp [results, go_sem, z0, z1, z2, z3, z4, z5, z6]) rfl ?_
            rw [HQ.out]
            exact ⟨adp, capp, rfl, hpz, hkz, fun k hk => by have := PB.out k hk; omega⟩
end Go.Proofs.YtcmipliglcakdaaDoor
