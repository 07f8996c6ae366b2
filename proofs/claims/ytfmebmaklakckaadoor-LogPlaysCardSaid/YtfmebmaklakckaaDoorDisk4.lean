/- package disk: Put, Copy. -/
import Derived.Test.YtfmebmaklakckaaDoorDisk3
namespace Go.Proofs.YtfmebmaklakckaaDoor
open Go Go.RowKit Go.Lw
set_option maxRecDepth 100000
theorem DPost.next {w w1 W : World} {g : Nat} {v v1 : Value} {D D1 : Dsk} (_ : DiskAt w1 g v1 D1) (k1 : Kept (fun k => k = g ∨ blk v k) w w1) (f1 : ∀ k, blk v1 k → blk v k ∨ w.heap.size ≤ k) (h : DPost w1 W g v1 D) : DPost w W g v D := by
  obtain ⟨v2, d2, k2, f2⟩ := h
  refine ⟨v2, d2, k1.trans k2 (fun i hi hs => ?_), fun k hk => ?_⟩
  · rcases hs with hs | hs
    · exact .inl hs
    · rcases f1 i hs with h | h
      · exact .inr h
      · omega
  · rcases f2 k hk with h | h
    · exact f1 k h
    · exact .inr (Nat.le_trans k1.size h)
set_option maxHeartbeats 4000000 in
theorem dput_any (w : World) (g : Nat) (v : Value) (D : Dsk) (h : DiskAt w g v D) (ok : D.ok) (a : Int) (ha : -9223372036854775808 ≤ a ∧ a ≤ 9223372036854775807) (src : Value) (l : List UInt8) (hs : RdB w src l) (hd : l.length ≠ 0 → ∀ k, blk src k → k ≠ g ∧ ¬ blk v k) :
    Calls Tryd.prog 33 #[.pointer (some ⟨g, 0, none⟩), .int .i64 a, src] w fun e w' => e = .returned (.int .i64 ((D.put a l).2 : Int)) ∧ DPost w w' g v (D.put a l).1 := by
  obtain ⟨ad, cap, rfl, hc1, hc2, _⟩ := own_slice h.own
  obtain ⟨ads, caps, rfl, hs1, hs2, _⟩ := hs.open
  unfold maxLen at hc2 hs2
  have c1 := heap_cell h.box 1; have c2 := heap_cell h.box 2; have c4 := heap_cell h.box 4; have c5 := heap_cell h.box 5; have c6 := heap_cell h.box 6; have c7 := heap_cell h.box 7
  have H := Lw.hid h; have HS := Lw.hid hs; have HD := Lw.hid hd
  have hgl : g < w.heap.size := heap_lt h.box
  clear h hs hd
  have o1 := ok.len; have o2 := ok.cap; have o3 := ok.puts; have o4 := ok.lo; have o5 := ok.hi; have o6 := ok.nb
  obtain ⟨cp, b, puts, st, is, np, nb⟩ := D
  simp only at c1 c2 c4 c5 c6 c7 o1 o2 o3 o4 o5 o6 hc1
  have HPL : Hid (is = true → 0 ≤ np ∧ 0 ≤ nb) := Lw.hid ok.plan
  clear ok
  obtain ⟨L, hL⟩ : ∃ L, b.length = L := ⟨_, rfl⟩
  obtain ⟨m, hm⟩ : ∃ m, l.length = m := ⟨_, rfl⟩
  have HL := Lw.hid hL; have HM := Lw.hid hm
  have hDB : (⟨cp, b, puts, st, is, np, nb⟩ : Dsk).b.length = L := hL
  rw [hDB] at H HD ⊢
  rw [hL] at c2 hc1 o1
  rw [hm] at hs1 HS HD ⊢
  clear hDB hL hm
  cases st with
  | true =>
    have HP : Hid ((⟨cp, b, puts, true, is, np, nb⟩ : Dsk).put a l = (⟨cp, b, puts, true, is, np, nb⟩, 10)) := Lw.hid (by unfold Dsk.put; rw [if_pos rfl])
    go_enter Tryd.func33, Tryd.ntmps33
    go_wp2_with fail
    refine (dnone_any w g _ _ H.out).mono ?_
    rintro e _ ⟨rfl, rfl⟩
    go_wp2_with fail
    go_ret
    rw [HP.out]
    exact ⟨rfl, DPost.same H.out⟩
  | false =>
  by_cases h1 : a < 0
  · have HP : Hid ((⟨cp, b, puts, false, is, np, nb⟩ : Dsk).put a l = (⟨cp, b, puts, false, is, np, nb⟩, 1)) := Lw.hid (by unfold Dsk.put; rw [if_neg (by simp), if_pos (.inl h1)])
    go_enter Tryd.func33, Tryd.ntmps33
    go_wp2_with fail
    refine (dnone_any w g _ _ H.out).mono ?_
    rintro e _ ⟨rfl, rfl⟩
    go_wp2_with fail
    go_ret
    rw [HP.out]
    exact ⟨rfl, DPost.same H.out⟩
  by_cases h2 : (L : Int) < a
  · have HP : Hid ((⟨cp, b, puts, false, is, np, nb⟩ : Dsk).put a l = (⟨cp, b, puts, false, is, np, nb⟩, 1)) := Lw.hid (by unfold Dsk.put; rw [if_neg (by simp), if_pos (.inr (by simp only; rw [HL.out]; exact h2))])
    go_enter Tryd.func33, Tryd.ntmps33
    go_wp2_with fail
    refine (dnone_any w g _ _ H.out).mono ?_
    rintro e _ ⟨rfl, rfl⟩
    go_wp2_with fail
    go_ret
    rw [HP.out]
    exact ⟨rfl, DPost.same H.out⟩
  obtain ⟨k, rfl⟩ : ∃ k : Nat, a = (k : Int) := ⟨a.toNat, by omega⟩
  have hkL : k ≤ L := by omega
  clear h1 h2
  by_cases h3 : (cp : Int) - (k : Int) < (m : Int)
  · have HP : Hid ((⟨cp, b, puts, false, is, np, nb⟩ : Dsk).put (k : Int) l = (⟨cp, b, puts, false, is, np, nb⟩, 7)) := Lw.hid (by unfold Dsk.put; rw [if_neg (by simp), if_neg (by simp only; rw [HL.out]; omega), if_pos (by simp only; rw [HM.out]; exact h3)])
    go_enter Tryd.func33, Tryd.ntmps33
    go_wp2_with fail
    refine (dnone_any w g _ _ H.out).mono ?_
    rintro e _ ⟨rfl, rfl⟩
    go_wp2_with fail
    go_ret
    rw [HP.out]
    exact ⟨rfl, DPost.same H.out⟩
  have hkm : k + m ≤ cp := by omega
  by_cases h4 : is = true ∧ np = 0
  · obtain ⟨rfl, rfl⟩ := h4
    obtain ⟨q, rfl⟩ : ∃ q : Nat, nb = (q : Int) := ⟨nb.toNat, by omega⟩
    obtain ⟨M, hM, hM2⟩ : ∃ M, min q m = M ∧ (M = q ∧ (q : Int) ≤ (m : Int) ∨ M = m ∧ (m : Int) < (q : Int)) := ⟨min q m, rfl, by omega⟩
    have HP : Hid ((⟨cp, b, puts, false, true, 0, (q : Int)⟩ : Dsk).put (k : Int) l = (⟨cp, lay b k (l.take M), puts, true, false, 0, 0⟩, 10)) := Lw.hid (by
      unfold Dsk.put
      rw [if_neg (by simp), if_neg (by simp only; rw [HL.out]; omega), if_neg (by simp only; rw [HM.out]; omega), if_pos ⟨rfl, rfl⟩]
      simp only [Int.toNat_natCast]
      rw [HM.out, hM])
    have hMm : M ≤ m := by omega
    have HRM : Hid (RdB w (.slice ads M caps) (l.take M)) := Lw.hid (by have := HS.out; rw [← HM.out] at this; exact this.take _ (by rw [HM.out]; exact hMm))
    have HDM : Hid ((l.take M).length ≠ 0 → ∀ i, blk (.slice ads M caps) i → i ≠ g ∧ ¬ blk (.slice ad L cap) i) := Lw.hid (fun hn i hi => HD.out (by rw [List.length_take] at hn; omega) i (by cases ads with | none => exact (blk_none hi).elim | some x => rw [blk_some hi]; rfl))
    have hML : (l.take M).length = M := by rw [List.length_take, HM.out]; omega
    have HML := Lw.hid hML
    clear hM hML
    rcases hM2 with ⟨rfl, hle⟩ | ⟨rfl, hle⟩
    all_goals
      go_enter Tryd.func33, Tryd.ntmps33
      go_wp2_with fail
      refine (dnone_any w g _ _ H.out).mono ?_
      rintro e _ ⟨rfl, rfl⟩
      go_wp2_with fail
      refine (dlay_any w g _ _ H.out k (.slice ads M caps) (l.take M) HRM.out HDM.out (by simp only; rw [HL.out]; exact hkL) (by rw [HML.out]; omega) (by simp only; rw [HL.out]; omega)).mono ?_
      rintro e w1 ⟨rfl, v1, d1, k1, f1⟩
      simp only at d1
      have hb1 := d1.box
      have D1 := Lw.hid d1; have K1 := Lw.hid k1; have F1 := Lw.hid f1
      clear d1 k1 f1
      have e4 := heap_cell hb1 4; have e5 := heap_cell hb1 5; have e6 := heap_cell hb1 6; have e7 := heap_cell hb1 7
      have g4 := heap_free hb1 4; have g5 := heap_free hb1 5; have g6 := heap_free hb1 6; have g7 := heap_free hb1 7
      have HB1 := Lw.hid hb1
      clear hb1
      go_wp2_with fail
      go_ret
      rw [HP.out]
      exact ⟨rfl, DPost.next D1.out K1.out F1.out (D1.out.set (D' := ⟨cp, lay b k (l.take M), puts, true, false, 0, 0⟩) rfl _ (((((Kept.refl (fun k => k = g) w1).set g 4 (fun _ => rfl) _).set g 5 (fun _ => rfl) _).set g 6 (fun _ => rfl) _).set g 7 (fun _ => rfl) _) (heap_set (heap_set (heap_set (heap_set HB1.out 4 (.bool true)) 5 (.bool false)) 6 (.int .i64 0)) 7 (.int .i64 0)))⟩
  have HP : Hid ((⟨cp, b, puts, false, is, np, nb⟩ : Dsk).put (k : Int) l = (⟨cp, lay b k l, puts + 1, false, is, np - 1, nb⟩, 0)) := Lw.hid (by
    unfold Dsk.put
    rw [if_neg (by simp), if_neg (by simp only; rw [HL.out]; omega), if_neg (by simp only; rw [HM.out]; omega), if_neg h4]
    simp)
  have hgo : is = false ∨ is = true ∧ ¬ np = 0 := by cases is <;> simp at h4 ⊢; exact h4
  clear h4
  rcases hgo with rfl | ⟨rfl, h4⟩
  all_goals
    go_enter Tryd.func33, Tryd.ntmps33
    go_wp2_with fail
    refine (dnone_any w g _ _ H.out).mono ?_
    rintro e _ ⟨rfl, rfl⟩
    go_wp2_with fail
    refine (dlay_any w g _ _ H.out k (.slice ads m caps) l HS.out (fun hn => HD.out (HM.out ▸ hn)) (by simp only; rw [HL.out]; exact hkL) (by rw [HM.out]; omega) (by simp only; rw [HL.out]; omega)).mono ?_
    rintro e w1 ⟨rfl, v1, d1, k1, f1⟩
    simp only at d1
    have hb1 := d1.box
    have D1 := Lw.hid d1; have K1 := Lw.hid k1; have F1 := Lw.hid f1
    clear d1 k1 f1
    have e3 := heap_cell hb1 3; have e6 := heap_cell hb1 6
    have g3 := heap_free hb1 3; have g6 := heap_free hb1 6
    have HB1 := Lw.hid hb1
    clear hb1
    go_wp2_with fail
    go_ret
    rw [HP.out]
    exact ⟨rfl, DPost.next D1.out K1.out F1.out (D1.out.set (D' := ⟨cp, lay b k l, puts + 1, false, _, np - 1, nb⟩) rfl _ (((Kept.refl (fun k => k = g) w1).set g 3 (fun _ => rfl) _).set g 6 (fun _ => rfl) _) (heap_set (heap_set HB1.out 3 (.int .i64 ((puts + 1 : Nat) : Int))) 6 (.int .i64 (np - 1))))⟩
end Go.Proofs.YtfmebmaklakckaaDoor
