/- Of the proof of TopBooks: Disk4, DiskC, Str, MapLit, PlainCrc, Crc. -/
import Derived.Test.YtgegjjnfcnalfaaGreatDoorG04
import Derived.Test.YtgegjjnfcnalfaaGreatDoorG00
import Derived.RegionTactic
import Derived.Deep.QuietTactic
import Derived.BigQuiet
import Derived.Laws.Tables
import Derived.Laws.CopyRow
import Derived.Maps.RangeWalk
import Derived.Maps.Views
import Derived.Maps.OwnSet
import Derived.Test.YtgegjjnfcnalfaaGreatDoorChecked
import Derived.Laws.BitsAllLaws
namespace Go.Proofs.YtgegjjnfcnalfaaGreatDoor
open Go Go.RowKit Go.Lw
set_option maxRecDepth 100000
theorem DPost.next {w w1 W : World} {g : Nat} {v v1 : Value} {D D1 : Dsk} (_ : DiskAt w1 g v1 D1) (k1 : Kept (fun k => k = g ∨ blk v k) w w1) (f1 : ∀ k, blk v1 k → blk v k ∨ w.heap.size ≤ k) (h : DPost w1 W g v1 D) : DPost w W g v D := by
  obtain ⟨v2, d2, k2, f2⟩ := h
  refine ⟨v2, d2, k1.trans k2 (fun i hi hs => ?_), fun k hk => ?_⟩
  · rcases hs with hs | hs
    · exact .inl hs
    · rcases f1 i hs with h | h
      · exact .inr h
      · omega
  · rcases f2 k hk with h | h
    · exact f1 k h
    · exact .inr (Nat.le_trans k1.size h)
set_option maxHeartbeats 4000000 in
theorem dput_any (w : World) (g : Nat) (v : Value) (D : Dsk) (h : DiskAt w g v D) (ok : D.ok) (a : Int) (ha : -9223372036854775808 ≤ a ∧ a ≤ 9223372036854775807) (src : Value) (l : List UInt8) (hs : RdB w src l) (hd : l.length ≠ 0 → ∀ k, blk src k → k ≠ g ∧ ¬ blk v k) :
    Calls Tryz.prog 15 #[.pointer (some ⟨g, 0, none⟩), .int .i64 a, src] w fun e w' => e = .returned (.int .i64 ((D.put a l).2 : Int)) ∧ DPost w w' g v (D.put a l).1 := by
  obtain ⟨ad, cap, rfl, hc1, hc2, _⟩ := own_slice h.own
  obtain ⟨ads, caps, rfl, hs1, hs2, _⟩ := hs.open
  unfold maxLen at hc2 hs2
  have c1 := heap_cell h.box 1; have c2 := heap_cell h.box 2; have c4 := heap_cell h.box 4; have c5 := heap_cell h.box 5; have c6 := heap_cell h.box 6; have c7 := heap_cell h.box 7
  have H := Lw.hid h; have HS := Lw.hid hs; have HD := Lw.hid hd
  have hgl : g < w.heap.size := heap_lt h.box
  clear h hs hd
  have o1 := ok.len; have o2 := ok.cap; have o3 := ok.puts; have o4 := ok.lo; have o5 := ok.hi; have o6 := ok.nb
  obtain ⟨cp, b, puts, st, is, np, nb⟩ := D
  simp only at c1 c2 c4 c5 c6 c7 o1 o2 o3 o4 o5 o6 hc1
  have HPL : Hid (is = true → 0 ≤ np ∧ 0 ≤ nb) := Lw.hid ok.plan
  clear ok
  obtain ⟨L, hL⟩ : ∃ L, b.length = L := ⟨_, rfl⟩
  obtain ⟨m, hm⟩ : ∃ m, l.length = m := ⟨_, rfl⟩
  have HL := Lw.hid hL; have HM := Lw.hid hm
  have hDB : (⟨cp, b, puts, st, is, np, nb⟩ : Dsk).b.length = L := hL
  rw [hDB] at H HD ⊢
  rw [hL] at c2 hc1 o1
  rw [hm] at hs1 HS HD ⊢
  clear hDB hL hm
  cases st with
  | true =>
    have HP : Hid ((⟨cp, b, puts, true, is, np, nb⟩ : Dsk).put a l = (⟨cp, b, puts, true, is, np, nb⟩, 10)) := Lw.hid (by unfold Dsk.put; rw [if_pos rfl])
    go_enter Tryz.func15, Tryz.ntmps15
    go_wp2_with fail
    refine (dnone_any w g _ _ H.out).mono ?_
    rintro e _ ⟨rfl, rfl⟩
    go_wp2_with fail
    go_ret
    rw [HP.out]
    exact ⟨rfl, DPost.same H.out⟩
  | false =>
  by_cases h1 : a < 0
  · have HP : Hid ((⟨cp, b, puts, false, is, np, nb⟩ : Dsk).put a l = (⟨cp, b, puts, false, is, np, nb⟩, 1)) := Lw.hid (by unfold Dsk.put; rw [if_neg (by simp), if_pos (.inl h1)])
    go_enter Tryz.func15, Tryz.ntmps15
    go_wp2_with fail
    refine (dnone_any w g _ _ H.out).mono ?_
    rintro e _ ⟨rfl, rfl⟩
    go_wp2_with fail
    go_ret
    rw [HP.out]
    exact ⟨rfl, DPost.same H.out⟩
  by_cases h2 : (L : Int) < a
  · have HP : Hid ((⟨cp, b, puts, false, is, np, nb⟩ : Dsk).put a l = (⟨cp, b, puts, false, is, np, nb⟩, 1)) := Lw.hid (by unfold Dsk.put; rw [if_neg (by simp), if_pos (.inr (by simp only; rw [HL.out]; exact h2))])
    go_enter Tryz.func15, Tryz.ntmps15
    go_wp2_with fail
    refine (dnone_any w g _ _ H.out).mono ?_
    rintro e _ ⟨rfl, rfl⟩
    go_wp2_with fail
    go_ret
    rw [HP.out]
    exact ⟨rfl, DPost.same H.out⟩
  obtain ⟨k, rfl⟩ : ∃ k : Nat, a = (k : Int) := ⟨a.toNat, by omega⟩
  have hkL : k ≤ L := by omega
  clear h1 h2
  by_cases h3 : (cp : Int) - (k : Int) < (m : Int)
  · have HP : Hid ((⟨cp, b, puts, false, is, np, nb⟩ : Dsk).put (k : Int) l = (⟨cp, b, puts, false, is, np, nb⟩, 7)) := Lw.hid (by unfold Dsk.put; rw [if_neg (by simp), if_neg (by simp only; rw [HL.out]; omega), if_pos (by simp only; rw [HM.out]; exact h3)])
    go_enter Tryz.func15, Tryz.ntmps15
    go_wp2_with fail
    refine (dnone_any w g _ _ H.out).mono ?_
    rintro e _ ⟨rfl, rfl⟩
    go_wp2_with fail
    go_ret
    rw [HP.out]
    exact ⟨rfl, DPost.same H.out⟩
  have hkm : k + m ≤ cp := by omega
  by_cases h4 : is = true ∧ np = 0
  · obtain ⟨rfl, rfl⟩ := h4
    obtain ⟨q, rfl⟩ : ∃ q : Nat, nb = (q : Int) := ⟨nb.toNat, by omega⟩
    obtain ⟨M, hM, hM2⟩ : ∃ M, min q m = M ∧ (M = q ∧ (q : Int) ≤ (m : Int) ∨ M = m ∧ (m : Int) < (q : Int)) := ⟨min q m, rfl, by omega⟩
    have HP : Hid ((⟨cp, b, puts, false, true, 0, (q : Int)⟩ : Dsk).put (k : Int) l = (⟨cp, lay b k (l.take M), puts, true, false, 0, 0⟩, 10)) := Lw.hid (by
      unfold Dsk.put
      rw [if_neg (by simp), if_neg (by simp only; rw [HL.out]; omega), if_neg (by simp only; rw [HM.out]; omega), if_pos ⟨rfl, rfl⟩]
      simp only [Int.toNat_natCast]
      rw [HM.out, hM])
    have hMm : M ≤ m := by omega
    have HRM : Hid (RdB w (.slice ads M caps) (l.take M)) := Lw.hid (by have := HS.out; rw [← HM.out] at this; exact this.take _ (by rw [HM.out]; exact hMm))
    have HDM : Hid ((l.take M).length ≠ 0 → ∀ i, blk (.slice ads M caps) i → i ≠ g ∧ ¬ blk (.slice ad L cap) i) := Lw.hid (fun hn i hi => HD.out (by rw [List.length_take] at hn; omega) i (by cases ads with | none => exact (blk_none hi).elim | some x => rw [blk_some hi]; rfl))
    have hML : (l.take M).length = M := by rw [List.length_take, HM.out]; omega
    have HML := Lw.hid hML
    clear hM hML
    rcases hM2 with ⟨rfl, hle⟩ | ⟨rfl, hle⟩
    all_goals
      go_enter Tryz.func15, Tryz.ntmps15
      go_wp2_with fail
      refine (dnone_any w g _ _ H.out).mono ?_
      rintro e _ ⟨rfl, rfl⟩
      go_wp2_with fail
      refine (dlay_any w g _ _ H.out k (.slice ads M caps) (l.take M) HRM.out HDM.out (by simp only; rw [HL.out]; exact hkL) (by rw [HML.out]; omega) (by simp only; rw [HL.out]; omega)).mono ?_
      rintro e w1 ⟨rfl, v1, d1, k1, f1⟩
      simp only at d1
      have hb1 := d1.box
      have D1 := Lw.hid d1; have K1 := Lw.hid k1; have F1 := Lw.hid f1
      clear d1 k1 f1
      have e4 := heap_cell hb1 4; have e5 := heap_cell hb1 5; have e6 := heap_cell hb1 6; have e7 := heap_cell hb1 7
      have g4 := heap_free hb1 4; have g5 := heap_free hb1 5; have g6 := heap_free hb1 6; have g7 := heap_free hb1 7
      have HB1 := Lw.hid hb1
      clear hb1
      go_wp2_with fail
      go_ret
      rw [HP.out]
      exact ⟨rfl, DPost.next D1.out K1.out F1.out (D1.out.set (D' := ⟨cp, lay b k (l.take M), puts, true, false, 0, 0⟩) rfl _ (((((Kept.refl (fun k => k = g) w1).set g 4 (fun _ => rfl) _).set g 5 (fun _ => rfl) _).set g 6 (fun _ => rfl) _).set g 7 (fun _ => rfl) _) (heap_set (heap_set (heap_set (heap_set HB1.out 4 (.bool true)) 5 (.bool false)) 6 (.int .i64 0)) 7 (.int .i64 0)))⟩
  have HP : Hid ((⟨cp, b, puts, false, is, np, nb⟩ : Dsk).put (k : Int) l = (⟨cp, lay b k l, puts + 1, false, is, np - 1, nb⟩, 0)) := Lw.hid (by
    unfold Dsk.put
    rw [if_neg (by simp), if_neg (by simp only; rw [HL.out]; omega), if_neg (by simp only; rw [HM.out]; omega), if_neg h4]
    simp)
  have hgo : is = false ∨ is = true ∧ ¬ np = 0 := by cases is <;> simp at h4 ⊢; exact h4
  clear h4
  rcases hgo with rfl | ⟨rfl, h4⟩
  all_goals
    go_enter Tryz.func15, Tryz.ntmps15
    go_wp2_with fail
    refine (dnone_any w g _ _ H.out).mono ?_
    rintro e _ ⟨rfl, rfl⟩
    go_wp2_with fail
    refine (dlay_any w g _ _ H.out k (.slice ads m caps) l HS.out (fun hn => HD.out (HM.out ▸ hn)) (by simp only; rw [HL.out]; exact hkL) (by rw [HM.out]; omega) (by simp only; rw [HL.out]; omega)).mono ?_
    rintro e w1 ⟨rfl, v1, d1, k1, f1⟩
    simp only at d1
    have hb1 := d1.box
    have D1 := Lw.hid d1; have K1 := Lw.hid k1; have F1 := Lw.hid f1
    clear d1 k1 f1
    have e3 := heap_cell hb1 3; have e6 := heap_cell hb1 6
    have g3 := heap_free hb1 3; have g6 := heap_free hb1 6
    have HB1 := Lw.hid hb1
    clear hb1
    go_wp2_with fail
    go_ret
    rw [HP.out]
    exact ⟨rfl, DPost.next D1.out K1.out F1.out (D1.out.set (D' := ⟨cp, lay b k l, puts + 1, false, _, np - 1, nb⟩) rfl _ (((Kept.refl (fun k => k = g) w1).set g 3 (fun _ => rfl) _).set g 6 (fun _ => rfl) _) (heap_set (heap_set HB1.out 3 (.int .i64 ((puts + 1 : Nat) : Int))) 6 (.int .i64 (np - 1))))⟩
set_option maxHeartbeats 4000000 in
theorem dcopy_any (w : World) (g : Nat) (v : Value) (D : Dsk) (h : DiskAt w g v D) (hD : D.b.length ≤ 1048576) :
    Calls Tryz.prog 7 #[.pointer (some ⟨g, 0, none⟩)] w fun e w' => ∃ g' v', e = .returned (.pointer (some ⟨g', 0, none⟩)) ∧ DiskAt w' g' v' D ∧ Kept (fun _ => False) w w' ∧ w.heap.size ≤ g' ∧ ∀ k, blk v' k → w.heap.size ≤ k := by
  obtain ⟨ad, cap, rfl, hc1, hc2, hc3⟩ := own_slice h.own
  have c0 := heap_cell h.box 0; have c1 := heap_cell h.box 1; have c2 := heap_cell h.box 2; have c3 := heap_cell h.box 3; have c4 := heap_cell h.box 4; have c5 := heap_cell h.box 5; have c6 := heap_cell h.box 6; have c7 := heap_cell h.box 7
  have hgl := heap_lt h.box
  have H := Lw.hid h
  clear h hc3
  unfold maxLen at hc2
  obtain ⟨cp, b, puts, st, is, np, nb⟩ := D
  simp only at c0 c1 c2 c3 c4 c5 c6 c7 hc1 hD
  go_enter Tryz.func7, Tryz.ntmps7
  go_wp2_with fail
  refine (dnone_any w g _ _ H.out).mono ?_
  rintro e _ ⟨rfl, rfl⟩
  go_wp2_with fail
  have hal := (Kept.refl (fun _ => False) w).alloc (.cells #[.bool true, .int .i64 (cp : Int), .slice ad b.length cap, .int .i64 (puts : Int), .bool st, .bool is, .int .i64 np, .int .i64 nb] 60)
  have hbn := heap_alloc w (.cells #[.bool true, .int .i64 (cp : Int), .slice ad b.length cap, .int .i64 (puts : Int), .bool st, .bool is, .int .i64 np, .int .i64 nb] 60)
  have hrd : RdB (w.alloc (.cells #[.bool true, .int .i64 (cp : Int), .slice ad b.length cap, .int .i64 (puts : Int), .bool st, .bool is, .int .i64 np, .int .i64 nb] 60)) (.slice ad b.length cap) b := (RdB.of_own H.out.own rfl).alloc _
  refine (clone_any _ _ b hrd (by omega)).mono ?_
  rintro e w2 ⟨v2, rfl, o2, k2, f2⟩
  obtain ⟨a2, p2, rfl, _, _, _⟩ := own_slice o2
  have hbn2 := k2.heap hbn (fun h => h)
  have e2 := heap_cell hbn2 2
  have z2 := heap_free hbn2 2
  have HBN := Lw.hid hbn2; have HO := Lw.hid o2; have HK := Lw.hid (hal.trans k2 (fun _ _ h => h)); have HF := Lw.hid f2
  clear hal hbn hrd o2 k2 f2 hbn2
  go_wp2_with fail
  go_ret
  have hnew : ∀ k, blk (.slice a2 b.length p2) k → w.heap.size + 1 ≤ k := fun k hk => by have := HF.out k hk; simpa using this
  have hne : ¬ blk (.slice a2 b.length p2) w.heap.size := fun h => by have := hnew _ h; omega
  refine ⟨w.heap.size, _, rfl, ⟨heap_set HBN.out 2 _, own_setCell (p := ⟨w.heap.size, 2, none⟩) HO.out hne _, hne⟩, ?_, Nat.le_refl _, fun k hk => by have := hnew k hk; omega⟩
  have hks : Kept (fun q => q = w.heap.size) w (w2.setCell ⟨w.heap.size, 2, none⟩ (.slice a2 b.length p2)) := Kept.set (S := fun q => q = w.heap.size) (HK.out.mono (fun _ _ h => h.elim)) w.heap.size 2 (fun _ => rfl) _
  exact hks.mono (fun i hi e => by omega)
end Go.Proofs.YtgegjjnfcnalfaaGreatDoor
namespace Go.Lw
open Go Go.RowKit
def BA (l : List UInt8) : ByteArray := ⟨l.toArray⟩
theorem BA_of (s : ByteArray) : s = BA s.data.toList := by unfold BA; cases s; simp
theorem BA_size (l : List UInt8) : (BA l).size = l.length := by unfold BA; simp [ByteArray.size]
theorem BA_extract (l : List UInt8) (a b : Nat) : (BA l).extract a b = BA ((l.take b).drop a) := by
  apply ByteArray.ext
  show ((BA l).extract a b).data = _
  rw [ByteArray.data_extract]
  unfold BA
  apply Array.ext'
  simp [List.drop_take]
theorem BA_head (l : List UInt8) (n : Nat) : (BA l).extract 0 n = BA (l.take n) := by
  rw [BA_extract, List.drop_zero]
theorem BA_append (a b : List UInt8) : BA a ++ BA b = BA (a ++ b) := by
  apply ByteArray.ext
  show (BA a ++ BA b).data = _
  rw [ByteArray.data_append]
  unfold BA
  simp
theorem BA_beq (a b : List UInt8) : (BA a == BA b) = (a == b) := by
  show (a.toArray == b.toArray) = (a == b)
  simp
theorem BA_toList (l : List UInt8) : (BA l).toList = l := by rw [ByteArray.toList_eq]; rfl
theorem BA_nil : BA [] = ⟨#[]⟩ := rfl
theorem BA_ne_nil {l : List UInt8} (h : l ≠ []) : (BA l == (⟨#[]⟩ : ByteArray)) = false := by
  rw [← BA_nil, BA_beq]
  cases l <;> simp_all
def RV (v : Value) : Option (DataW Value × List MemPlace) := some (.held v, [])
theorem kept_grown {a w w' : World} {row : Option Nat} (h : Kept (fun _ => False) a w) (hg : w.grownBy w' row) (hr : ∀ k, row = some k → a.heap.size ≤ k) : Kept (fun _ => False) a w' :=
  h.grown hg (fun k hk hl => by have := hr k hk; omega)
theorem kept_by {w w' : World} (h : Kept (fun _ => False) w w') : w.grownBy w' none := ⟨h.os, h.tape, h.output, h.size, fun k hk _ => h.block k hk (fun h => h)⟩
theorem isMap_of {P : Program} {k : TypeId} {R : Value → Option (DataW Value × List MemPlace)} {w : World} {b n : Nat} {D : DataW Value} (h : w.ownsMap P k R b n D) : Maps.IsMap D := by
  obtain ⟨es, clock, _, _, _, hD⟩ := h
  exact ⟨_, hD⟩
section
variable {P : Program} {w : World} {ops : Array Oper} {rest : List Oper} {o : Oper} {a : Act} {Q : Exit → Act → World → Prop}
end
end Go.Lw
namespace Go.Lw
def tab : List Nat := [0, 498536548, 997073096, 651767980, 1994146192, 1802195444, 1303535960, 1342533948, 3988292384, 4027552580, 3604390888, 3412177804, 2607071920, 2262029012, 2685067896, 3183342108]
def halfN (n : Nat) : Nat := (n / 16) ^^^ tab.getD (n % 16) 0
theorem tab_lt (i : Nat) : tab.getD i 0 < 4294967296 := by
  rcases Nat.lt_or_ge i 16 with h | h
  · revert i; decide
  · have : tab.length ≤ i := h
    simp [List.getD_eq_getElem?_getD, List.getElem?_eq_none this]
theorem halfN_lt (n : Nat) (h : n < 4294967296) : halfN n < 4294967296 := by
  unfold halfN
  exact Nat.xor_lt_two_pow (n := 32) (by omega) (tab_lt _)
def crcStep (n : Nat) (c : UInt8) : Nat := halfN (halfN (n ^^^ c.toNat))
def crcReg (l : List UInt8) : Nat := l.foldl crcStep 4294967295
def crcN (l : List UInt8) : Nat := 4294967295 - crcReg l
theorem crcStep_lt (n : Nat) (c : UInt8) (h : n < 4294967296) : crcStep n c < 4294967296 :=
  halfN_lt _ (halfN_lt _ (Nat.xor_lt_two_pow (n := 32) h (by have := c.toNat_lt; omega)))
theorem crcReg_lt' (l : List UInt8) : ∀ n, n < 4294967296 → l.foldl crcStep n < 4294967296 := by
  induction l with
  | nil => intro n h; exact h
  | cons c l ih => intro n h; exact ih _ (crcStep_lt _ _ h)
theorem crcReg_lt (l : List UInt8) : crcReg l < 4294967296 := crcReg_lt' l _ (by decide)
theorem crcN_lt (l : List UInt8) : crcN l < 4294967296 := by unfold crcN; omega
theorem crcReg_snoc (l : List UInt8) (c : UInt8) : crcReg (l ++ [c]) = crcStep (crcReg l) c := by simp [crcReg, List.foldl_append]
end Go.Lw
namespace Go.Proofs.YtgegjjnfcnalfaaGreatDoor
open Go Go.RowKit Go.Lw
def Tab (w : World) : Prop := ∀ i, i < 16 → w.cell? ⟨0, i, none⟩ = some (.int .u32 ((tab.getD i 0 : Nat) : Int))
theorem Tab.below {a b : World} (h : Tab a) (k : Below a.heap.size a b) : Tab b := fun i hi =>
  (k.cell (p := ⟨_, i, none⟩) (World.block_lt_of_cell? a _ (h i hi))).trans (h i hi)
theorem half_any (n : Nat) (w : World) (h1 : n < 4294967296) (ht : Tab w) :
    Calls Tryz.prog 119 #[.int .u32 (n : Int)] w fun e w' => e = .returned (.int .u32 ((halfN n : Nat) : Int)) ∧ w = w' := by
  have ec := ht (n % 16) (by omega)
  have hb := tab_lt (n % 16)
  have e2 : bits .and .u32 (n : Int) 15 = ((n % 16 : Nat) : Int) := by
    have := u32_and_nat n 15 h1 (by decide)
    rw [nat_mask4] at this; simpa using this
  have e3 : bits .xor .u32 ((n : Int) / 16) ((tab.getD (n % 16) 0 : Nat) : Int) = ((halfN n : Nat) : Int) := u32_xor_nat (n / 16) _ (by omega) hb
  have hm : n % 16 < 16 := by omega
  generalize hg : tab.getD (n % 16) 0 = g at *
  generalize hh : halfN n = h at *
  clear hg hh ht hb
  generalize hq : n % 16 = q at *
  clear hq
  go_enter Tryz.func119, Tryz.ntmps119
  go_wp2
  go_ret
  exact ⟨rfl, rfl⟩
theorem xor_byte (n : Nat) (c : UInt8) (h : n < 4294967296) : bits .xor .u32 (n : Int) (c.toNat : Int) = ((n ^^^ c.toNat : Nat) : Int) :=
  u32_xor_nat n c.toNat h (by have := c.toNat_lt; omega)
theorem xor_max (n : Nat) (h : n < 2 ^ 32) : n ^^^ 4294967295 = 4294967295 - n := by
  have := BitVec.xor_allOnes (x := BitVec.ofNat 32 n)
  have := congrArg BitVec.toNat this
  simpa [Nat.mod_eq_of_lt h, Nat.xor_comm] using this
theorem not_u32 (n : Nat) (h : n < 4294967296) : bits .xor .u32 IntKind.u32.max (n : Int) = ((4294967295 - n : Nat) : Int) := by
  rw [show IntKind.u32.max = ((4294967295 : Nat) : Int) from by decide, u32_xor_nat _ _ (by decide) h, Nat.xor_comm, xor_max n h]
set_option maxHeartbeats 400000 in
theorem crc_any (v : Value) (l : List UInt8) (w : World) (hv : RdB w v l) (ht : Tab w) :
    Calls Tryz.prog 106 #[v] w fun e w' => e = .returned (.int .u32 ((crcN l : Nat) : Int)) ∧ w = w' := by
  obtain ⟨a, cap, rfl, h1, h2, hc⟩ := hv.open
  have HT := Lw.hid ht; clear ht
  have HC := Lw.hid hc; clear hc hv
  unfold maxLen at h2
  have hlen : l.length ≤ 9223372036854775807 := by omega
  clear h1 h2
  go_enter Tryz.func106, Tryz.ntmps106
  go_wp2
  go_loop [3, 8] (fun n i => ∃ k : Nat, k ≤ l.length ∧ i = .int .i64 k ∧ n = .int .u32 ((crcReg (l.take k) : Nat) : Int)) (fun _ i => l.length - (intOf i).toNat)
  case atStart => exact ⟨0, Nat.zero_le _, rfl, rfl⟩
  case round =>
    obtain ⟨k, hk, rfl, rfl⟩ := hrel
    have hr := crcReg_lt (l.take k)
    by_cases hlt : k < l.length
    · have HS : Hid (crcReg (l.take (k + 1)) = crcStep (crcReg (l.take k)) l[k]) := by rw [take_snoc _ _ hlt]; exact crcReg_snoc _ _
      obtain ⟨g, off, rfl, hcell⟩ := HC.out k hlt
      have hx : (crcReg (l.take k) ^^^ l[k].toNat) < 4294967296 := Nat.xor_lt_two_pow (n := 32) hr (by have := l[k].toNat_lt; omega)
      have hcb := l[k].toNat_lt
      have ex := xor_byte _ l[k] hr
      unfold crcStep at HS
      generalize crcReg (l.take k) = r at *
      generalize l[k].toNat = c at *
      generalize r ^^^ c = q at *
      have hh := halfN_lt q hx
      go_wp2_with fail
      refine (half_any q _ hx HT.out).mono ?_
      rintro e w' ⟨rfl, rfl⟩
      go_wp2_with fail
      refine (half_any (halfN q) _ hh HT.out).mono ?_
      rintro e w' ⟨rfl, rfl⟩
      go_wp2_with fail
      go_round
      case rel => exact ⟨k + 1, by omega, by go_num, by rw [HS.out]⟩
      case measure => simp [intOf]; omega
    · have hq : l.take k = l := List.take_of_length_le (by omega)
      clear hr
      have hr := crcReg_lt l
      have en := not_u32 _ hr
      rw [hq]
      clear hq
      go_wp2_with fail
      go_ret
      exact ⟨ret_int rfl, rfl⟩
end Go.Proofs.YtgegjjnfcnalfaaGreatDoor
