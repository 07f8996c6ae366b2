/- Of the proof of TopBooks: Disk, Disk2, Disk3. -/
import Derived.Test.YtgegjjnfcnalfaaGreatDoorG02
import Derived.Test.YtgegjjnfcnalfaaGreatDoorG03
namespace Go.Proofs.YtgegjjnfcnalfaaGreatDoor
open Go Go.RowKit Go.Lw
set_option maxRecDepth 100000
structure Dsk where
  cap : Nat
  b : List UInt8
  puts : Nat
  stopped : Bool
  is : Bool
  np : Int
  nb : Int
def lay (b : List UInt8) (a : Nat) (l : List UInt8) : List UInt8 := b.take a ++ (l ++ b.drop (a + l.length))
theorem lay_len {b : List UInt8} {a : Nat} {l : List UInt8} (h : a ≤ b.length) : (lay b a l).length = max b.length (a + l.length) := by simp [lay]; omega
def Dsk.put (D : Dsk) (a : Int) (l : List UInt8) : Dsk × Nat :=
  if D.stopped then (D, 10)
  else if a < 0 ∨ (D.b.length : Int) < a then (D, 1)
  else if (D.cap : Int) - a < l.length then (D, 7)
  else if D.is = true ∧ D.np = 0 then ({ D with b := lay D.b a.toNat (l.take (min D.nb.toNat l.length)), stopped := true, is := false, np := 0, nb := 0 }, 10)
  else ({ D with b := lay D.b a.toNat l, puts := D.puts + 1, np := D.np - 1 }, 0)
def Dsk.plan (D : Dsk) (p n : Int) : Dsk × Nat :=
  if D.stopped then (D, 10) else if p < 0 ∨ n < 0 then (D, 1) else ({ D with is := true, np := p, nb := n }, 0)
def Dsk.revive (D : Dsk) : Dsk × Nat := if D.stopped then ({ D with stopped := false }, 0) else (D, 10)
def Dsk.rd (D : Dsk) (a n : Int) : List UInt8 := if a < 0 ∨ n < 0 ∨ (D.b.length : Int) < a then [] else (D.b.drop a.toNat).take n.toNat
structure Dsk.ok (D : Dsk) : Prop where
  len : D.b.length ≤ D.cap
  cap : D.cap ≤ 1048576
  puts : D.puts < 4611686018427387904
  lo : -4611686018427387904 < D.np
  hi : D.np ≤ 9223372036854775807
  plan : D.is = true → 0 ≤ D.np ∧ 0 ≤ D.nb
  nb : -1 < D.nb ∧ D.nb ≤ 9223372036854775807
abbrev dbox (D : Dsk) (v : Value) : Obj := .cells #[.bool true, .int .i64 (D.cap : Int), v, .int .i64 (D.puts : Int), .bool D.stopped, .bool D.is, .int .i64 D.np, .int .i64 D.nb] 60 (0, 0)
structure DiskAt (w : World) (g : Nat) (v : Value) (D : Dsk) : Prop where
  box : w.heap[g]? = some (dbox D v)
  own : w.ownsRow 0 5 1 v D.b.length (D.b.map bv)
  apart : ¬ blk v g
theorem DiskAt.kept {S : Nat → Prop} {w w' : World} {g : Nat} {v : Value} {D : Dsk} (h : DiskAt w g v D) (k : Kept S w w') (hg : ¬ S g) (hv : ∀ b, blk v b → ¬ S b) : DiskAt w' g v D :=
  ⟨k.heap h.box hg, own_kept k h.own hv, h.apart⟩
def DPost (w w' : World) (g : Nat) (v : Value) (D : Dsk) : Prop := ∃ v', DiskAt w' g v' D ∧ Kept (fun k => k = g ∨ blk v k) w w' ∧ ∀ k, blk v' k → blk v k ∨ w.heap.size ≤ k
theorem DPost.same {w : World} {g : Nat} {v : Value} {D : Dsk} (h : DiskAt w g v D) : DPost w w g v D := ⟨v, h, Kept.refl _ _, fun _ h => .inl h⟩
set_option maxHeartbeats 1000000 in
theorem dnone_any (w : World) (g : Nat) (v : Value) (D : Dsk) (h : DiskAt w g v D) :
    Calls Tryz.prog 32 #[.pointer (some ⟨g, 0, none⟩)] w fun e w' => e = .returned (.bool false) ∧ w = w' := by
  have c0 := heap_cell h.box 0
  clear h
  go_enter Tryz.func32, Tryz.ntmps32
  go_wp2_with fail
  go_ret
  exact ⟨rfl, rfl⟩
set_option maxHeartbeats 1000000 in
theorem dnew_any (w : World) (n : Nat) (hn : n ≤ 1048576) :
    Calls Tryz.prog 4 #[.int .i64 (n : Int)] w fun e w' => ∃ g, e = .returned (.tuple #[.pointer (some ⟨g, 0, none⟩), .int .i64 0]) ∧ DiskAt w' g (.slice none 0 0) ⟨n, [], 0, false, false, 0, 0⟩ ∧ Kept (fun _ => False) w w' ∧ w.heap.size ≤ g := by
  have h1 : ¬ (n : Int) < 0 := by omega
  have h2 : ¬ (1048576 : Int) < (n : Int) := by omega
  go_enter Tryz.func4, Tryz.ntmps4
  go_wp2_with fail
  refine bodyPost_ret (v := .tuple #[.pointer (some ⟨w.heap.size, 0, none⟩), .int .i64 0]) (by simp [results, go_sem]) rfl ?_
  exact ⟨w.heap.size, rfl, ⟨heap_alloc _ _, World.ownsRow_nil _ 0 _ 1, fun h => by cases h⟩, (Kept.refl _ _).alloc _, Nat.le_refl _⟩
set_option maxHeartbeats 1000000 in
theorem dend_any (w : World) (g : Nat) (v : Value) (D : Dsk) (h : DiskAt w g v D) :
    Calls Tryz.prog 12 #[.pointer (some ⟨g, 0, none⟩)] w fun e w' => e = .returned (.int .i64 (D.b.length : Int)) ∧ w = w' := by
  obtain ⟨ad, cap, rfl, _, _, _⟩ := own_slice h.own
  have c2 := heap_cell h.box 2
  have H := Lw.hid h
  clear h
  go_enter Tryz.func12, Tryz.ntmps12
  go_wp2_with fail
  refine (dnone_any w g _ D H.out).mono ?_
  rintro e _ ⟨rfl, rfl⟩
  go_wp2_with fail
  go_ret
  exact ⟨rfl, rfl⟩
set_option maxHeartbeats 1000000 in
theorem dstopped_any (w : World) (g : Nat) (v : Value) (D : Dsk) (h : DiskAt w g v D) :
    Calls Tryz.prog 53 #[.pointer (some ⟨g, 0, none⟩)] w fun e w' => e = .returned (.bool D.stopped) ∧ w = w' := by
  have c2 := heap_cell h.box 4
  have H := Lw.hid h
  clear h
  go_enter Tryz.func53, Tryz.ntmps53
  go_wp2_with fail
  refine (dnone_any w g _ D H.out).mono ?_
  rintro e _ ⟨rfl, rfl⟩
  go_wp2_with fail
  go_ret
  exact ⟨rfl, rfl⟩
theorem DiskAt.set {w : World} {g : Nat} {v : Value} {D D' : Dsk} (h : DiskAt w g v D) (hb : D'.b = D.b) (W : World) (hk : Kept (fun k => k = g) w W) (hbox : W.heap[g]? = some (dbox D' v)) : DPost w W g v D' :=
  ⟨v, ⟨hbox, by rw [hb]; exact own_kept hk h.own (fun k hk e => h.apart (e ▸ hk)), h.apart⟩, hk.mono (fun _ _ h => .inl h), fun _ h => .inl h⟩
set_option maxHeartbeats 1000000 in
theorem drevive_any (w : World) (g : Nat) (v : Value) (D : Dsk) (h : DiskAt w g v D) :
    Calls Tryz.prog 17 #[.pointer (some ⟨g, 0, none⟩)] w fun e w' => e = .returned (.int .i64 (D.revive.2 : Int)) ∧ DPost w w' g v D.revive.1 := by
  have c2 := heap_cell h.box 4
  have f2 := heap_free h.box 4
  have H := Lw.hid h
  obtain ⟨st, hst⟩ : ∃ st, D.stopped = st := ⟨_, rfl⟩
  have HST := Lw.hid hst
  rw [hst] at c2
  clear h hst
  have hs : Hid ((w.setCell ⟨g, 4, none⟩ (.bool false)).heap[g]? = some (dbox { D with stopped := false } v)) := Lw.hid (heap_set H.out.box 4 (.bool false))
  have hq := H.out.set (D' := { D with stopped := false }) rfl _ ((Kept.refl (fun k => k = g) w).set g 4 (fun _ => rfl) (.bool false)) hs.out
  have HQ := Lw.hid hq
  clear hs hq
  cases st
  · go_enter Tryz.func17, Tryz.ntmps17
    go_wp2_with fail
    refine (dnone_any w g _ D H.out).mono ?_
    rintro e _ ⟨rfl, rfl⟩
    go_wp2_with fail
    go_ret
    unfold Dsk.revive
    rw [HST.out]
    exact ⟨rfl, DPost.same H.out⟩
  · go_enter Tryz.func17, Tryz.ntmps17
    go_wp2_with fail
    refine (dnone_any w g _ D H.out).mono ?_
    rintro e _ ⟨rfl, rfl⟩
    go_wp2_with fail
    go_ret
    unfold Dsk.revive
    rw [HST.out]
    exact ⟨rfl, HQ.out⟩
set_option maxHeartbeats 1000000 in
theorem dplan_any (w : World) (g : Nat) (v : Value) (D : Dsk) (h : DiskAt w g v D) (p n : Int) :
    Calls Tryz.prog 14 #[.pointer (some ⟨g, 0, none⟩), .int .i64 p, .int .i64 n] w fun e w' => e = .returned (.int .i64 ((D.plan p n).2 : Int)) ∧ DPost w w' g v (D.plan p n).1 := by
  have c4 := heap_cell h.box 4
  have f5 := heap_free h.box 5; have f6 := heap_free h.box 6; have f7 := heap_free h.box 7
  have d5 := heap_cell h.box 5; have d6 := heap_cell h.box 6; have d7 := heap_cell h.box 7
  have H := Lw.hid h
  obtain ⟨st, hst⟩ : ∃ st, D.stopped = st := ⟨_, rfl⟩
  have HST := Lw.hid hst
  rw [hst] at c4
  clear h hst
  have hs := heap_set (heap_set (heap_set H.out.box 5 (.bool true)) 6 (.int .i64 p)) 7 (.int .i64 n)
  have hq := H.out.set (D' := { D with is := true, np := p, nb := n }) rfl _ ((((Kept.refl (fun k => k = g) w).set g 5 (fun _ => rfl) (.bool true)).set g 6 (fun _ => rfl) (.int .i64 p)).set g 7 (fun _ => rfl) (.int .i64 n)) hs
  have HQ := Lw.hid hq
  clear hs hq
  cases st
  · by_cases hp : p < 0
    · go_enter Tryz.func14, Tryz.ntmps14
      go_wp2_with fail
      refine (dnone_any w g _ D H.out).mono ?_
      rintro e _ ⟨rfl, rfl⟩
      go_wp2_with fail
      go_ret
      unfold Dsk.plan
      rw [HST.out, if_neg (by decide), if_pos (.inl hp)]
      exact ⟨rfl, DPost.same H.out⟩
    by_cases hn : n < 0
    · go_enter Tryz.func14, Tryz.ntmps14
      go_wp2_with fail
      refine (dnone_any w g _ D H.out).mono ?_
      rintro e _ ⟨rfl, rfl⟩
      go_wp2_with fail
      go_ret
      unfold Dsk.plan
      rw [HST.out, if_neg (by decide), if_pos (.inr hn)]
      exact ⟨rfl, DPost.same H.out⟩
    · go_enter Tryz.func14, Tryz.ntmps14
      go_wp2_with fail
      refine (dnone_any w g _ D H.out).mono ?_
      rintro e _ ⟨rfl, rfl⟩
      go_wp2_with fail
      go_ret
      rw [show D.plan p n = ({ D with is := true, np := p, nb := n }, 0) by unfold Dsk.plan; rw [if_neg (by rw [HST.out]; decide), if_neg (by omega)]]
      exact ⟨rfl, HQ.out⟩
  · go_enter Tryz.func14, Tryz.ntmps14
    go_wp2_with fail
    refine (dnone_any w g _ D H.out).mono ?_
    rintro e _ ⟨rfl, rfl⟩
    go_wp2_with fail
    go_ret
    unfold Dsk.plan
    rw [HST.out]
    exact ⟨rfl, DPost.same H.out⟩
theorem rd_cast {w : World} {ad : Option Addr} {n cap : Nat} {l : List UInt8} (hn : l.length = n) (h : RdB w (.slice ad n cap) l) : Rd w 1 (.slice ad n cap) n (l.map bv) := by subst hn; exact h
theorem own_cast {w : World} {v : Value} {n : Nat} {l : List UInt8} (hn : l.length = n) (h : w.ownsRow 0 5 1 v l.length (l.map bv)) : w.ownsRow 0 5 1 v n (l.map bv) := by subst hn; exact h
def IsOwn (b0 : Nat) (l : List UInt8) (v : Value) (w : World) : Prop := w.ownsRow 0 5 1 v l.length (l.map bv) ∧ ∀ k, blk v k → b0 ≤ k
def stOwn (b0 : Nat) (l : List UInt8) : Stable := ⟨IsOwn b0 l, fun _ _ _ hk h => ⟨own_kept hk h.1 (fun _ _ h => h), h.2⟩⟩
set_option maxHeartbeats 4000000 in
theorem dread_any (w : World) (g : Nat) (v : Value) (D : Dsk) (h : DiskAt w g v D) (hD : D.b.length ≤ 1048576) (a n : Int) (ha : -9223372036854775808 ≤ a ∧ a ≤ 9223372036854775807) (hn : -9223372036854775808 ≤ n ∧ n ≤ 9223372036854775807) :
    Calls Tryz.prog 16 #[.pointer (some ⟨g, 0, none⟩), .int .i64 a, .int .i64 n] w fun e w' => ∃ r, e = .returned r ∧ w'.ownsRow 0 5 1 r (D.rd a n).length ((D.rd a n).map bv) ∧ Kept (fun _ => False) w w' ∧ ∀ k, blk r k → w.heap.size ≤ k := by
  obtain ⟨ad, cap, rfl, hc1, hc2, _⟩ := own_slice h.own
  have c2 := heap_cell h.box 2
  have H := Lw.hid h
  clear h
  obtain ⟨L, hL⟩ : ∃ L, D.b.length = L := ⟨_, rfl⟩
  have HL := Lw.hid hL
  rw [hL] at c2 hD hc1 H
  have hno : ∀ (hq : D.rd a n = []), ∃ r, Ending.returned (.slice none 0 0) = .returned r ∧ w.ownsRow 0 5 1 r (D.rd a n).length ((D.rd a n).map bv) ∧ Kept (fun _ => False) w w ∧ ∀ k, blk r k → w.heap.size ≤ k := fun hq => by
    rw [hq]; exact ⟨_, rfl, World.ownsRow_nil _ 0 _ 1, Kept.refl _ _, fun k hk => (blk_none hk).elim⟩
  have HNO := Lw.hid hno
  clear hno hL
  by_cases h1 : a < 0
  · have HR : Hid (D.rd a n = []) := Lw.hid (by unfold Dsk.rd; rw [if_pos (.inl h1)])
    go_enter Tryz.func16, Tryz.ntmps16
    go_wp2_with fail
    refine (dnone_any w g _ D H.out).mono ?_
    rintro e _ ⟨rfl, rfl⟩
    go_wp2_with fail
    go_ret
    exact HNO.out HR.out
  by_cases h2 : n < 0
  · have HR : Hid (D.rd a n = []) := Lw.hid (by unfold Dsk.rd; rw [if_pos (.inr (.inl h2))])
    go_enter Tryz.func16, Tryz.ntmps16
    go_wp2_with fail
    refine (dnone_any w g _ D H.out).mono ?_
    rintro e _ ⟨rfl, rfl⟩
    go_wp2_with fail
    go_ret
    exact HNO.out HR.out
  by_cases h3 : (L : Int) < a
  · have HR : Hid (D.rd a n = []) := Lw.hid (by unfold Dsk.rd; rw [HL.out, if_pos (.inr (.inr h3))])
    go_enter Tryz.func16, Tryz.ntmps16
    go_wp2_with fail
    refine (dnone_any w g _ D H.out).mono ?_
    rintro e _ ⟨rfl, rfl⟩
    go_wp2_with fail
    go_ret
    exact HNO.out HR.out
  obtain ⟨k, hk⟩ : ∃ k : Nat, a = (k : Int) := ⟨a.toNat, by omega⟩
  obtain ⟨m, hm⟩ : ∃ m : Nat, n = (m : Int) := ⟨n.toNat, by omega⟩
  subst hk; subst hm
  have HR : Hid (D.rd (k : Int) (m : Int) = (D.b.drop k).take m) := Lw.hid (by unfold Dsk.rd; rw [HL.out, if_neg (by omega)]; simp)
  have hkl : k ≤ L := by omega
  clear h1 h2 HNO
  obtain ⟨M, hM⟩ : ∃ M, min m (L - k) = M := ⟨_, rfl⟩
  have HM := Lw.hid hM
  have hML : M ≤ L - k := by omega
  have hRT : Hid ((D.b.drop k).take m = (D.b.drop k).take M) := Lw.hid (by
    rw [← hM]
    by_cases hle : m ≤ L - k
    · rw [Nat.min_eq_left hle]
    · rw [Nat.min_eq_right (by omega), List.take_of_length_le (by rw [List.length_drop, HL.out]; omega), List.take_of_length_le (by rw [List.length_drop, HL.out]; omega)])
  go_enter Tryz.func16, Tryz.ntmps16
  go_wp2_with fail
  refine (dnone_any w g _ D H.out).mono ?_
  rintro e _ ⟨rfl, rfl⟩
  go_wp2_with fail
  refine wp_region_tail 17 [stV (.pointer (some ⟨g, 0, none⟩)), stV (.pointer (some ⟨g, 0, none⟩)), stV (.pointer (some ⟨g, 2, none⟩)), stV (.slice ad L cap), stV (.int .i64 (k : Int)), stB (D.b.drop k), stV (.int .i64 (m : Int)), stV (.pointer (some ⟨g, 0, none⟩)), stV (.pointer (some ⟨g, 0, none⟩)), stV (.pointer (some ⟨g, 2, none⟩)), stV (.slice ad L cap), stV (.int .i64 (L : Int)), stV (.int .i64 (k : Int)), stV (.int .i64 ((L : Int) - (k : Int))), stV (.int .i64 (M : Int)), stB ((D.b.drop k).take M), stOwn w.heap.size ((D.b.drop k).take M)] (by kernel_rfl) (by kernel_rfl) ?_ ?_
  · refine ssteps_cons (fun a' w' hI hag hf K hK => ?_) ?_
    · have s0 := hag.same 0 (by decide)
      clear hag
      go_wp2_with fail
      exact hK _ _ hI (Kept.refl _ _) rfl
    refine ssteps_cons (fun a' w' hI hag hf K hK => ?_) ?_
    · obtain ⟨⟨_, h0, rfl⟩, -⟩ : SFacts _ _ a' w' [0] := hf
      clear hag
      go_wp2_with fail
      exact hK _ _ hI (Kept.refl _ _) rfl
    refine ssteps_cons (fun a' w' hI hag hf K hK => ?_) ?_
    · obtain ⟨⟨_, h1, rfl⟩, -⟩ : SFacts _ _ a' w' [1] := hf
      clear hag
      go_wp2_with fail
      exact hK _ _ hI (Kept.refl _ _) rfl
    refine ssteps_cons (fun a' w' hI hag hf K hK => ?_) ?_
    · obtain ⟨⟨_, h2, rfl⟩, -⟩ : SFacts _ _ a' w' [2] := hf
      clear hag
      have c2' := hI.cell c2 (fun h => h)
      go_wp2_with fail
      exact hK _ _ hI (Kept.refl _ _) rfl
    refine ssteps_cons (fun a' w' hI hag hf K hK => ?_) ?_
    · have s1 := hag.same 1 (by decide)
      clear hag
      go_wp2_with fail
      exact hK _ _ hI (Kept.refl _ _) rfl
    refine ssteps_cons (fun a' w' hI hag hf K hK => ?_) ?_
    · obtain ⟨⟨_, h3, rfl⟩, ⟨_, h4, rfl⟩, -⟩ : SFacts _ _ a' w' [3, 4] := hf
      clear hag
      refine wpList_slice_l rfl _ _ _ rfl EB (.slice ad L cap) L _ .i64 (k : Int) k (by simp [Act.eval, h3]) (by simp [Act.eval, h4]) (rd_cast HL.out ((RdB.of_own (own_cast HL.out H.out.own) HL.out.symm).kept hI (fun _ _ h => h))) rfl hkl (fun ad5 c5 hr hb => ?_)
      exact hK _ _ hI (Kept.refl _ _) (RdB.of_drop (by rw [HL.out]; exact hr))
    refine ssteps_cons (fun a' w' hI hag hf K hK => ?_) ?_
    · have s2 := hag.same 2 (by decide)
      clear hag
      go_wp2_with fail
      exact hK _ _ hI (Kept.refl _ _) rfl
    refine ssteps_cons (fun a' w' hI hag hf K hK => ?_) ?_
    · have s0 := hag.same 0 (by decide)
      clear hag
      go_wp2_with fail
      exact hK _ _ hI (Kept.refl _ _) rfl
    refine ssteps_cons (fun a' w' hI hag hf K hK => ?_) ?_
    · obtain ⟨⟨_, h7, rfl⟩, -⟩ : SFacts _ _ a' w' [7] := hf
      clear hag
      go_wp2_with fail
      exact hK _ _ hI (Kept.refl _ _) rfl
    refine ssteps_cons (fun a' w' hI hag hf K hK => ?_) ?_
    · obtain ⟨⟨_, h8, rfl⟩, -⟩ : SFacts _ _ a' w' [8] := hf
      clear hag
      go_wp2_with fail
      exact hK _ _ hI (Kept.refl _ _) rfl
    refine ssteps_cons (fun a' w' hI hag hf K hK => ?_) ?_
    · obtain ⟨⟨_, h9, rfl⟩, -⟩ : SFacts _ _ a' w' [9] := hf
      clear hag
      have c2' := hI.cell c2 (fun h => h)
      go_wp2_with fail
      exact hK _ _ hI (Kept.refl _ _) rfl
    refine ssteps_cons (fun a' w' hI hag hf K hK => ?_) ?_
    · obtain ⟨⟨_, h10, rfl⟩, -⟩ : SFacts _ _ a' w' [10] := hf
      clear hag
      go_wp2_with fail
      exact hK _ _ hI (Kept.refl _ _) rfl
    refine ssteps_cons (fun a' w' hI hag hf K hK => ?_) ?_
    · have s1 := hag.same 1 (by decide)
      clear hag
      go_wp2_with fail
      exact hK _ _ hI (Kept.refl _ _) rfl
    refine ssteps_cons (fun a' w' hI hag hf K hK => ?_) ?_
    · obtain ⟨⟨_, h11, rfl⟩, ⟨_, h12, rfl⟩, -⟩ : SFacts _ _ a' w' [11, 12] := hf
      clear hag
      go_wp2_with fail
      exact hK _ _ hI (Kept.refl _ _) rfl
    refine ssteps_cons (fun a' w' hI hag hf K hK => ?_) ?_
    · obtain ⟨⟨_, h6, rfl⟩, ⟨_, h13, rfl⟩, -⟩ : SFacts _ _ a' w' [6, 13] := hf
      clear hag
      go_wp2_with fail
      all_goals exact hK _ _ hI (Kept.refl _ _) (congrArg (Value.int .i64) (by omega))
    refine ssteps_cons (fun a' w' hI hag hf K hK => ?_) ?_
    · obtain ⟨⟨v5, h5, e5⟩, ⟨_, h14, rfl⟩, -⟩ : SFacts _ _ a' w' [5, 14] := hf
      clear hag
      obtain ⟨ad5, cap5, rfl, _, _, _⟩ := RdB.open (show RdB w' v5 (D.b.drop k) from e5)
      refine wpList_slice_h rfl _ _ _ rfl EB _ (D.b.drop k).length _ .i64 (M : Int) M (by simp [Act.eval, h5]) (by simp [Act.eval, h14]) (show RdB w' _ (D.b.drop k) from e5) rfl (by rw [List.length_drop, HL.out]; exact hML) (fun ad6 c6 hr hb => ?_)
      exact hK _ _ hI (Kept.refl _ _) (RdB.of_take (by rw [List.length_drop, HL.out]; exact hML) hr)
    refine ssteps_cons (fun a' w' hI hag hf K hK => ?_) ?_
    · obtain ⟨⟨v15, h15, e15⟩, -⟩ : SFacts _ _ a' w' [15] := hf
      clear hag
      go_wp2_with fail
      refine (clone_any _ _ ((D.b.drop k).take M) e15 (by rw [List.length_take]; omega)).mono ?_
      rintro e wn ⟨rv, rfl, ho, hkn, hfr⟩
      go_wp2_with fail
      exact hK _ _ (hI.trans hkn (fun _ _ h => h)) hkn ⟨ho, fun q hq => by have := hfr q hq; have := hI.size; omega⟩
    exact trivial
  · intro vs w' hI hvs
    have q0 : vs 0 = (.pointer (some ⟨g, 0, none⟩)) := hvs 0 _ _ rfl rfl
    have q1 : vs 1 = (.pointer (some ⟨g, 0, none⟩)) := hvs 1 _ _ rfl rfl
    have q2 : vs 2 = (.pointer (some ⟨g, 2, none⟩)) := hvs 2 _ _ rfl rfl
    have q3 : vs 3 = (.slice ad L cap) := hvs 3 _ _ rfl rfl
    have q4 : vs 4 = (.int .i64 (k : Int)) := hvs 4 _ _ rfl rfl
    have q5 := hvs 5 _ _ rfl rfl
    have q6 : vs 6 = (.int .i64 (m : Int)) := hvs 6 _ _ rfl rfl
    have q7 : vs 7 = (.pointer (some ⟨g, 0, none⟩)) := hvs 7 _ _ rfl rfl
    have q8 : vs 8 = (.pointer (some ⟨g, 0, none⟩)) := hvs 8 _ _ rfl rfl
    have q9 : vs 9 = (.pointer (some ⟨g, 2, none⟩)) := hvs 9 _ _ rfl rfl
    have q10 : vs 10 = (.slice ad L cap) := hvs 10 _ _ rfl rfl
    have q11 : vs 11 = (.int .i64 (L : Int)) := hvs 11 _ _ rfl rfl
    have q12 : vs 12 = (.int .i64 (k : Int)) := hvs 12 _ _ rfl rfl
    have q13 : vs 13 = (.int .i64 ((L : Int) - (k : Int))) := hvs 13 _ _ rfl rfl
    have q14 : vs 14 = (.int .i64 (M : Int)) := hvs 14 _ _ rfl rfl
    have q15 := hvs 15 _ _ rfl rfl
    have q16 := hvs 16 _ _ rfl rfl
    clear hvs
    simp only [List.take_succ_cons, List.take_zero, List.drop_succ_cons, List.drop_zero, putAll, Act.put, List.setIfInBounds_toArray, List.set_cons_zero, List.set_cons_succ, Nat.reduceAdd, q0, q1, q2, q3, q4, q6, q7, q8, q9, q10, q11, q12, q13, q14]
    clear q0 q1 q2 q3 q4 q6 q7 q8 q9 q10 q11 q12 q13 q14
    generalize vs 5 = x5 at *
    generalize vs 15 = x15 at *
    generalize vs 16 = x16 at *
    go_wp2_with fail
    go_ret
    obtain ⟨o1, o2⟩ : IsOwn w.heap.size ((D.b.drop k).take M) x16 w' := q16
    rw [HR.out, hRT.out]
    exact ⟨x16, rfl, o1, hI, o2⟩
theorem lay_map_in {b : List UInt8} {a : Nat} {l : List UInt8} : (b.map bv).take a ++ (l.map bv ++ (b.map bv).drop (a + l.length)) = (lay b a l).map bv := by
  simp [lay]
theorem lay_map_out {b : List UInt8} {a : Nat} {l : List UInt8} {z : Nat} (h : a ≤ b.length) (hz : b.length + z = a + l.length) :
    (b.map bv ++ List.replicate z (Value.int .u8 0)).take a ++ (l.map bv ++ (b.map bv ++ List.replicate z (Value.int .u8 0)).drop (a + l.length)) = (lay b a l).map bv := by
  rw [List.take_append_of_le_length (by simpa using h), List.drop_eq_nil_of_le (by simp; omega)]
  simp [lay]
  omega
set_option maxHeartbeats 4000000 in
theorem dlay_any (w : World) (g : Nat) (v : Value) (D : Dsk) (h : DiskAt w g v D) (a : Nat) (src : Value) (l : List UInt8) (hs : RdB w src l) (hd : l.length ≠ 0 → ∀ k, blk src k → k ≠ g ∧ ¬ blk v k) (ha : a ≤ D.b.length) (hbig : a + l.length ≤ 1048576) (hD : D.b.length ≤ 1048576) :
    Calls Tryz.prog 50 #[.pointer (some ⟨g, 0, none⟩), .int .i64 (a : Int), src] w fun e w' => e = .returned (.tuple #[]) ∧ DPost w w' g v { D with b := lay D.b a l } := by
  obtain ⟨ad, cap, rfl, hc1, hc2, _⟩ := own_slice h.own
  obtain ⟨ads, caps, rfl, hs1, hs2, _⟩ := hs.open
  have c2 := heap_cell h.box 2
  have f2 := heap_free h.box 2
  have H := Lw.hid h; have HS := Lw.hid hs; have HD := Lw.hid hd
  clear h hs hd
  obtain ⟨L, hL⟩ : ∃ L, D.b.length = L := ⟨_, rfl⟩
  obtain ⟨m, hm⟩ : ∃ m, l.length = m := ⟨_, rfl⟩
  have HL := Lw.hid hL; have HM := Lw.hid hm
  rw [hL] at c2 ha hD hc1 H HD ⊢
  rw [hm] at hs1 hbig HS HD ⊢
  clear hL hm
  have HO : Hid (w.ownsRow 0 5 1 (.slice ad L cap) L (D.b.map bv)) := Lw.hid (own_cast HL.out H.out.own)
  go_enter Tryz.func50, Tryz.ntmps50
  by_cases hz : L < a + m
  · obtain ⟨z, hz'⟩ : ∃ z, L + z = a + m := ⟨a + m - L, by omega⟩
    have HZ := Lw.hid hz'
    clear hz'
    have hpos : decide ((0 : Int) < (a : Int) + (m : Int) - (L : Int)) = true := by simp; omega
    have hpos2 : (0 : Int) < (a : Int) + (m : Int) - (L : Int) := by omega
    have hgl : g < w.heap.size := heap_lt H.out.box
    go_wp2_with first
      | (at_builtin; refine wpList_appz rfl _ _ _ _ rfl Tryz.underlying36 Tryz.underlying9 Tryz.underlying3 rfl rfl rfl rfl (.slice ad L cap) L _ rfl HO.out z (congrArg (Value.int .i64) (by have := HZ.out; omega)) (by have := HZ.out; omega) ?_; intro ad1 cap1 w1 ho hg hf; have O1 := Lw.hid ho; have G1 := Lw.hid hg; have F1 := Lw.hid hf; clear ho hg hf; have kb : Kept (blk (.slice ad L cap)) w w1 := (Kept.refl _ w).grown G1.out (fun k hk _ => hk); have b1 := kb.heap H.out.box H.out.apart; have c2b := heap_cell b1 2; have f2b := heap_free b1 2; have B1 := Lw.hid b1; have KB := Lw.hid kb; clear b1 kb; have hap1 : ¬ blk (.slice ad1 (L + z) cap1) g := fun h => by rcases F1.out g h with h | h; exact H.out.apart h; omega)
      | (refine wpList_slice_own rfl _ _ _ rfl EB (.slice ad1 (L + z) cap1) (L + z) _ .i64 _ a rfl rfl (own_setCell (p := ⟨g, 2, none⟩) O1.out hap1 _) rfl (by have := HZ.out; omega) ?_; intro ad2 c2' hp; have HP := Lw.hid hp; clear hp)
      | (refine wpList_copy rfl _ _ _ _ rfl EB (.slice ad1 (L + z) cap1) (L + z) _ (own_setCell (p := ⟨g, 2, none⟩) O1.out hap1 _) a _ _ rfl HP.out _ m _ rfl (rd_cast HM.out ((HS.out.keptE KB.out (fun hn k hk h => (HD.out (HM.out ▸ hn) k hk).2 h)).keptE ((Kept.refl (fun k => k = g) w1).set g 2 (fun _ => rfl) _) (fun hn k hk h => (HD.out (HM.out ▸ hn) k hk).1 h))) (bytes_oneCell _) (by have := HZ.out; omega) ?_; intro w3 ho hg)
    refine bodyPost_end (v := .tuple #[]) (by simp [results, go_sem]) rfl ?_
    exact ⟨rfl, .slice ad1 (L + z) cap1, ⟨by
      have hb := heap_set B1.out 2 (.slice ad1 (L + z) cap1)
      exact (hg.block g (by simpa using heap_lt hb) (fun h => hap1 h.symm)).trans hb, by
      have h1 := lay_map_out (b := D.b) (a := a) (l := l) (z := z) (by rw [HL.out]; exact ha) (by rw [HL.out, HM.out]; exact HZ.out)
      rw [HM.out] at h1
      rw [h1] at ho
      have h2 : (lay D.b a l).length = L + z := by rw [lay_len (by rw [HL.out]; exact ha), HL.out, HM.out]; have := HZ.out; omega
      rw [h2]; exact ho, hap1⟩, by
      refine (((Kept.refl _ w).grown G1.out (fun k hk _ => .inr hk)).set g 2 (fun _ => .inl rfl) _).grown hg (fun k hk hlt => ?_)
      rcases F1.out k hk with h | h
      · exact .inr h
      · omega, F1.out⟩
  · have hpos : decide ((0 : Int) < (a : Int) + (m : Int) - (L : Int)) = false := by simp; omega
    have hpos2 : ¬ (0 : Int) < (a : Int) + (m : Int) - (L : Int) := by omega
    go_wp2_with first
      | (refine wpList_slice_own rfl _ _ _ rfl EB (.slice ad L cap) L _ .i64 _ a rfl rfl HO.out rfl ha ?_; intro ad2 c2' hp; have HP := Lw.hid hp; clear hp)
      | (refine wpList_copy rfl _ _ _ _ rfl EB (.slice ad L cap) L _ HO.out a _ _ rfl HP.out _ m _ rfl (rd_cast HM.out HS.out) (bytes_oneCell _) (by omega) ?_; intro w2 ho hg)
    refine bodyPost_end (v := .tuple #[]) (by simp [results, go_sem]) rfl ?_
    exact ⟨rfl, .slice ad L cap, ⟨(hg.block g (heap_lt H.out.box) (fun h => H.out.apart h.symm)).trans H.out.box, by
      have h1 := lay_map_in (b := D.b) (a := a) (l := l)
      rw [HM.out] at h1
      rw [h1] at ho
      have h2 : (lay D.b a l).length = L := by rw [lay_len (by rw [HL.out]; exact ha), HL.out, HM.out]; omega
      rw [h2]; exact ho, H.out.apart⟩, (Kept.refl _ w).grown hg (fun k hk _ => .inr hk), fun _ h => .inl h⟩
end Go.Proofs.YtgegjjnfcnalfaaGreatDoor
