/- package disk: Plan, Read, lay. -/
import Derived.Test.YtfmebmaklakckaaDoorDisk
namespace Go.Proofs.YtfmebmaklakckaaDoor
open Go Go.RowKit Go.Lw
set_option maxRecDepth 100000
set_option maxHeartbeats 1000000 in
theorem dplan_any (w : World) (g : Nat) (v : Value) (D : Dsk) (h : DiskAt w g v D) (p n : Int) :
    Calls Tryd.prog 15 #[.pointer (some ⟨g, 0, none⟩), .int .i64 p, .int .i64 n] w fun e w' => e = .returned (.int .i64 ((D.plan p n).2 : Int)) ∧ DPost w w' g v (D.plan p n).1 := by
  have c4 := heap_cell h.box 4
  have f5 := heap_free h.box 5; have f6 := heap_free h.box 6; have f7 := heap_free h.box 7
  have d5 := heap_cell h.box 5; have d6 := heap_cell h.box 6; have d7 := heap_cell h.box 7
  have H := Lw.hid h
  obtain ⟨st, hst⟩ : ∃ st, D.stopped = st := ⟨_, rfl⟩
  have HST := Lw.hid hst
  rw [hst] at c4
  clear h hst
  have hs := heap_set (heap_set (heap_set H.out.box 5 (.bool true)) 6 (.int .i64 p)) 7 (.int .i64 n)
  have hq := H.out.set (D' := { D with is := true, np := p, nb := n }) rfl _ ((((Kept.refl (fun k => k = g) w).set g 5 (fun _ => rfl) (.bool true)).set g 6 (fun _ => rfl) (.int .i64 p)).set g 7 (fun _ => rfl) (.int .i64 n)) hs
  have HQ := Lw.hid hq
  clear hs hq
  cases st
  · by_cases hp : p < 0
    · go_enter Tryd.func15, Tryd.ntmps15
      go_wp2_with fail
      refine (dnone_any w g _ D H.out).mono ?_
      rintro e _ ⟨rfl, rfl⟩
      go_wp2_with fail
      go_ret
      unfold Dsk.plan
      rw [HST.out, if_neg (by decide), if_pos (.inl hp)]
      exact ⟨rfl, DPost.same H.out⟩
    by_cases hn : n < 0
    · go_enter Tryd.func15, Tryd.ntmps15
      go_wp2_with fail
      refine (dnone_any w g _ D H.out).mono ?_
      rintro e _ ⟨rfl, rfl⟩
      go_wp2_with fail
      go_ret
      unfold Dsk.plan
      rw [HST.out, if_neg (by decide), if_pos (.inr hn)]
      exact ⟨rfl, DPost.same H.out⟩
    · go_enter Tryd.func15, Tryd.ntmps15
      go_wp2_with fail
      refine (dnone_any w g _ D H.out).mono ?_
      rintro e _ ⟨rfl, rfl⟩
      go_wp2_with fail
      go_ret
      rw [show D.plan p n = ({ D with is := true, np := p, nb := n }, 0) by unfold Dsk.plan; rw [if_neg (by rw [HST.out]; decide), if_neg (by omega)]]
      exact ⟨rfl, HQ.out⟩
  · go_enter Tryd.func15, Tryd.ntmps15
    go_wp2_with fail
    refine (dnone_any w g _ D H.out).mono ?_
    rintro e _ ⟨rfl, rfl⟩
    go_wp2_with fail
    go_ret
    unfold Dsk.plan
    rw [HST.out]
    exact ⟨rfl, DPost.same H.out⟩
theorem rdb_cast {w : World} {ad : Option Addr} {n cap : Nat} {l : List UInt8} (hn : l.length = n) (h : RdB w (.slice ad l.length cap) l) : RdB w (.slice ad n cap) l := by subst hn; exact h
theorem rd_cast {w : World} {ad : Option Addr} {n cap : Nat} {l : List UInt8} (hn : l.length = n) (h : RdB w (.slice ad n cap) l) : Rd w 1 (.slice ad n cap) n (l.map bv) := by subst hn; exact h
theorem own_cast {w : World} {v : Value} {n : Nat} {l : List UInt8} (hn : l.length = n) (h : w.ownsRow 0 5 1 v l.length (l.map bv)) : w.ownsRow 0 5 1 v n (l.map bv) := by subst hn; exact h
/-- A value of its own, in new memory, with these bytes. -/
def IsOwn (b0 : Nat) (l : List UInt8) (v : Value) (w : World) : Prop := w.ownsRow 0 5 1 v l.length (l.map bv) ∧ ∀ k, blk v k → b0 ≤ k
def stOwn (b0 : Nat) (l : List UInt8) : Stable := ⟨IsOwn b0 l, fun _ _ _ hk h => ⟨own_kept hk h.1 (fun _ _ h => h), h.2⟩⟩
set_option maxHeartbeats 4000000 in
theorem dread_any (w : World) (g : Nat) (v : Value) (D : Dsk) (h : DiskAt w g v D) (hD : D.b.length ≤ 1048576) (a n : Int) (ha : -9223372036854775808 ≤ a ∧ a ≤ 9223372036854775807) (hn : -9223372036854775808 ≤ n ∧ n ≤ 9223372036854775807) :
    Calls Tryd.prog 13 #[.pointer (some ⟨g, 0, none⟩), .int .i64 a, .int .i64 n] w fun e w' => ∃ r, e = .returned r ∧ w'.ownsRow 0 5 1 r (D.rd a n).length ((D.rd a n).map bv) ∧ Kept (fun _ => False) w w' ∧ ∀ k, blk r k → w.heap.size ≤ k := by
  obtain ⟨ad, cap, rfl, hc1, hc2, _⟩ := own_slice h.own
  have c2 := heap_cell h.box 2
  have H := Lw.hid h
  clear h
  obtain ⟨L, hL⟩ : ∃ L, D.b.length = L := ⟨_, rfl⟩
  have HL := Lw.hid hL
  rw [hL] at c2 hD hc1 H
  have hno : ∀ (hq : D.rd a n = []), ∃ r, Ending.returned (.slice none 0 0) = .returned r ∧ w.ownsRow 0 5 1 r (D.rd a n).length ((D.rd a n).map bv) ∧ Kept (fun _ => False) w w ∧ ∀ k, blk r k → w.heap.size ≤ k := fun hq => by
    rw [hq]; exact ⟨_, rfl, World.ownsRow_nil _ 0 _ 1, Kept.refl _ _, fun k hk => (blk_none hk).elim⟩
  have HNO := Lw.hid hno
  clear hno hL
  by_cases h1 : a < 0
  · have HR : Hid (D.rd a n = []) := Lw.hid (by unfold Dsk.rd; rw [if_pos (.inl h1)])
    go_enter Tryd.func13, Tryd.ntmps13
    go_wp2_with fail
    refine (dnone_any w g _ D H.out).mono ?_
    rintro e _ ⟨rfl, rfl⟩
    go_wp2_with fail
    go_ret
    exact HNO.out HR.out
  by_cases h2 : n < 0
  · have HR : Hid (D.rd a n = []) := Lw.hid (by unfold Dsk.rd; rw [if_pos (.inr (.inl h2))])
    go_enter Tryd.func13, Tryd.ntmps13
    go_wp2_with fail
    refine (dnone_any w g _ D H.out).mono ?_
    rintro e _ ⟨rfl, rfl⟩
    go_wp2_with fail
    go_ret
    exact HNO.out HR.out
  by_cases h3 : (L : Int) < a
  · have HR : Hid (D.rd a n = []) := Lw.hid (by unfold Dsk.rd; rw [HL.out, if_pos (.inr (.inr h3))])
    go_enter Tryd.func13, Tryd.ntmps13
    go_wp2_with fail
    refine (dnone_any w g _ D H.out).mono ?_
    rintro e _ ⟨rfl, rfl⟩
    go_wp2_with fail
    go_ret
    exact HNO.out HR.out
  obtain ⟨k, hk⟩ : ∃ k : Nat, a = (k : Int) := ⟨a.toNat, by omega⟩
  obtain ⟨m, hm⟩ : ∃ m : Nat, n = (m : Int) := ⟨n.toNat, by omega⟩
  subst hk; subst hm
  have HR : Hid (D.rd (k : Int) (m : Int) = (D.b.drop k).take m) := Lw.hid (by unfold Dsk.rd; rw [HL.out, if_neg (by omega)]; simp)
  have hkl : k ≤ L := by omega
  clear h1 h2 HNO
  obtain ⟨M, hM⟩ : ∃ M, min m (L - k) = M := ⟨_, rfl⟩
  have HM := Lw.hid hM
  have hML : M ≤ L - k := by omega
  have hRT : Hid ((D.b.drop k).take m = (D.b.drop k).take M) := Lw.hid (by
    rw [← hM]
    by_cases hle : m ≤ L - k
    · rw [Nat.min_eq_left hle]
    · rw [Nat.min_eq_right (by omega), List.take_of_length_le (by rw [List.length_drop, HL.out]; omega), List.take_of_length_le (by rw [List.length_drop, HL.out]; omega)])
  go_enter Tryd.func13, Tryd.ntmps13
  go_wp2_with fail
  refine (dnone_any w g _ D H.out).mono ?_
  rintro e _ ⟨rfl, rfl⟩
  go_wp2_with fail
  refine wp_region_tail 17 [stV (.pointer (some ⟨g, 0, none⟩)), stV (.pointer (some ⟨g, 0, none⟩)), stV (.pointer (some ⟨g, 2, none⟩)), stV (.slice ad L cap), stV (.int .i64 (k : Int)), stB (D.b.drop k), stV (.int .i64 (m : Int)), stV (.pointer (some ⟨g, 0, none⟩)), stV (.pointer (some ⟨g, 0, none⟩)), stV (.pointer (some ⟨g, 2, none⟩)), stV (.slice ad L cap), stV (.int .i64 (L : Int)), stV (.int .i64 (k : Int)), stV (.int .i64 ((L : Int) - (k : Int))), stV (.int .i64 (M : Int)), stB ((D.b.drop k).take M), stOwn w.heap.size ((D.b.drop k).take M)] (by kernel_rfl) (by kernel_rfl) ?_ ?_
  · -- each operation by itself
    refine ssteps_cons (fun a' w' hI hag hf K hK => ?_) ?_
    · have s0 := hag.same 0 (by decide)
      clear hag
      go_wp2_with fail
      exact hK _ _ hI (Kept.refl _ _) rfl
    refine ssteps_cons (fun a' w' hI hag hf K hK => ?_) ?_
    · obtain ⟨⟨_, h0, rfl⟩, -⟩ : SFacts _ _ a' w' [0] := hf
      clear hag
      go_wp2_with fail
      exact hK _ _ hI (Kept.refl _ _) rfl
    refine ssteps_cons (fun a' w' hI hag hf K hK => ?_) ?_
    · obtain ⟨⟨_, h1, rfl⟩, -⟩ : SFacts _ _ a' w' [1] := hf
      clear hag
      go_wp2_with fail
      exact hK _ _ hI (Kept.refl _ _) rfl
    refine ssteps_cons (fun a' w' hI hag hf K hK => ?_) ?_
    · obtain ⟨⟨_, h2, rfl⟩, -⟩ : SFacts _ _ a' w' [2] := hf
      clear hag
      have c2' := hI.cell c2 (fun h => h)
      go_wp2_with fail
      exact hK _ _ hI (Kept.refl _ _) rfl
    refine ssteps_cons (fun a' w' hI hag hf K hK => ?_) ?_
    · have s1 := hag.same 1 (by decide)
      clear hag
      go_wp2_with fail
      exact hK _ _ hI (Kept.refl _ _) rfl
    refine ssteps_cons (fun a' w' hI hag hf K hK => ?_) ?_
    · obtain ⟨⟨_, h3, rfl⟩, ⟨_, h4, rfl⟩, -⟩ : SFacts _ _ a' w' [3, 4] := hf
      clear hag
      refine wpList_slice_l rfl _ _ _ rfl EB (.slice ad L cap) L _ .i64 (k : Int) k (by simp [Act.eval, h3]) (by simp [Act.eval, h4]) (rd_cast HL.out ((RdB.of_own (own_cast HL.out H.out.own) HL.out.symm).kept hI (fun _ _ h => h))) rfl hkl (fun ad5 c5 hr hb => ?_)
      exact hK _ _ hI (Kept.refl _ _) (RdB.of_drop (by rw [HL.out]; exact hr))
    refine ssteps_cons (fun a' w' hI hag hf K hK => ?_) ?_
    · have s2 := hag.same 2 (by decide)
      clear hag
      go_wp2_with fail
      exact hK _ _ hI (Kept.refl _ _) rfl
    refine ssteps_cons (fun a' w' hI hag hf K hK => ?_) ?_
    · have s0 := hag.same 0 (by decide)
      clear hag
      go_wp2_with fail
      exact hK _ _ hI (Kept.refl _ _) rfl
    refine ssteps_cons (fun a' w' hI hag hf K hK => ?_) ?_
    · obtain ⟨⟨_, h7, rfl⟩, -⟩ : SFacts _ _ a' w' [7] := hf
      clear hag
      go_wp2_with fail
      exact hK _ _ hI (Kept.refl _ _) rfl
    refine ssteps_cons (fun a' w' hI hag hf K hK => ?_) ?_
    · obtain ⟨⟨_, h8, rfl⟩, -⟩ : SFacts _ _ a' w' [8] := hf
      clear hag
      go_wp2_with fail
      exact hK _ _ hI (Kept.refl _ _) rfl
    refine ssteps_cons (fun a' w' hI hag hf K hK => ?_) ?_
    · obtain ⟨⟨_, h9, rfl⟩, -⟩ : SFacts _ _ a' w' [9] := hf
      clear hag
      have c2' := hI.cell c2 (fun h => h)
      go_wp2_with fail
      exact hK _ _ hI (Kept.refl _ _) rfl
    refine ssteps_cons (fun a' w' hI hag hf K hK => ?_) ?_
    · obtain ⟨⟨_, h10, rfl⟩, -⟩ : SFacts _ _ a' w' [10] := hf
      clear hag
      go_wp2_with fail
      exact hK _ _ hI (Kept.refl _ _) rfl
    refine ssteps_cons (fun a' w' hI hag hf K hK => ?_) ?_
    · have s1 := hag.same 1 (by decide)
      clear hag
      go_wp2_with fail
      exact hK _ _ hI (Kept.refl _ _) rfl
    refine ssteps_cons (fun a' w' hI hag hf K hK => ?_) ?_
    · obtain ⟨⟨_, h11, rfl⟩, ⟨_, h12, rfl⟩, -⟩ : SFacts _ _ a' w' [11, 12] := hf
      clear hag
      go_wp2_with fail
      exact hK _ _ hI (Kept.refl _ _) rfl
    refine ssteps_cons (fun a' w' hI hag hf K hK => ?_) ?_
    · obtain ⟨⟨_, h6, rfl⟩, ⟨_, h13, rfl⟩, -⟩ : SFacts _ _ a' w' [6, 13] := hf
      clear hag
      go_wp2_with fail
      all_goals exact hK _ _ hI (Kept.refl _ _) (congrArg (Value.int .i64) (by omega))
    refine ssteps_cons (fun a' w' hI hag hf K hK => ?_) ?_
    · obtain ⟨⟨v5, h5, e5⟩, ⟨_, h14, rfl⟩, -⟩ : SFacts _ _ a' w' [5, 14] := hf
      clear hag
      obtain ⟨ad5, cap5, rfl, _, _, _⟩ := RdB.open (show RdB w' v5 (D.b.drop k) from e5)
      refine wpList_slice_h rfl _ _ _ rfl EB _ (D.b.drop k).length _ .i64 (M : Int) M (by simp [Act.eval, h5]) (by simp [Act.eval, h14]) (show RdB w' _ (D.b.drop k) from e5) rfl (by rw [List.length_drop, HL.out]; exact hML) (fun ad6 c6 hr hb => ?_)
      exact hK _ _ hI (Kept.refl _ _) (RdB.of_take (by rw [List.length_drop, HL.out]; exact hML) hr)
    refine ssteps_cons (fun a' w' hI hag hf K hK => ?_) ?_
    · obtain ⟨⟨v15, h15, e15⟩, -⟩ : SFacts _ _ a' w' [15] := hf
      clear hag
      go_wp2_with fail
      refine (clone_any _ _ ((D.b.drop k).take M) e15 (by rw [List.length_take]; omega)).mono ?_
      rintro e wn ⟨rv, rfl, ho, hkn, hfr⟩
      go_wp2_with fail
      exact hK _ _ (hI.trans hkn (fun _ _ h => h)) hkn ⟨ho, fun q hq => by have := hfr q hq; have := hI.size; omega⟩
    exact trivial
  · intro vs w' hI hvs
    have q0 : vs 0 = (.pointer (some ⟨g, 0, none⟩)) := hvs 0 _ _ rfl rfl
    have q1 : vs 1 = (.pointer (some ⟨g, 0, none⟩)) := hvs 1 _ _ rfl rfl
    have q2 : vs 2 = (.pointer (some ⟨g, 2, none⟩)) := hvs 2 _ _ rfl rfl
    have q3 : vs 3 = (.slice ad L cap) := hvs 3 _ _ rfl rfl
    have q4 : vs 4 = (.int .i64 (k : Int)) := hvs 4 _ _ rfl rfl
    have q5 := hvs 5 _ _ rfl rfl
    have q6 : vs 6 = (.int .i64 (m : Int)) := hvs 6 _ _ rfl rfl
    have q7 : vs 7 = (.pointer (some ⟨g, 0, none⟩)) := hvs 7 _ _ rfl rfl
    have q8 : vs 8 = (.pointer (some ⟨g, 0, none⟩)) := hvs 8 _ _ rfl rfl
    have q9 : vs 9 = (.pointer (some ⟨g, 2, none⟩)) := hvs 9 _ _ rfl rfl
    have q10 : vs 10 = (.slice ad L cap) := hvs 10 _ _ rfl rfl
    have q11 : vs 11 = (.int .i64 (L : Int)) := hvs 11 _ _ rfl rfl
    have q12 : vs 12 = (.int .i64 (k : Int)) := hvs 12 _ _ rfl rfl
    have q13 : vs 13 = (.int .i64 ((L : Int) - (k : Int))) := hvs 13 _ _ rfl rfl
    have q14 : vs 14 = (.int .i64 (M : Int)) := hvs 14 _ _ rfl rfl
    have q15 := hvs 15 _ _ rfl rfl
    have q16 := hvs 16 _ _ rfl rfl
    clear hvs
    simp only [List.take_succ_cons, List.take_zero, List.drop_succ_cons, List.drop_zero, putAll, Act.put, List.setIfInBounds_toArray, List.set_cons_zero, List.set_cons_succ, Nat.reduceAdd, q0, q1, q2, q3, q4, q6, q7, q8, q9, q10, q11, q12, q13, q14]
    clear q0 q1 q2 q3 q4 q6 q7 q8 q9 q10 q11 q12 q13 q14
    generalize vs 5 = x5 at *
    generalize vs 15 = x15 at *
    generalize vs 16 = x16 at *
    go_wp2_with fail
    go_ret
    obtain ⟨o1, o2⟩ : IsOwn w.heap.size ((D.b.drop k).take M) x16 w' := q16
    rw [HR.out, hRT.out]
    exact ⟨x16, rfl, o1, hI, o2⟩
end Go.Proofs.YtfmebmaklakckaaDoor
