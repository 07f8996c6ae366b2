/- Again, Replay, Past: the calls; wakes. -/
import Derived.Test.YtbmfnepbdfnlaaaEqs
import Derived.Test.YtbmfnepbdfnlaaaSoft
namespace Go.Proofs.Ytbmfnepbdfnlaaa
open Go Go.RowKit Go.Lw
set_option maxRecDepth 100000
set_option linter.unusedVariables false
set_option linter.unusedSimpArgs false
theorem again_any (w : World) (nx last : Nat) (v : Value) (l : List Hv) (hl : RdH w v l) :
    Calls Try.prog 10 #[.agg #[u32v nx, v], u32v last] w fun x w' => ∃ BA BL, x = .returned (.func (.func 36) #[] #[.pointer (some ⟨BA, 0, none⟩), .pointer (some ⟨BL, 0, none⟩)]) ∧ AskAt w' BA BL nx last v l ∧ Kept (fun _ => False) w w' ∧ w.heap.size ≤ BA ∧ w.heap.size ≤ BL := by
  obtain ⟨ad, cap, rfl, _, _, _⟩ := hl.shape
  have HL := Lw.hid hl
  clear hl
  go_enter Try.func10, Try.ntmps10
  go_wp2_with fail
  go_ret
  refine ⟨w.heap.size, w.heap.size + 1, rfl, ⟨?_, ?_, ?_⟩, ((Kept.refl _ w).alloc _).alloc _, Nat.le_refl _, by omega⟩
  · exact heap_alloc_lt (heap_at _ _ rfl)
  · exact heap_at _ _ (by simp)
  · exact HL.out.keptF (((Kept.refl _ w).alloc _).alloc _)
theorem replay_any (w : World) (nx last : Nat) (v : Value) (l : List Hv) (hl : RdH w v l) :
    Calls Try.prog 12 #[.agg #[u32v nx, v], u32v last] w fun x w' => ∃ BA BL, x = .returned (.func (.func 40) #[] #[.pointer (some ⟨BA, 0, none⟩), .pointer (some ⟨BL, 0, none⟩)]) ∧ AskAt w' BA BL nx last v l ∧ Kept (fun _ => False) w w' ∧ w.heap.size ≤ BA ∧ w.heap.size ≤ BL := by
  obtain ⟨ad, cap, rfl, _, _, _⟩ := hl.shape
  have HL := Lw.hid hl
  clear hl
  go_enter Try.func12, Try.ntmps12
  go_wp2_with fail
  go_ret
  refine ⟨w.heap.size, w.heap.size + 1, rfl, ⟨?_, ?_, ?_⟩, ((Kept.refl _ w).alloc _).alloc _, Nat.le_refl _, by omega⟩
  · exact heap_alloc_lt (heap_at _ _ rfl)
  · exact heap_at _ _ (by simp)
  · exact HL.out.keptF (((Kept.refl _ w).alloc _).alloc _)
theorem past_any (w : World) (nx last : Nat) (v : Value) (l : List Hv) (hl : RdH w v l) :
    Calls Try.prog 13 #[.agg #[u32v nx, v], u32v last] w fun x w' => ∃ BA BL, x = .returned (.func (.func 41) #[] #[.pointer (some ⟨BA, 0, none⟩), .pointer (some ⟨BL, 0, none⟩)]) ∧ AskAt w' BA BL nx last v l ∧ Kept (fun _ => False) w w' ∧ w.heap.size ≤ BA ∧ w.heap.size ≤ BL := by
  obtain ⟨ad, cap, rfl, _, _, _⟩ := hl.shape
  have HL := Lw.hid hl
  clear hl
  go_enter Try.func13, Try.ntmps13
  go_wp2_with fail
  go_ret
  refine ⟨w.heap.size, w.heap.size + 1, rfl, ⟨?_, ?_, ?_⟩, ((Kept.refl _ w).alloc _).alloc _, Nat.le_refl _, by omega⟩
  · exact heap_alloc_lt (heap_at _ _ rfl)
  · exact heap_at _ _ (by simp)
  · exact HL.out.keptF (((Kept.refl _ w).alloc _).alloc _)
def stU (L : List Nat) : Stable := ⟨fun v w => RdU w v L, fun _ _ _ hk h => h.keptF hk⟩
def stH (L : List Hv) : Stable := ⟨fun v w => RdH w v L, fun _ _ _ hk h => h.keptF hk⟩
def stI (f nx last : Nat) (sl : Value) (l : List Hv) : Stable := ⟨fun v w => ∃ BA BL, v = .func (.func f) #[] #[.pointer (some ⟨BA, 0, none⟩), .pointer (some ⟨BL, 0, none⟩)] ∧ AskAt w BA BL nx last sl l, fun _ _ _ hk ⟨BA, BL, e, h⟩ => ⟨BA, BL, e, h.keptF hk⟩⟩
def wkL : List Hv := [⟨2, 0, 0, false⟩, ⟨4, 0, 0, false⟩, ⟨5, 0, 0, false⟩]
theorem wkL_ok : ∀ h ∈ wkL, h.ok := by
  intro h hh
  simp only [wkL, List.mem_cons, List.not_mem_nil, or_false] at hh
  rcases hh with rfl | rfl | rfl <;> exact ⟨by decide, by decide, by decide⟩
theorem wk_fits : fitsF 6 4 wkL = 0 := by decide
theorem wk_again : againF 6 4 wkL = [5] := by decide
theorem wk_past : pastF 6 4 wkL = [1, 3] := by decide
theorem wk_replay : replayF 6 4 wkL = wkL.take 2 := by decide
theorem rdh_own {w : World} {v : Value} {l : List Hv} {n : Nat} {e : TypeId} (h : w.ownsRow 0 e 4 v n (l.flatMap Hv.cells)) (hn : n = l.length) (hok : ∀ h ∈ l, h.ok) : RdH w v l := by
  subst hn; exact ⟨Rd.own h, hok⟩
set_option maxHeartbeats 16000000 in
theorem rwakes_any (w : World) : Calls Try.prog 16 #[] w fun x w' => x = .returned (.bool true) ∧ Kept (fun _ => False) w w' := by
  obtain ⟨wa, hwa⟩ : ∃ wa, (w.alloc (.cells (wkL.flatMap Hv.cells).toArray 35)).alloc (.cells #[u32v 6, .slice (some ⟨w.heap.size, 0, none⟩) 3 3] 26) = wa := ⟨_, rfl⟩
  have KA : Hid (Kept (fun _ => False) w wa) := Lw.hid (by rw [← hwa]; exact ((Kept.refl _ w).alloc _).alloc _)
  have hrow : RdH wa (.slice (some ⟨w.heap.size, 0, none⟩) 3 3) wkL := by
    rw [← hwa]
    exact ⟨Rd.alloc (Rd.lit w (wkL.flatMap Hv.cells) 35 4 w.heap.size 3 rfl rfl (by decide)) _, wkL_ok⟩
  have hask : wa.heap[w.heap.size + 1]? = some (.cells #[u32v 6, .slice (some ⟨w.heap.size, 0, none⟩) 3 3] 26 (0, 0)) := by rw [← hwa]; exact heap_at _ _ (by simp)
  have a0 := heap_cell hask 0; have a1 := heap_cell hask 1
  have hG : w.heap.size + 2 ≤ wa.heap.size := (Array.getElem?_eq_some_iff.1 hask).1
  have HROW := Lw.hid hrow; have HG := Lw.hid hG
  have HWA : Hid ((w.alloc (.cells #[u32v 2, u32v 0, u32v 0, .bool false, u32v 4, u32v 0, u32v 0, .bool false, u32v 5, u32v 0, u32v 0, .bool false] 35)).alloc (.cells #[u32v 6, .slice (some ⟨w.heap.size, 0, none⟩) 3 3] 26) = wa) := Lw.hid hwa
  clear hwa hrow hask hG
  go_enter Try.func16, Try.ntmps16
  go_upto_region 2 with fail
  have HWB := HWA.out
  simp only [u32v] at HWB
  rw [show ((2 : Nat) : Int) = 2 from rfl, show ((4 : Nat) : Int) = 4 from rfl, show ((5 : Nat) : Int) = 5 from rfl, show ((6 : Nat) : Int) = 6 from rfl, show ((0 : Nat) : Int) = 0 from rfl] at HWB
  rw [HWB]
  clear HWB
  have HBV : Hid (∀ w', Kept (fun _ => False) wa w' → ∀ k, blk (.slice (some ⟨w.heap.size, 0, none⟩) 3 3) k → k < w'.heap.size) := Lw.hid (fun w' kw k hk => by have := blk_some hk; simp at this; have := HG.out; have := kw.size; omega)
  refine wp_region_kept [stV (.agg #[u32v 6, .slice (some ⟨w.heap.size, 0, none⟩) 3 3]), stV (.int .i64 0), stV (.bool true), stV (.bool true), stV (.agg #[u32v 6, .slice (some ⟨w.heap.size, 0, none⟩) 3 3]), stI 36 6 4 (.slice (some ⟨w.heap.size, 0, none⟩) 3 3) wkL, stU [5], stU [5], stV (.bool true), stV (.bool true), stV (.bool true), stV (.agg #[u32v 6, .slice (some ⟨w.heap.size, 0, none⟩) 3 3]), stI 40 6 4 (.slice (some ⟨w.heap.size, 0, none⟩) 3 3) wkL, stH (wkL.take 2), stV (.pointer (some ⟨w.heap.size + 1, 1, none⟩)), stV (.slice (some ⟨w.heap.size, 0, none⟩) 3 3), stV (.slice (some ⟨w.heap.size, 0, none⟩) 2 3), stV (.bool true), stV (.bool true), stV (.bool true), stV (.agg #[u32v 6, .slice (some ⟨w.heap.size, 0, none⟩) 3 3]), stI 41 6 4 (.slice (some ⟨w.heap.size, 0, none⟩) 3 3) wkL, stU [1, 3], stU [1, 3], stV (.bool true), stV (.bool true), stV (.bool true)] (by kernel_rfl) (by kernel_rfl) ?_ ?_
  · -- each operation by itself
    refine ssteps_cons (fun a' w' hI hag hf K hK => ?_) ?_
    · have s1 := hag.same 1 (by decide)
      clear hag
      have c0 := hI.cell a0 (fun h => h)
      have c1 := hI.cell a1 (fun h => h)
      go_wp2_with fail
      exact hK _ _ hI (Kept.refl _ _) rfl
    refine ssteps_cons (fun a' w' hI hag hf K hK => ?_) ?_
    · obtain ⟨⟨_, h0, rfl⟩, -⟩ : SFacts _ _ a' w' [0] := hf
      clear hag
      go_wp2_with fail
      refine (fits_any w' _ wkL (HROW.out.keptF hI) 6 4 (by decide) (by decide) (by decide) (HBV.out _ hI)).mono ?_
      rintro e w4 ⟨rfl, k4⟩
      rw [wk_fits]
      go_wp2_with fail
      exact hK _ _ (hI.trans k4 (fun _ _ h => h)) k4 rfl
    refine ssteps_cons (fun a' w' hI hag hf K hK => ?_) ?_
    · obtain ⟨⟨_, h1, rfl⟩, -⟩ : SFacts _ _ a' w' [1] := hf
      clear hag
      go_wp2_with fail
      exact hK _ _ hI (Kept.refl _ _) rfl
    refine ssteps_cons (fun a' w' hI hag hf K hK => ?_) ?_
    · obtain ⟨⟨_, h2, rfl⟩, -⟩ : SFacts _ _ a' w' [2, 1] := hf
      clear hag
      go_wp2_with fail
      exact hK _ _ hI (Kept.refl _ _) rfl
    refine ssteps_cons (fun a' w' hI hag hf K hK => ?_) ?_
    · obtain ⟨⟨_, h3, rfl⟩, -⟩ : SFacts _ _ a' w' [3] := hf
      have s1 := hag.same 1 (by decide)
      clear hag
      have c0 := hI.cell a0 (fun h => h)
      have c1 := hI.cell a1 (fun h => h)
      go_wp2_with fail
      exact hK _ _ hI (Kept.refl _ _) rfl
    refine ssteps_cons (fun a' w' hI hag hf K hK => ?_) ?_
    · obtain ⟨⟨_, h4, rfl⟩, ⟨_, h3, rfl⟩, -⟩ : SFacts _ _ a' w' [4, 3] := hf
      clear hag
      go_wp2_with fail
      refine (again_any w' 6 4 _ wkL (HROW.out.keptF hI)).mono ?_
      rintro e w4 ⟨BA, BL, rfl, hat, k4, _, _⟩
      have HAT := Lw.hid hat
      clear hat
      go_wp2_with fail
      exact hK _ _ (hI.trans k4 (fun _ _ h => h)) k4 ⟨BA, BL, rfl, HAT.out⟩
    refine ssteps_cons (fun a' w' hI hag hf K hK => ?_) ?_
    · obtain ⟨⟨v5, h5, e5⟩, ⟨_, h3, rfl⟩, -⟩ : SFacts _ _ a' w' [5, 3] := hf
      clear hag
      obtain ⟨BA, BL, rfl, hat⟩ := e5
      have HAT := Lw.hid hat
      clear hat
      go_wp2_with fail
      refine (first_any w' 36 _ 9 _ (AskR BA BL _) (fun wx kx => again_iter wx BA BL 6 4 _ wkL (HAT.out.keptF kx) (HBV.out _ (hI.trans kx (fun _ _ h => h))) (by decide) (by decide) (by decide)) (HAT.out.lt (HBV.out _ hI)) (Go.Proofs.enters_of Try.func36 (by kernel_rfl) rfl) (by decide)).mono ?_
      rintro e w4 ⟨v4, rfl, ho, _, k4⟩
      rw [wk_again] at ho
      have HO := Lw.hid ho
      clear ho
      go_wp2_with fail
      exact hK _ _ (hI.trans k4 (fun _ _ h => h)) k4 (RdU.own HO.out rfl)
    refine ssteps_cons (fun a' w' hI hag hf K hK => ?_) ?_
    · obtain ⟨⟨_, h3, rfl⟩, -⟩ : SFacts _ _ a' w' [3] := hf
      clear hag
      go_wp2_with fail
      exact hK _ _ (hI.alloc _) ((Kept.refl _ w').alloc _) (Rd.lit w' [u32v 5] 24 1 w'.heap.size 1 rfl rfl (by decide))
    refine ssteps_cons (fun a' w' hI hag hf K hK => ?_) ?_
    · obtain ⟨⟨v6, h6, e6⟩, ⟨v7, h7, e7⟩, ⟨_, h3, rfl⟩, -⟩ : SFacts _ _ a' w' [6, 7, 3] := hf
      clear hag
      have E1 := Lw.hid e6; have E2 := Lw.hid e7
      clear e6 e7
      go_wp2_with fail
      refine (equ_any w' _ _ [5] [5] E1.out E2.out true rfl).mono ?_
      rintro e w4 ⟨rfl, k4⟩
      go_wp2_with fail
      exact hK _ _ (hI.trans k4 (fun _ _ h => h)) k4 rfl
    refine ssteps_cons (fun a' w' hI hag hf K hK => ?_) ?_
    · obtain ⟨⟨_, h3, rfl⟩, ⟨_, h8, rfl⟩, -⟩ : SFacts _ _ a' w' [3, 8] := hf
      clear hag
      go_wp2_with fail
      exact hK _ _ hI (Kept.refl _ _) rfl
    refine ssteps_cons (fun a' w' hI hag hf K hK => ?_) ?_
    · obtain ⟨⟨_, h9, rfl⟩, -⟩ : SFacts _ _ a' w' [9, 8] := hf
      clear hag
      go_wp2_with fail
      exact hK _ _ hI (Kept.refl _ _) rfl
    refine ssteps_cons (fun a' w' hI hag hf K hK => ?_) ?_
    · obtain ⟨⟨_, h10, rfl⟩, -⟩ : SFacts _ _ a' w' [10] := hf
      have s1 := hag.same 1 (by decide)
      clear hag
      have c0 := hI.cell a0 (fun h => h)
      have c1 := hI.cell a1 (fun h => h)
      go_wp2_with fail
      exact hK _ _ hI (Kept.refl _ _) rfl
    refine ssteps_cons (fun a' w' hI hag hf K hK => ?_) ?_
    · obtain ⟨⟨_, h11, rfl⟩, ⟨_, h10, rfl⟩, -⟩ : SFacts _ _ a' w' [11, 10] := hf
      clear hag
      go_wp2_with fail
      refine (replay_any w' 6 4 _ wkL (HROW.out.keptF hI)).mono ?_
      rintro e w4 ⟨BA, BL, rfl, hat, k4, _, _⟩
      have HAT := Lw.hid hat
      clear hat
      go_wp2_with fail
      exact hK _ _ (hI.trans k4 (fun _ _ h => h)) k4 ⟨BA, BL, rfl, HAT.out⟩
    refine ssteps_cons (fun a' w' hI hag hf K hK => ?_) ?_
    · obtain ⟨⟨v12, h12, e12⟩, ⟨_, h10, rfl⟩, -⟩ : SFacts _ _ a' w' [12, 10] := hf
      clear hag
      obtain ⟨BA, BL, rfl, hat⟩ := e12
      have HAT := Lw.hid hat
      clear hat
      go_wp2_with fail
      refine (firstH_any w' 40 _ 9 _ (AskR BA BL _) (fun wx kx => replay_iter wx BA BL 6 4 _ wkL (HAT.out.keptF kx) (HBV.out _ (hI.trans kx (fun _ _ h => h))) (by decide) (by decide) (by decide)) (HAT.out.lt (HBV.out _ hI)) (Go.Proofs.enters_of Try.func40 (by kernel_rfl) rfl) (by decide)).mono ?_
      rintro e w4 ⟨v4, rfl, ho, _, k4⟩
      rw [wk_replay] at ho
      have HO := Lw.hid ho
      clear ho
      go_wp2_with fail
      exact hK _ _ (hI.trans k4 (fun _ _ h => h)) k4 (rdh_own HO.out rfl (fun h hh => wkL_ok h (List.mem_of_mem_take hh)))
    refine ssteps_cons (fun a' w' hI hag hf K hK => ?_) ?_
    · obtain ⟨⟨_, h10, rfl⟩, -⟩ : SFacts _ _ a' w' [10] := hf
      have s1 := hag.same 1 (by decide)
      clear hag
      go_wp2_with fail
      exact hK _ _ hI (Kept.refl _ _) rfl
    refine ssteps_cons (fun a' w' hI hag hf K hK => ?_) ?_
    · obtain ⟨⟨_, h14, rfl⟩, ⟨_, h10, rfl⟩, -⟩ : SFacts _ _ a' w' [14, 10] := hf
      clear hag
      have c0 := hI.cell a0 (fun h => h)
      have c1 := hI.cell a1 (fun h => h)
      go_wp2_with fail
      exact hK _ _ hI (Kept.refl _ _) rfl
    refine ssteps_cons (fun a' w' hI hag hf K hK => ?_) ?_
    · obtain ⟨⟨_, h15, rfl⟩, ⟨_, h10, rfl⟩, -⟩ : SFacts _ _ a' w' [15, 10] := hf
      clear hag
      go_wp2_with fail
      exact hK _ _ hI (Kept.refl _ _) rfl
    refine ssteps_cons (fun a' w' hI hag hf K hK => ?_) ?_
    · obtain ⟨⟨v13, h13, e13⟩, ⟨_, h16, rfl⟩, ⟨_, h10, rfl⟩, -⟩ : SFacts _ _ a' w' [13, 16, 10] := hf
      clear hag
      have E1 := Lw.hid e13
      clear e13
      go_wp2_with fail
      refine (eqh_any w' _ _ (wkL.take 2) (wkL.take 2) E1.out ⟨Rd.take (HROW.out.keptF hI).1 2 (by decide), fun h hh => wkL_ok h (List.mem_of_mem_take hh)⟩ true rfl).mono ?_
      rintro e w4 ⟨rfl, k4⟩
      go_wp2_with fail
      exact hK _ _ (hI.trans k4 (fun _ _ h => h)) k4 rfl
    refine ssteps_cons (fun a' w' hI hag hf K hK => ?_) ?_
    · obtain ⟨⟨_, h10, rfl⟩, ⟨_, h17, rfl⟩, -⟩ : SFacts _ _ a' w' [10, 17] := hf
      clear hag
      go_wp2_with fail
      exact hK _ _ hI (Kept.refl _ _) rfl
    refine ssteps_cons (fun a' w' hI hag hf K hK => ?_) ?_
    · obtain ⟨⟨_, h18, rfl⟩, -⟩ : SFacts _ _ a' w' [18, 17] := hf
      clear hag
      go_wp2_with fail
      exact hK _ _ hI (Kept.refl _ _) rfl
    refine ssteps_cons (fun a' w' hI hag hf K hK => ?_) ?_
    · obtain ⟨⟨_, h19, rfl⟩, -⟩ : SFacts _ _ a' w' [19] := hf
      have s1 := hag.same 1 (by decide)
      clear hag
      have c0 := hI.cell a0 (fun h => h)
      have c1 := hI.cell a1 (fun h => h)
      go_wp2_with fail
      exact hK _ _ hI (Kept.refl _ _) rfl
    refine ssteps_cons (fun a' w' hI hag hf K hK => ?_) ?_
    · obtain ⟨⟨_, h20, rfl⟩, ⟨_, h19, rfl⟩, -⟩ : SFacts _ _ a' w' [20, 19] := hf
      clear hag
      go_wp2_with fail
      refine (past_any w' 6 4 _ wkL (HROW.out.keptF hI)).mono ?_
      rintro e w4 ⟨BA, BL, rfl, hat, k4, _, _⟩
      have HAT := Lw.hid hat
      clear hat
      go_wp2_with fail
      exact hK _ _ (hI.trans k4 (fun _ _ h => h)) k4 ⟨BA, BL, rfl, HAT.out⟩
    refine ssteps_cons (fun a' w' hI hag hf K hK => ?_) ?_
    · obtain ⟨⟨v21, h21, e21⟩, ⟨_, h19, rfl⟩, -⟩ : SFacts _ _ a' w' [21, 19] := hf
      clear hag
      obtain ⟨BA, BL, rfl, hat⟩ := e21
      have HAT := Lw.hid hat
      clear hat
      go_wp2_with fail
      refine (first_any w' 41 _ 9 _ (AskR BA BL _) (fun wx kx => past_iter wx BA BL 6 4 _ wkL (HAT.out.keptF kx) (HBV.out _ (hI.trans kx (fun _ _ h => h))) (by decide) (by decide) (by decide)) (HAT.out.lt (HBV.out _ hI)) (Go.Proofs.enters_of Try.func41 (by kernel_rfl) rfl) (by decide)).mono ?_
      rintro e w4 ⟨v4, rfl, ho, _, k4⟩
      rw [wk_past] at ho
      have HO := Lw.hid ho
      clear ho
      go_wp2_with fail
      exact hK _ _ (hI.trans k4 (fun _ _ h => h)) k4 (RdU.own HO.out rfl)
    refine ssteps_cons (fun a' w' hI hag hf K hK => ?_) ?_
    · obtain ⟨⟨_, h19, rfl⟩, -⟩ : SFacts _ _ a' w' [19] := hf
      clear hag
      go_wp2_with fail
      exact hK _ _ (hI.alloc _) ((Kept.refl _ w').alloc _) (Rd.lit w' [u32v 1, u32v 3] 24 1 w'.heap.size 2 rfl rfl (by decide))
    refine ssteps_cons (fun a' w' hI hag hf K hK => ?_) ?_
    · obtain ⟨⟨v22, h22, e22⟩, ⟨v23, h23, e23⟩, ⟨_, h19, rfl⟩, -⟩ : SFacts _ _ a' w' [22, 23, 19] := hf
      clear hag
      have E1 := Lw.hid e22; have E2 := Lw.hid e23
      clear e22 e23
      go_wp2_with fail
      refine (equ_any w' _ _ [1, 3] [1, 3] E1.out E2.out true rfl).mono ?_
      rintro e w4 ⟨rfl, k4⟩
      go_wp2_with fail
      exact hK _ _ (hI.trans k4 (fun _ _ h => h)) k4 rfl
    refine ssteps_cons (fun a' w' hI hag hf K hK => ?_) ?_
    · obtain ⟨⟨_, h19, rfl⟩, ⟨_, h24, rfl⟩, -⟩ : SFacts _ _ a' w' [19, 24] := hf
      clear hag
      go_wp2_with fail
      exact hK _ _ hI (Kept.refl _ _) rfl
    refine ssteps_cons (fun a' w' hI hag hf K hK => ?_) ?_
    · obtain ⟨⟨_, h25, rfl⟩, -⟩ : SFacts _ _ a' w' [25, 24, 0, 1, 2, 3, 4, 5, 6, 7, 8, 9, 10, 11, 12, 13, 14, 15, 16, 17, 18, 19, 20, 21, 22, 23] := hf
      clear hag
      go_wp2_with fail
      exact hK _ _ hI (Kept.refl _ _) rfl
    exact trivial
  · intro a' w' hI hag hf
    obtain ⟨_, h26, rfl⟩ := hf 26 (by decide)
    have hd : a'.defers = [] := hag.defs
    clear hf hag
    go_wp2_with fail
    exact bodyPost_ret (v := .bool true) (by simp [results, Try.results16, go_sem, h26]) hd ⟨rfl, KA.out.trans hI (fun _ _ h => h)⟩
end Go.Proofs.Ytbmfnepbdfnlaaa
