/- strings' Replacer: NewReplacer; Replace. -/
import Derived.Test.YtoedopgjonhemaaGreatDoorReplB
import Derived.Test.YtoedopgjonhemaaGreatDoorArith8
namespace Go.Proofs.YtoedopgjonhemaaGreatDoor
open Go Go.RowKit Go.Lw
set_option maxRecDepth 100000
set_option linter.unusedVariables false
set_option linter.unusedSimpArgs false
attribute [local go_sem] BA_toList
/-- A new replacer. -/
structure RNew (w : World) (rb : Nat) : Prop where
  blk : ∃ A : Array Value, w.heap[rb]? = some (.cells A 71 (0, 0)) ∧ A.size = 5
  c0 : w.cell? ⟨rb, 0, none⟩ = some (.int .u32 0)
  c1 : w.cell? ⟨rb, 1, none⟩ = some (.int .i32 0)
  c4 : ∃ ob ocap, w.cell? ⟨rb, 4, none⟩ = some (.slice (some ⟨ob, 0, none⟩) 8 ocap) ∧ PairsAt w ob ∧ ob ≠ rb
theorem RNew.free {w : World} {rb : Nat} (h : RNew w rb) (i : Nat) : w.frozen? ⟨rb, i, none⟩ = false := by
  obtain ⟨A, h1, _⟩ := h.blk
  exact heap_free h1 i
theorem PairsAt.kept {S : Nat → Prop} {w w' : World} {ob : Nat} (h : PairsAt w ob) (k : Kept S w w') (hs : ¬ S ob) : PairsAt w' ob :=
  fun j hj => ⟨k.cell (h j hj).1 hs, k.cell (h j hj).2 hs⟩
theorem RepAt.turned {w w' : World} {pb rb : Nat} {A : Array Value} (h : RepAt w pb) (hb : w.heap[rb]? = some (.cells A 71 (0, 0))) (hA : A.size = 5) (h0 : ∃ x, w.cell? ⟨rb, 0, none⟩ = some (.int .u32 x)) (k : Kept (fun k => k = rb) w w') : RepAt w' pb := by
  obtain ⟨x, h0⟩ := h0
  have hpb : pb ≠ rb := by
    rintro rfl
    obtain ⟨g, cap, h1, _⟩ := h.spec 42 (by decide)
    rw [heap_cell hb] at h1
    rw [Array.getElem?_eq_none (by rw [hA]; decide)] at h1
    cases h1
  refine ⟨fun c hc => ?_, fun c hc => k.cell (h.plain c hc) hpb, ?_⟩
  · obtain ⟨g, cap, h1, h2⟩ := h.spec c hc
    refine ⟨g, cap, k.cell h1 hpb, h2.kept k (fun q hq e => ?_)⟩
    have e2 := blk_some hq
    simp only at e2
    subst e2; subst e
    have hl := repB_len c
    obtain ⟨_, ad, cp, hv, _, _, hcl⟩ := h2
    cases hv
    obtain ⟨d, l, hd⟩ : ∃ d l, repB c = d :: l := by
      cases hq : repB c with
      | nil => rw [hq] at hl; simp at hl
      | cons d l => exact ⟨d, l, rfl⟩
    obtain ⟨g', o', e1, e2⟩ := hcl 0 (bv d) (by rw [hd]; rfl)
    cases e1
    rw [Nat.zero_add, h0] at e2
    cases e2
  · obtain ⟨tb, cap, h1, h2, h3⟩ := h.tor
    refine ⟨tb, cap, k.cell h1 hpb, h2, fun j hj => k.cell (h3 j hj) ?_⟩
    rintro rfl
    have h4 := h3 0 (by decide)
    rw [h0] at h4
    cases h4
set_option maxHeartbeats 16000000 in
theorem buildOnce_any (w : World) (rb ob ocap : Nat) (v3 : Value) (h3 : w.cell? ⟨rb, 3, none⟩ = some v3) (h4 : w.cell? ⟨rb, 4, none⟩ = some (.slice (some ⟨ob, 0, none⟩) 8 ocap)) (A : Array Value) (hA : w.heap[rb]? = some (.cells A 71 (0, 0))) (hp : PairsAt w ob) :
    Calls Tryz.prog 19 #[.pointer (some ⟨rb, 0, none⟩)] w fun x w' => x = .returned (.tuple #[]) ∧ ∃ pb wb, RepAt wb pb ∧ Kept (fun _ => False) w wb ∧ w' = (wb.setCell ⟨rb, 3, none⟩ (.iface 117 (.pointer (some ⟨pb, 0, none⟩)))).setCell ⟨rb, 4, none⟩ (.slice none 0 0) := by
  have HB := Lw.hid (build_any w rb ob ocap h4 hp)
  clear hp
  go_enter Tryz.func19, Tryz.ntmps19
  go_wp2_with (first | (go_at_call 33; refine HB.out.mono ?_; rintro e w' ⟨pb, rfl, hr, hk⟩; have h39 := hk.cell h3 (fun h => h); have h49 := hk.cell h4 (fun h => h); have h38 := heap_free (hk.heap hA (fun h => h)) 3; have h48 := heap_free (hk.heap hA (fun h => h)) 4))
  first | go_end0 | (simp only [Exit.inBlock, Exit.then]; refine bodyPost_ret (results_none rfl _ _ _) rfl ?_) | refine bodyPost_ret (results_none rfl _ _ _) rfl ?_
  exact ⟨rfl, pb, _, hr, hk, rfl⟩
set_option maxHeartbeats 16000000 in
/-- Replace, by a new replacer. -/
theorem replace_any (w : World) (rb : Nat) (s : List UInt8) (hs : s.length ≤ 1000) (h : RNew w rb) :
    Calls Tryz.prog 11 #[.pointer (some ⟨rb, 0, none⟩), .string (BA s)] w fun x w' => x = .returned (.string (BA (repF s))) ∧ Kept (fun k => k = rb) w w' := by
  obtain ⟨A, hA1, hA2⟩ := h.blk
  obtain ⟨ob, ocap, h4, hp, hob⟩ := h.c4
  have h3 : w.cell? ⟨rb, 3, none⟩ = some A[3] := by rw [heap_cell hA1]; exact Array.getElem?_eq_getElem (by omega)
  have hA3 := heap_set hA1 1 (.int .i32 1)
  have e0 : (w.setCell ⟨rb, 1, none⟩ (.int .i32 1)).cell? ⟨rb, 0, none⟩ = some (.int .u32 0) := (World.cell?_setCell_other _ ⟨rb, 1, none⟩ ⟨rb, 0, none⟩ _ (by simp)).trans h.c0
  have e1 : (w.setCell ⟨rb, 1, none⟩ (.int .i32 1)).cell? ⟨rb, 1, none⟩ = some (.int .i32 1) := World.cell?_setCell_same _ _ _ h.c1
  have e3 : (w.setCell ⟨rb, 1, none⟩ (.int .i32 1)).cell? ⟨rb, 3, none⟩ = some A[3] := (World.cell?_setCell_other _ ⟨rb, 1, none⟩ ⟨rb, 3, none⟩ _ (by simp)).trans h3
  have e4 : (w.setCell ⟨rb, 1, none⟩ (.int .i32 1)).cell? ⟨rb, 4, none⟩ = some (.slice (some ⟨ob, 0, none⟩) 8 ocap) := (World.cell?_setCell_other _ ⟨rb, 1, none⟩ ⟨rb, 4, none⟩ _ (by simp)).trans h4
  have hks := (Kept.refl (fun k => k = rb) w).set rb 1 (fun _ => rfl) (.int .i32 1)
  have hB := buildOnce_any (w.setCell ⟨rb, 1, none⟩ (.int .i32 1)) rb ob ocap A[3] e3 e4 _ hA3 (hp.kept hks hob)
  have HD := Lw.hid (do_first rb w _ h.c0 h.c1 (h.free 0) (h.free 1) hB (by
    rintro w' ⟨pb, wb, hr, hk, rfl⟩
    have b0 := hk.cell e0 (fun h => h)
    have b1 := hk.cell e1 (fun h => h)
    have bz := hk.heap hA3 (fun h => h)
    refine ⟨?_, ?_, ?_, ?_⟩
    · exact (World.cell?_setCell_other _ ⟨rb, 4, none⟩ ⟨rb, 0, none⟩ _ (by simp)).trans ((World.cell?_setCell_other _ ⟨rb, 3, none⟩ ⟨rb, 0, none⟩ _ (by simp)).trans b0)
    · exact (World.cell?_setCell_other _ ⟨rb, 4, none⟩ ⟨rb, 1, none⟩ _ (by simp)).trans ((World.cell?_setCell_other _ ⟨rb, 3, none⟩ ⟨rb, 1, none⟩ _ (by simp)).trans b1)
    · simp [heap_free bz]
    · simp [heap_free bz]))
  have hks2 : ∀ pb wb, Kept (fun _ => False) (w.setCell ⟨rb, 1, none⟩ (.int .i32 1)) wb → ∃ w2, (((wb.setCell ⟨rb, 3, none⟩ (.iface 117 (.pointer (some ⟨pb, 0, none⟩)))).setCell ⟨rb, 4, none⟩ (.slice none 0 0)).drew.setCell ⟨rb, 0, none⟩ (.int .u32 1)).setCell ⟨rb, 1, none⟩ (.int .i32 0) = w2 ∧ w2.cell? ⟨rb, 3, none⟩ = some (.iface 117 (.pointer (some ⟨pb, 0, none⟩))) ∧ (RepAt wb pb → RepAt w2 pb) ∧ Kept (fun k => k = rb) w w2 := by
    intro pb wb hk
    have k2 : Kept (fun k => k = rb) wb ((((wb.setCell ⟨rb, 3, none⟩ (.iface 117 (.pointer (some ⟨pb, 0, none⟩)))).setCell ⟨rb, 4, none⟩ (.slice none 0 0)).drew.setCell ⟨rb, 0, none⟩ (.int .u32 1)).setCell ⟨rb, 1, none⟩ (.int .i32 0)) := (((((Kept.refl (fun k => k = rb) wb).set rb 3 (fun _ => rfl) _).set rb 4 (fun _ => rfl) _).drew.set rb 0 (fun _ => rfl) _).set rb 1 (fun _ => rfl) _)
    refine ⟨_, rfl, ?_, fun hr => hr.turned (hk.heap hA3 (fun h => h)) (by simp [hA2]) ⟨0, hk.cell e0 (fun h => h)⟩ k2, ?_⟩
    · refine (World.cell?_setCell_other _ ⟨rb, 1, none⟩ ⟨rb, 3, none⟩ _ (by simp)).trans ((World.cell?_setCell_other _ ⟨rb, 0, none⟩ ⟨rb, 3, none⟩ _ (by simp)).trans ?_)
      rw [World.cell?_drew]
      exact (World.cell?_setCell_other _ ⟨rb, 4, none⟩ ⟨rb, 3, none⟩ _ (by simp)).trans (World.cell?_setCell_same _ _ _ (hk.cell e3 (fun h => h)))
    · exact (hks.trans hk (fun _ _ h => h.elim)).trans k2 (fun _ _ h => h)
  have hm : ∀ (b : Nat) (w : World), (method 347 117 (.pointer (some ⟨b, 0, none⟩)) "Replace").run Tryz.prog w = .ok (173, .pointer (some ⟨b, 0, none⟩)) w := fun _ _ => by kernel_rfl
  clear hB hA3 hks e0 e1 e3 e4 hA1
  go_enter Tryz.func11, Tryz.ntmps11
  go_wp2_with (first | (go_at_call 18; refine HD.out.mono ?_; rintro e w' ⟨rfl, w1, ⟨pb, wb, hr, hk, rfl⟩, rfl⟩; obtain ⟨w2, hw2, hc3, hr2, hk2⟩ := hks2 pb wb hk; rw [hw2]; have HR2 := Lw.hid (hr2 hr); have HK2 := Lw.hid hk2; clear hw2 hr2 hk2 hr hk) | (go_at_call 173; refine (brepl_any _ _ s hs HR2.out).mono ?_; rintro e w3 ⟨rfl, hk3⟩; have HK3 := Lw.hid hk3; clear hk3))
  go_ret
  exact ⟨rfl, HK2.out.trans HK3.out (fun _ _ h => h.elim)⟩
theorem own8 {w : World} {v : Value} {e : TypeId} {xs : List Value} (h : w.ownsRow 0 e 1 v 8 xs) : ∃ g cap, v = .slice (some ⟨g, 0, none⟩) 8 cap := by
  obtain ⟨h0, h1⟩ := h
  rcases h1 with ⟨_, hx⟩ | ⟨g, cap, cur, hv, _⟩
  · cases hx
  · exact ⟨g, cap, hv⟩
set_option maxHeartbeats 16000000 in
/-- NewReplacer, of the four pairs. -/
theorem new_any (w : World) (v : Value) (hv : Rd w 1 v 8 ((List.range 8).map fun i => if i % 2 = 0 then .string (BA [torC (3 - i / 2)]) else .string (BA (repB (torC (3 - i / 2)))))) :
    Calls Tryz.prog 10 #[v] w fun x w' => ∃ rb, x = .returned (.pointer (some ⟨rb, 0, none⟩)) ∧ w.heap.size ≤ rb ∧ RNew w' rb ∧ Kept (fun _ => False) w w' := by
  have HV := Lw.hid hv
  obtain ⟨_, ad, vc, rfl, _, _, _⟩ := hv
  have hn0 : w.ownsRow 0 9 1 (.slice none 0 0) 0 [] := ⟨rfl, .inl ⟨rfl, rfl⟩⟩
  go_enter Tryz.func10, Tryz.ntmps10
  go_wp2_with (refine wpList_app rfl _ _ _ rfl ETs _ 0 _ rfl hn0 _ 8 _ rfl HV.out (fun u hu => by
      obtain ⟨i, _, rfl⟩ := List.mem_map.1 hu
      split <;> rfl) (by unfold maxLen; omega) (by omega) ?_; intro ad5 cap5 w2 ho2 hg2 hf2)
  go_ret
  obtain ⟨ob, ocap, hv9⟩ := own8 ho2
  cases hv9
  have hk2 : Kept (fun _ => False) w w2 := (Kept.refl _ w).grown hg2 (fun k hk _ => by cases hk)
  have hlt : ob < w2.heap.size := own_lt ho2 ob rfl
  refine ⟨w2.heap.size, rfl, hk2.size, ⟨⟨_, heap_alloc _ _, rfl⟩, World.cell?_alloc_new .., World.cell?_alloc_new .., ob, _, World.cell?_alloc_new .., ?_, by omega⟩, hk2.alloc _⟩
  intro j hj
  constructor
  · refine ((Kept.refl (fun _ => False) w2).alloc _).cell (own_cell ho2 (6 - 2 * j) _ ?_ (by omega)) (fun h => h)
    have h : j = 0 ∨ j = 1 ∨ j = 2 ∨ j = 3 := by omega
    rcases h with rfl | rfl | rfl | rfl <;> rfl
  · refine ((Kept.refl (fun _ => False) w2).alloc _).cell (own_cell ho2 (7 - 2 * j) _ ?_ (by omega)) (fun h => h)
    have h : j = 0 ∨ j = 1 ∨ j = 2 ∨ j = 3 := by omega
    rcases h with rfl | rfl | rfl | rfl <;> rfl
end Go.Proofs.YtoedopgjonhemaaGreatDoor
