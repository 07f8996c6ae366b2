/- Frames: may; what is laid; what is signed. -/
import Derived.Test.YtcmipliglcakdaaDoorFrm
import Derived.Test.YtcmipliglcakdaaDoorWriter
import Derived.Test.YtcmipliglcakdaaDoorCrc
import Derived.Deep.QuietTactic
import Derived.BigQuiet
namespace Go.Proofs.YtcmipliglcakdaaDoor
open Go Go.RowKit Go.Lw
set_option maxRecDepth 100000
/-- The table of what each kind may have. -/
structure TabM (w : World) : Prop where
  c1 : w.cell? ⟨0, 1, none⟩ = some (.func (.func 95) #[] #[])
  c2 : w.cell? ⟨0, 2, none⟩ = some (.func (.func 95) #[] #[])
  c3 : w.cell? ⟨0, 3, none⟩ = some (.func (.func 96) #[] #[])
  c4 : w.cell? ⟨0, 4, none⟩ = some (.func (.func 97) #[] #[])
  c5 : w.cell? ⟨0, 5, none⟩ = some (.func (.func 95) #[] #[])
theorem TabM.below {a b : World} (h : TabM a) (k : Below a.heap.size a b) : TabM b :=
  ⟨cell_below k h.c1, cell_below k h.c2, cell_below k h.c3, cell_below k h.c4, cell_below k h.c5⟩
theorem TabM.kept {a b : World} (h : TabM a) (k : Kept (fun _ => False) a b) : TabM b := h.below (Below.of_kept k)
def bareB (f : Frm) : Bool := decide (f.num = 0 ∧ f.ack = 0 ∧ f.mask = 0)
theorem drewN_kept (w : World) (n : Nat) : Kept (fun _ => False) w (w.drewN n) := ⟨rfl, rfl, rfl, Nat.le_refl _, fun _ _ _ => rfl⟩
set_option maxHeartbeats 1000000 in
theorem bare_any (w : World) (f : Frm) (v : Value) (b : Bool) (hb : bareB f = b) :
    Calls Tryd.prog 95 #[f.val v] w fun e w' => e = .returned (.bool b) ∧ Kept (fun _ => False) w w' := by
  have HB := Lw.hid hb
  clear hb
  unfold bareB at HB
  obtain ⟨k, s, e, n, a, m, p⟩ := f
  simp only at HB
  have hz : ∀ x : Nat, ¬ x = 0 → ((x : Int) == 0) = false := fun x hx => beq_eq_false_iff_ne.2 (by omega)
  by_cases h1 : n = 0
  · subst h1
    by_cases h2 : a = 0
    · subst h2
      by_cases h3 : m = 0
      · subst h3
        clear hz
        go_enter Tryd.func95, Tryd.ntmps95
        go_wp2_with fail
        go_ret
        exact ⟨by rw [← HB.out]; simp, (Kept.refl _ w).alloc _⟩
      · have e3 := hz m h3
        clear hz
        go_enter Tryd.func95, Tryd.ntmps95
        go_wp2_with fail
        go_ret
        exact ⟨by rw [← HB.out]; simp [h3], (Kept.refl _ w).alloc _⟩
    · have e3 := hz a h2
      clear hz
      go_enter Tryd.func95, Tryd.ntmps95
      go_wp2_with fail
      go_ret
      exact ⟨by rw [← HB.out]; simp [h2], (Kept.refl _ w).alloc _⟩
  · have e3 := hz n h1
    clear hz
    go_enter Tryd.func95, Tryd.ntmps95
    go_wp2_with fail
    go_ret
    exact ⟨by rw [← HB.out]; simp [h1], (Kept.refl _ w).alloc _⟩
set_option maxHeartbeats 1000000 in
theorem may1_any (w : World) (f : Frm) (v : Value) (b : Bool) (hb : decide (f.num < 2147483648) = b) :
    Calls Tryd.prog 96 #[f.val v] w fun e w' => e = .returned (.bool b) ∧ Kept (fun _ => False) w w' := by
  have HB := Lw.hid hb
  clear hb
  go_enter Tryd.func96, Tryd.ntmps96
  go_wp2_with fail
  go_ret
  exact ⟨by rw [← HB.out]; simp; omega, (Kept.refl _ w).alloc _⟩
set_option maxHeartbeats 1000000 in
theorem may2_any (w : World) (f : Frm) (ad : Option Addr) (cap : Nat) (b : Bool) (hb : decide (f.num = 0 ∧ f.p.length = 0) = b) :
    Calls Tryd.prog 97 #[f.val (.slice ad f.p.length cap)] w fun e w' => e = .returned (.bool b) ∧ Kept (fun _ => False) w w' := by
  have HB := Lw.hid hb
  clear hb
  obtain ⟨k, s, e, n, a, m, p⟩ := f
  simp only at HB ⊢
  have hz : ∀ x : Nat, ¬ x = 0 → ((x : Int) == 0) = false := fun x hx => beq_eq_false_iff_ne.2 (by omega)
  by_cases h1 : n = 0
  · subst h1
    generalize p.length = l at *
    by_cases h2 : l = 0
    · subst h2
      clear hz
      go_enter Tryd.func97, Tryd.ntmps97
      go_wp2_with fail
      go_ret
      exact ⟨by rw [← HB.out]; simp, (Kept.refl _ w).alloc _⟩
    · have e3 := hz l h2
      clear hz
      go_enter Tryd.func97, Tryd.ntmps97
      go_wp2_with fail
      go_ret
      exact ⟨by rw [← HB.out]; simp [h2], (Kept.refl _ w).alloc _⟩
  · have e3 := hz n h1
    clear hz
    go_enter Tryd.func97, Tryd.ntmps97
    go_wp2_with fail
    go_ret
    exact ⟨by rw [← HB.out]; simp [h1], (Kept.refl _ w).alloc _⟩
set_option maxHeartbeats 1000000 in
theorem may_any (w : World) (f : Frm) (ad : Option Addr) (cap : Nat) (hm : TabM w) (b : Bool) (hb : f.may = b) (hl : f.p.length ≤ 9223372036854775807) :
    Calls Tryd.prog 26 #[f.val (.slice ad f.p.length cap)] w fun e w' => e = .returned (.bool b) ∧ Kept (fun _ => False) w w' := by
  have HB := Lw.hid hb
  have HM := Lw.hid hm
  clear hb hm
  unfold Frm.may at HB
  obtain ⟨k, s, e, n, a, m, p⟩ := f
  simp only at HB hl ⊢
  by_cases h0 : k = 0
  · subst h0
    go_enter Tryd.func26, Tryd.ntmps26
    go_wp2_with fail
    go_quiet (fail)
    go_wp2_with fail
    go_ret
    exact ⟨by rw [← HB.out]; simp, ((Kept.refl _ w).alloc _).trans (drewN_kept _ _) (fun _ _ h => h)⟩
  by_cases h5 : 5 < k
  · have d1 : decide (1 ≤ (k : Int)) = true := by simp; omega
    have d2 : decide ((k : Int) ≤ 5) = false := by simp; omega
    go_enter Tryd.func26, Tryd.ntmps26
    go_wp2_with fail
    go_quiet (fail)
    go_wp2_with fail
    go_ret
    exact ⟨by rw [← HB.out, show decide (1 ≤ k ∧ k ≤ 5 ∧ p.length ≤ 256) = false by simp; omega]; simp, ((Kept.refl _ w).alloc _).trans (drewN_kept _ _) (fun _ _ h => h)⟩
  obtain rfl | rfl | rfl | rfl | rfl : k = 1 ∨ k = 2 ∨ k = 3 ∨ k = 4 ∨ k = 5 := by omega
  all_goals clear h0 h5
  · by_cases h6 : p.length ≤ 256
    · have hc := HM.out.c1
      have hz := World.block_lt_of_cell? w _ hc
      have d3 : decide ((p.length : Int) ≤ 256) = true := by simp; omega
      go_enter Tryd.func26, Tryd.ntmps26
      go_wp2_with fail
      refine wp_still_tail 20 (by kernel_rfl) (by kernel_rfl) ?_
      go_simp
      repeat still_step
      refine wpStill_nil ?_
      go_wp2_with fail
      refine (bare_any _ ⟨1, s, e, n, a, m, p⟩ (.slice ad p.length cap) b (by rw [← HB.out]; simp [h6, bareB])).mono ?_
      rintro e' w' ⟨rfl, hk⟩
      go_wp2_with fail
      go_ret
      exact ⟨rfl, (((Kept.refl _ w).alloc _).trans (drewN_kept _ 1) (fun _ _ h => h)).trans hk (fun _ _ h => h)⟩
    · have d3 : decide ((p.length : Int) ≤ 256) = false := by simp; omega
      go_enter Tryd.func26, Tryd.ntmps26
      go_wp2_with fail
      go_quiet (fail)
      go_wp2_with fail
      go_ret
      exact ⟨by rw [← HB.out]; simp [h6], ((Kept.refl _ w).alloc _).trans (drewN_kept _ _) (fun _ _ h => h)⟩
  · by_cases h6 : p.length ≤ 256
    · have hc := HM.out.c2
      have hz := World.block_lt_of_cell? w _ hc
      have d3 : decide ((p.length : Int) ≤ 256) = true := by simp; omega
      go_enter Tryd.func26, Tryd.ntmps26
      go_wp2_with fail
      refine wp_still_tail 20 (by kernel_rfl) (by kernel_rfl) ?_
      go_simp
      repeat still_step
      refine wpStill_nil ?_
      go_wp2_with fail
      refine (bare_any _ ⟨2, s, e, n, a, m, p⟩ (.slice ad p.length cap) b (by rw [← HB.out]; simp [h6, bareB])).mono ?_
      rintro e' w' ⟨rfl, hk⟩
      go_wp2_with fail
      go_ret
      exact ⟨rfl, (((Kept.refl _ w).alloc _).trans (drewN_kept _ 1) (fun _ _ h => h)).trans hk (fun _ _ h => h)⟩
    · have d3 : decide ((p.length : Int) ≤ 256) = false := by simp; omega
      go_enter Tryd.func26, Tryd.ntmps26
      go_wp2_with fail
      go_quiet (fail)
      go_wp2_with fail
      go_ret
      exact ⟨by rw [← HB.out]; simp [h6], ((Kept.refl _ w).alloc _).trans (drewN_kept _ _) (fun _ _ h => h)⟩
  · by_cases h6 : p.length ≤ 256
    · have hc := HM.out.c3
      have hz := World.block_lt_of_cell? w _ hc
      have d3 : decide ((p.length : Int) ≤ 256) = true := by simp; omega
      go_enter Tryd.func26, Tryd.ntmps26
      go_wp2_with fail
      refine wp_still_tail 20 (by kernel_rfl) (by kernel_rfl) ?_
      go_simp
      repeat still_step
      refine wpStill_nil ?_
      go_wp2_with fail
      refine (may1_any _ ⟨3, s, e, n, a, m, p⟩ (.slice ad p.length cap) b (by rw [← HB.out]; simp [h6])).mono ?_
      rintro e' w' ⟨rfl, hk⟩
      go_wp2_with fail
      go_ret
      exact ⟨rfl, (((Kept.refl _ w).alloc _).trans (drewN_kept _ 1) (fun _ _ h => h)).trans hk (fun _ _ h => h)⟩
    · have d3 : decide ((p.length : Int) ≤ 256) = false := by simp; omega
      go_enter Tryd.func26, Tryd.ntmps26
      go_wp2_with fail
      go_quiet (fail)
      go_wp2_with fail
      go_ret
      exact ⟨by rw [← HB.out]; simp [h6], ((Kept.refl _ w).alloc _).trans (drewN_kept _ _) (fun _ _ h => h)⟩
  · by_cases h6 : p.length ≤ 256
    · have hc := HM.out.c4
      have hz := World.block_lt_of_cell? w _ hc
      have d3 : decide ((p.length : Int) ≤ 256) = true := by simp; omega
      go_enter Tryd.func26, Tryd.ntmps26
      go_wp2_with fail
      refine wp_still_tail 20 (by kernel_rfl) (by kernel_rfl) ?_
      go_simp
      repeat still_step
      refine wpStill_nil ?_
      go_wp2_with fail
      refine (may2_any _ ⟨4, s, e, n, a, m, p⟩ ad cap b (by rw [← HB.out]; simp [h6])).mono ?_
      rintro e' w' ⟨rfl, hk⟩
      go_wp2_with fail
      go_ret
      exact ⟨rfl, (((Kept.refl _ w).alloc _).trans (drewN_kept _ 1) (fun _ _ h => h)).trans hk (fun _ _ h => h)⟩
    · have d3 : decide ((p.length : Int) ≤ 256) = false := by simp; omega
      go_enter Tryd.func26, Tryd.ntmps26
      go_wp2_with fail
      go_quiet (fail)
      go_wp2_with fail
      go_ret
      exact ⟨by rw [← HB.out]; simp [h6], ((Kept.refl _ w).alloc _).trans (drewN_kept _ _) (fun _ _ h => h)⟩
  · by_cases h6 : p.length ≤ 256
    · have hc := HM.out.c5
      have hz := World.block_lt_of_cell? w _ hc
      have d3 : decide ((p.length : Int) ≤ 256) = true := by simp; omega
      go_enter Tryd.func26, Tryd.ntmps26
      go_wp2_with fail
      refine wp_still_tail 20 (by kernel_rfl) (by kernel_rfl) ?_
      go_simp
      repeat still_step
      refine wpStill_nil ?_
      go_wp2_with fail
      refine (bare_any _ ⟨5, s, e, n, a, m, p⟩ (.slice ad p.length cap) b (by rw [← HB.out]; simp [h6, bareB])).mono ?_
      rintro e' w' ⟨rfl, hk⟩
      go_wp2_with fail
      go_ret
      exact ⟨rfl, (((Kept.refl _ w).alloc _).trans (drewN_kept _ 1) (fun _ _ h => h)).trans hk (fun _ _ h => h)⟩
    · have d3 : decide ((p.length : Int) ≤ 256) = false := by simp; omega
      go_enter Tryd.func26, Tryd.ntmps26
      go_wp2_with fail
      go_quiet (fail)
      go_wp2_with fail
      go_ret
      exact ⟨by rw [← HB.out]; simp [h6], ((Kept.refl _ w).alloc _).trans (drewN_kept _ _) (fun _ _ h => h)⟩
end Go.Proofs.YtcmipliglcakdaaDoor
