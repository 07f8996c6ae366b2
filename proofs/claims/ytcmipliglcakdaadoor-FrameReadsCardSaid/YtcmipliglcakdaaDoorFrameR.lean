/- The document's frames: may; signed; encoded. -/
import Derived.Test.YtcmipliglcakdaaDoorFrameW
import Derived.Test.YtcmipliglcakdaaDoorLay
namespace Go.Proofs.YtcmipliglcakdaaDoor
open Go Go.RowKit Go.Lw
set_option maxRecDepth 100000
theorem int_eq_false {a b : Int} (h : ¬ a = b) : (a == b) = false := beq_eq_false_iff_ne.2 h
set_option maxHeartbeats 4000000 in
theorem rmay_any (w : World) (f : Frm) (ad : Option Addr) (cap : Nat) (b : Bool) (hb : f.may = b) (hl : f.p.length ≤ 9223372036854775807) (hk : f.kind < 256) :
    Calls Tryd.prog 27 #[f.rval (.slice ad f.p.length cap)] w fun e w' => e = .returned (.bool b) ∧ Kept (fun _ => False) w w' := by
  have HB := Lw.hid hb
  clear hb
  unfold Frm.may at HB
  obtain ⟨k, s, e, n, a, m, p⟩ := f
  simp only at HB hl hk ⊢
  generalize p.length = l at *
  by_cases h6 : l ≤ 256
  · have hz : ∀ x : Nat, ¬ x = 0 → ((x : Int) == 0) = false := fun x hx => beq_eq_false_iff_ne.2 (by omega)
    have bare : k = 1 ∨ k = 2 ∨ k = 5 → Calls Tryd.prog 27 #[(⟨k, s, e, n, a, m, p⟩ : Frm).rval (.slice ad l cap)] w fun e w' => e = .returned (.bool b) ∧ Kept (fun _ => False) w w' := by
      intro hk'
      rcases hk' with rfl | rfl | rfl
      all_goals
        by_cases h1 : n = 0
        · subst h1
          by_cases h2 : a = 0
          · subst h2
            by_cases h3 : m = 0
            · subst h3
              clear hz
              go_enter Tryd.func27, Tryd.ntmps27
              go_wp2_with fail
              go_ret
              exact ⟨by rw [← HB.out]; simp [h6], (Kept.refl _ w).alloc _⟩
            · have e3 := hz m h3
              clear hz
              go_enter Tryd.func27, Tryd.ntmps27
              go_wp2_with fail
              go_ret
              exact ⟨by rw [← HB.out]; simp [h3], (Kept.refl _ w).alloc _⟩
          · have e3 := hz a h2
            clear hz
            go_enter Tryd.func27, Tryd.ntmps27
            go_wp2_with fail
            go_ret
            exact ⟨by rw [← HB.out]; simp [h2], (Kept.refl _ w).alloc _⟩
        · have e3 := hz n h1
          clear hz
          go_enter Tryd.func27, Tryd.ntmps27
          go_wp2_with fail
          go_ret
          exact ⟨by rw [← HB.out]; simp [h1], (Kept.refl _ w).alloc _⟩
    by_cases hk1 : k = 1 ∨ k = 2 ∨ k = 5
    · exact bare hk1
    clear bare
    by_cases hk3 : k = 3
    · subst hk3
      clear hz hk1
      go_enter Tryd.func27, Tryd.ntmps27
      go_wp2_with fail
      go_ret
      exact ⟨by rw [← HB.out]; simp [h6]; omega, (Kept.refl _ w).alloc _⟩
    by_cases hk4 : k = 4
    · subst hk4
      clear hk1 hk3
      by_cases h1 : n = 0
      · subst h1
        by_cases h2 : l = 0
        · subst h2
          clear hz
          go_enter Tryd.func27, Tryd.ntmps27
          go_wp2_with fail
          go_ret
          exact ⟨by rw [← HB.out]; simp, (Kept.refl _ w).alloc _⟩
        · have e3 := hz l h2
          clear hz
          go_enter Tryd.func27, Tryd.ntmps27
          go_wp2_with fail
          go_ret
          exact ⟨by rw [← HB.out]; simp [h2], (Kept.refl _ w).alloc _⟩
      · have e3 := hz n h1
        clear hz
        go_enter Tryd.func27, Tryd.ntmps27
        go_wp2_with fail
        go_ret
        exact ⟨by rw [← HB.out]; simp [h1], (Kept.refl _ w).alloc _⟩
    have e1 : ((k : Int) == 1) = false := beq_eq_false_iff_ne.2 (by omega)
    have e2 : ((k : Int) == 2) = false := beq_eq_false_iff_ne.2 (by omega)
    have e3 : ((k : Int) == 3) = false := beq_eq_false_iff_ne.2 (by omega)
    have e4 : ((k : Int) == 4) = false := beq_eq_false_iff_ne.2 (by omega)
    have e5 : ((k : Int) == 5) = false := beq_eq_false_iff_ne.2 (by omega)
    clear hz
    have hkk : (1 ≤ k ∧ k ≤ 5) = False := eq_false (by omega)
    have HK := Lw.hid hkk
    clear hkk hk1 hk3 hk4
    go_enter Tryd.func27, Tryd.ntmps27
    go_wp2_with fail
    go_ret
    refine ⟨?_, (Kept.refl _ w).alloc _⟩
    rw [← HB.out, show decide (1 ≤ k ∧ k ≤ 5 ∧ l ≤ 256) = false by have := HK.out; simp at this; simp; omega]
    rfl
  · go_enter Tryd.func27, Tryd.ntmps27
    go_wp2_with fail
    go_ret
    exact ⟨by rw [← HB.out]; simp [h6], (Kept.refl _ w).alloc _⟩
end Go.Proofs.YtcmipliglcakdaaDoor
