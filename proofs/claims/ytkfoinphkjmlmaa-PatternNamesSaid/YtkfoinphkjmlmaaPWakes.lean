/- What the document's examples say (chapter 21). -/
import Derived.Test.YtkfoinphkjmlmaaAlive
namespace Go.Proofs.Ytkfoinphkjmlmaa
open Go Go.RowKit Go.Lw
set_option maxRecDepth 100000
set_option linter.unusedVariables false
attribute [local go_sem] BA_toList
theorem wk0 : matchF [97, 42, 91, 48, 45, 57, 93] [97, 49] = true := by decide +kernel
theorem wk1 : matchF [97, 42, 91, 48, 45, 57, 93] [97, 120, 120, 57] = true := by decide +kernel
theorem wk2 : matchF [97, 42, 91, 48, 45, 57, 93] [97] = false := by decide +kernel
theorem wk3 : matchF [46, 63, 42] [46, 120] = true := by decide +kernel
theorem wk4 : matchF [46, 63, 42] [46] = false := by decide +kernel
theorem wk5 : matchF [91, 93, 120, 93] [93] = true := by decide +kernel
theorem wk6 : matchF [91, 33, 97, 93, 98] [120, 98] = true := by decide +kernel
theorem wk7 : matchF [91, 33, 97, 93, 98] [97, 98] = false := by decide +kernel
set_option maxHeartbeats 4000000 in
theorem pwakes_any (w : World) : Calls Try.prog 10 #[] w fun e w' => e = .returned (.bool true) ∧ Kept (fun _ => False) w w' := by
  go_enter Try.func10, Try.ntmps10
  go_wp2_with fail
  refine (match_any w [97, 42, 91, 48, 45, 57, 93] [97, 49] (by decide) (by decide)).mono ?_
  rw [wk0]
  rintro e w1 ⟨rfl, k1⟩
  have K1 := Lw.hid ((Kept.refl (fun _ => False) w).trans k1 (fun _ _ h => h))
  clear k1
  go_wp2_with fail
  refine (match_any w1 [97, 42, 91, 48, 45, 57, 93] [97, 120, 120, 57] (by decide) (by decide)).mono ?_
  rw [wk1]
  rintro e w2 ⟨rfl, k2⟩
  have K2 := Lw.hid (K1.out.trans k2 (fun _ _ h => h))
  clear k2
  go_wp2_with fail
  refine (match_any w2 [97, 42, 91, 48, 45, 57, 93] [97] (by decide) (by decide)).mono ?_
  rw [wk2]
  rintro e w3 ⟨rfl, k3⟩
  have K3 := Lw.hid (K2.out.trans k3 (fun _ _ h => h))
  clear k3
  go_wp2_with fail
  refine (match_any w3 [46, 63, 42] [46, 120] (by decide) (by decide)).mono ?_
  rw [wk3]
  rintro e w4 ⟨rfl, k4⟩
  have K4 := Lw.hid (K3.out.trans k4 (fun _ _ h => h))
  clear k4
  go_wp2_with fail
  refine (match_any w4 [46, 63, 42] [46] (by decide) (by decide)).mono ?_
  rw [wk4]
  rintro e w5 ⟨rfl, k5⟩
  have K5 := Lw.hid (K4.out.trans k5 (fun _ _ h => h))
  clear k5
  go_wp2_with fail
  refine (match_any w5 [91, 93, 120, 93] [93] (by decide) (by decide)).mono ?_
  rw [wk5]
  rintro e w6 ⟨rfl, k6⟩
  have K6 := Lw.hid (K5.out.trans k6 (fun _ _ h => h))
  clear k6
  go_wp2_with fail
  refine (match_any w6 [91, 33, 97, 93, 98] [120, 98] (by decide) (by decide)).mono ?_
  rw [wk6]
  rintro e w7 ⟨rfl, k7⟩
  have K7 := Lw.hid (K6.out.trans k7 (fun _ _ h => h))
  clear k7
  go_wp2_with fail
  refine (match_any w7 [91, 33, 97, 93, 98] [97, 98] (by decide) (by decide)).mono ?_
  rw [wk7]
  rintro e w8 ⟨rfl, k8⟩
  have K8 := Lw.hid (K7.out.trans k8 (fun _ _ h => h))
  clear k8
  go_wp2_with fail
  go_ret
  exact ⟨rfl, K8.out⟩
end Go.Proofs.Ytkfoinphkjmlmaa
