/- package word: May; a guard round a range. -/
import Derived.Test.YtifcgeanippepaaDoorWord8
import Derived.Test.YtifcgeanippepaaDoorWordT
import Derived.Test.YtifcgeanippepaaDoorAll
namespace Go.Proofs.YtifcgeanippepaaDoor
open Go Go.RowKit Go.Lw
set_option maxRecDepth 100000
set_option linter.unusedVariables false
set_option linter.unusedSimpArgs false
attribute [local go_sem] BA_toList
def mayF (l : List Prt) : Bool := match parseW (textW l) with
  | .ok v => sameW v l
  | .error _ => false
set_option maxHeartbeats 8000000 in
/-- May. -/
theorem may_any (w : World) (F : Nat → Prop) (v : Value) (l : List Prt) (hE : WEnv w) (hv : WAt w F v l) (hl : (textW l).length ≤ 1000000) :
    Calls Tryd.prog 32 #[v] w fun x w' => x = .returned (.bool (mayF l)) ∧ Kept (fun _ => False) w w' := by
  have HT := Lw.hid (text_any (by omega) hv)
  have HE := Lw.hid hE; have HV := Lw.hid hv
  obtain ⟨t, ht⟩ : ∃ t, textW l = t := ⟨_, rfl⟩
  rw [ht] at HT hl
  have HM : Hid (mayF l = match parseW t with | .ok v => sameW v l | .error _ => false) := Lw.hid (by unfold mayF; rw [ht])
  clear hE hv ht
  cases hp : parseW t with
  | error e =>
    have he0 : ((e : Int) == 0) = false := by
      have : e ≠ 0 := by
        intro h0; subst h0
        unfold parseW at hp
        split at hp
        · rename_i e' he; cases hp; exact lexT_ne0 he
        · split at hp
          · split at hp
            · cases hp
            · cases hp
          · cases hp
      simp; omega
    have HP := Lw.hid hp
    rw [hp] at HM
    clear hp
    go_enter Tryd.func32, Tryd.ntmps32
    go_wp2_with fail
    refine HT.out.mono ?_
    rintro x w1 ⟨rfl, k1⟩
    have K1 := Lw.hid k1
    have HPA := Lw.hid (parse_any w1 t (HE.out.kept k1 (fun h => h) (fun h => h) (fun h => h)) hl)
    clear k1
    go_wp2_with fail
    refine HPA.out.mono ?_
    rintro x w2 ⟨hx, k2⟩
    unfold ParsePost at hx
    rw [HP.out] at hx
    subst hx
    have K2 := Lw.hid (K1.out.trans k2 (fun _ _ h => h))
    clear k2
    go_wp2_with fail
    go_ret
    rw [HM.out]
    exact ⟨rfl, K2.out⟩
  | ok m =>
    have HP := Lw.hid hp
    rw [hp] at HM
    clear hp
    go_enter Tryd.func32, Tryd.ntmps32
    go_wp2_with fail
    refine HT.out.mono ?_
    rintro x w1 ⟨rfl, k1⟩
    have K1 := Lw.hid k1
    have HPA := Lw.hid (parse_any w1 t (HE.out.kept k1 (fun h => h) (fun h => h) (fun h => h)) hl)
    clear k1
    go_wp2_with fail
    refine HPA.out.mono ?_
    rintro x w2 ⟨hx, k2⟩
    obtain ⟨vm, rfl, hvm⟩ := pp_at hx HP.out
    have K2 := Lw.hid (K1.out.trans k2 (fun _ _ h => h))
    have S1 := Lw.hid (same_any hvm (HV.out.kept K2.out (fun _ _ h => h)))
    clear k2 hx hvm
    go_wp2_with fail
    refine S1.out.mono ?_
    rintro x w3 ⟨rfl, k3⟩
    have K3 := Lw.hid (K2.out.trans k3 (fun _ _ h => h))
    clear k3
    go_wp2_with fail
    go_ret
    rw [HM.out]
    exact ⟨rfl, K3.out⟩
theorem safew_any (w : World) (f : Nat) (pre lb : Array Value) :
    Calls Tryd.prog 37 #[.func (.func f) pre lb] w fun x w' => x = .returned (.func (.func f) pre lb) ∧ w' = w := by
  have he := run_func_nil (P := Tryd.prog) w 65 (.func f) pre lb Tryd.underlying65
  go_enter Tryd.func37, Tryd.ntmps37
  go_wp2_with fail
  go_ret
  exact ⟨rfl, rfl⟩
end Go.Proofs.YtifcgeanippepaaDoor
