/- ArithNumbers: FormatInt, text, one. -/
import Derived.Test.YtoedopgjonhemaaDoorNumbersQ
import Derived.Test.YtoedopgjonhemaaDoorAChains
namespace Go.Proofs.YtoedopgjonhemaaDoor
open Go Go.RowKit Go.Lw
set_option maxRecDepth 100000
set_option linter.unusedVariables false
set_option linter.unusedSimpArgs false
attribute [local go_sem] BA_toList
theorem fmt_any (B : Nat) (dv : Value) (w : World) (hE : CEnv B dv w) (n : Int) (hn : In64 n) : Calls Tryd.prog 9 #[.int .i64 n, .int .i64 10] w fun x w' => x = .returned (.string (BA (Lib.itoa n))) ∧ Kept (fun _ => False) w w' := by
  refine (Tryd.strconv_FormatInt_10 n hn.1 hn.2 w hE.t).mono ?_
  rintro x w' ⟨rfl, k, os, rfl⟩
  refine ⟨rfl, rfl, rfl, rfl, by simp [Go.Sort.grow], fun i hi _ => ?_⟩
  show (w.heap ++ os)[i]? = _
  rw [Array.getElem?_append_left hi]
theorem oneN_any (w : World) (b : Bool) : Calls Tryd.prog 10 #[.bool b] w fun x w' => x = .returned (.int .i64 (truthI b)) ∧ w' = w := by
  cases b
  all_goals
    go_enter Tryd.func10, Tryd.ntmps10
    go_wp2_with fail
    go_ret
    exact ⟨rfl, rfl⟩
theorem text_any (B : Nat) (dv : Value) (w : World) (hE : CEnv B dv w) (n : Int) (hn : In64 n) : Calls Tryd.prog 11 #[.int .i64 n] w fun x w' => x = .returned (.string (BA (txS n))) ∧ Kept (fun _ => False) w w' := by
  have HF := Lw.hid (fmt_any B dv w hE n hn)
  have hl := Lib.itoa_length_le n hn.1 hn.2
  by_cases h : n = -9223372036854775808
  · have ht : Hid (txS n = [40, 45, 57, 50, 50, 51, 51, 55, 50, 48, 51, 54, 56, 53, 52, 55, 55, 53, 56, 48, 55, 45, 49, 41]) := Lw.hid (by unfold txS; rw [if_pos h])
    rw [ht.out]
    subst h
    clear hE hn ht HF hl
    go_enter Tryd.func11, Tryd.ntmps11
    go_wp2_with fail
    go_ret
    exact ⟨rfl, Kept.refl _ _⟩
  · have hb : (n == -9223372036854775808) = false := by simp [h]
    have ht : Hid (BA (txS n) = (⟨#[40]⟩ ++ BA (Lib.itoa n)) ++ ⟨#[41]⟩) := Lw.hid (by
      unfold txS; rw [if_neg h]
      show _ = (BA [40] ++ BA (Lib.itoa n)) ++ BA [41]
      rw [BA_append, BA_append]; rfl)
    rw [ht.out]
    have hz : (BA (Lib.itoa n)).size ≤ 21 := by rw [BA_size]; exact hl
    obtain ⟨T, hT⟩ : ∃ T, Lib.itoa n = T := ⟨_, rfl⟩
    rw [hT] at HF hz ⊢
    clear hE hn ht h hl hT
    go_enter Tryd.func11, Tryd.ntmps11
    go_wp2_with fail
    refine HF.out.mono ?_
    rintro x w1 ⟨rfl, k1⟩
    have K1 := Lw.hid k1
    clear k1
    go_wp2_with fail
    go_ret
    exact ⟨rfl, K1.out⟩
end Go.Proofs.YtoedopgjonhemaaDoor
