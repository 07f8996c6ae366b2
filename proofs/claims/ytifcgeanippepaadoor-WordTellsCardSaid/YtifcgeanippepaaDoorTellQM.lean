/- WordTells: the document's lexer: operators. -/
import Derived.Test.YtifcgeanippepaaDoorM26
namespace Go.Proofs.YtifcgeanippepaaDoor
open Go Go.RowKit Go.Lw
set_option maxRecDepth 100000
set_option linter.unusedVariables false
set_option linter.unusedSimpArgs false
attribute [local go_sem] BA_toList
set_option maxHeartbeats 40000000 in
theorem t16_operator (w : World) (s : List UInt8) (a : Nat) (hs9 : s.length ≤ 1000000) (ha : a ≤ s.length) : Calls Tryd.prog 114 #[.string (BA s), .int .i64 (a : Int)] w fun x w' => x = .returned (.tuple #[.int .i64 ((opO (operF (s.drop a))).1 : Int), .int .i64 ((opO (operF (s.drop a))).2 : Int)]) ∧ w' = w := by
  have h0 := t16_at w s a hs9 (by omega)
  have h1 := t16_at w s (a + 1) hs9 (by omega)
  have h2 := t16_at w s (a + 2) hs9 (by omega)
  rw [op16_eq, List.drop_drop, List.drop_drop]
  obtain ⟨x, hx⟩ : ∃ x, (hd16 (s.drop a)).toNat = x := ⟨_, rfl⟩
  obtain ⟨y, hy⟩ : ∃ x, (hd16 (s.drop (a + 1))).toNat = x := ⟨_, rfl⟩
  obtain ⟨z, hz⟩ : ∃ x, (hd16 (s.drop (a + 2))).toNat = x := ⟨_, rfl⟩
  rw [hx] at h0; rw [hy] at h1; rw [hz] at h2
  rw [hx, hy, hz]
  have H0 := Lw.hid h0; have H1 := Lw.hid h1; have H2 := Lw.hid h2
  have ha9 : a ≤ 1000000 := by omega
  clear h0 h1 h2 hx hy hz ha hs9
  have nb : ∀ (v k : Nat), v ≠ k → ((v : Int) == (k : Int)) = false := fun v k h => by rw [beq_eq_false_iff_ne]; omega
  by_cases nx10 : x = 10
  · subst nx10
    have HV : Hid (op16 10 y z = (2, 1)) := Lw.hid (by simp [op16, *])
    go_enter Tryd.func114, Tryd.ntmps114
    go_wp2_with fail
    refine H0.out.mono ?_
    rintro e _ ⟨rfl, rfl⟩
    go_wp2_with fail
    refine H1.out.mono ?_
    rintro e _ ⟨rfl, rfl⟩
    go_wp2_with fail
    refine H2.out.mono ?_
    rintro e _ ⟨rfl, rfl⟩
    go_wp2_with fail
    all_goals
      go_ret2
      rw [HV.out]
      exact ⟨rfl, rfl⟩
  by_cases nx59 : x = 59
  · subst nx59
    have HV : Hid (op16 59 y z = (3, 1)) := Lw.hid (by simp [op16, *])
    go_enter Tryd.func114, Tryd.ntmps114
    go_wp2_with fail
    refine H0.out.mono ?_
    rintro e _ ⟨rfl, rfl⟩
    go_wp2_with fail
    refine H1.out.mono ?_
    rintro e _ ⟨rfl, rfl⟩
    go_wp2_with fail
    refine H2.out.mono ?_
    rintro e _ ⟨rfl, rfl⟩
    go_wp2_with fail
    all_goals
      go_ret2
      rw [HV.out]
      exact ⟨rfl, rfl⟩
  by_cases nx38 : x = 38
  · subst nx38
    by_cases ny38 : y = 38
    · subst ny38
      have HV : Hid (op16 38 38 z = (4, 2)) := Lw.hid (by simp [op16, *])
      go_enter Tryd.func114, Tryd.ntmps114
      go_wp2_with fail
      refine H0.out.mono ?_
      rintro e _ ⟨rfl, rfl⟩
      go_wp2_with fail
      refine H1.out.mono ?_
      rintro e _ ⟨rfl, rfl⟩
      go_wp2_with fail
      refine H2.out.mono ?_
      rintro e _ ⟨rfl, rfl⟩
      go_wp2_with fail
      all_goals
        go_ret2
        rw [HV.out]
        exact ⟨rfl, rfl⟩
    have HV : Hid (op16 38 y z = (0, 1)) := Lw.hid (by simp [op16, *])
    have by38 : ((y : Int) == 38) = false := nb y 38 ny38
    go_enter Tryd.func114, Tryd.ntmps114
    go_wp2_with fail
    refine H0.out.mono ?_
    rintro e _ ⟨rfl, rfl⟩
    go_wp2_with fail
    refine H1.out.mono ?_
    rintro e _ ⟨rfl, rfl⟩
    go_wp2_with fail
    refine H2.out.mono ?_
    rintro e _ ⟨rfl, rfl⟩
    go_wp2_with fail
    all_goals
      go_ret2
      rw [HV.out]
      exact ⟨rfl, rfl⟩
  by_cases nx124 : x = 124
  · subst nx124
    by_cases ny124 : y = 124
    · subst ny124
      have HV : Hid (op16 124 124 z = (5, 2)) := Lw.hid (by simp [op16, *])
      go_enter Tryd.func114, Tryd.ntmps114
      go_wp2_with fail
      refine H0.out.mono ?_
      rintro e _ ⟨rfl, rfl⟩
      go_wp2_with fail
      refine H1.out.mono ?_
      rintro e _ ⟨rfl, rfl⟩
      go_wp2_with fail
      refine H2.out.mono ?_
      rintro e _ ⟨rfl, rfl⟩
      go_wp2_with fail
      all_goals
        go_ret2
        rw [HV.out]
        exact ⟨rfl, rfl⟩
    have HV : Hid (op16 124 y z = (6, 1)) := Lw.hid (by simp [op16, *])
    have by124 : ((y : Int) == 124) = false := nb y 124 ny124
    go_enter Tryd.func114, Tryd.ntmps114
    go_wp2_with fail
    refine H0.out.mono ?_
    rintro e _ ⟨rfl, rfl⟩
    go_wp2_with fail
    refine H1.out.mono ?_
    rintro e _ ⟨rfl, rfl⟩
    go_wp2_with fail
    refine H2.out.mono ?_
    rintro e _ ⟨rfl, rfl⟩
    go_wp2_with fail
    all_goals
      go_ret2
      rw [HV.out]
      exact ⟨rfl, rfl⟩
  by_cases nx60 : x = 60
  · subst nx60
    by_cases ny60 : y = 60
    · subst ny60
      have HV : Hid (op16 60 60 z = (0, 2)) := Lw.hid (by simp [op16, *])
      go_enter Tryd.func114, Tryd.ntmps114
      go_wp2_with fail
      refine H0.out.mono ?_
      rintro e _ ⟨rfl, rfl⟩
      go_wp2_with fail
      refine H1.out.mono ?_
      rintro e _ ⟨rfl, rfl⟩
      go_wp2_with fail
      refine H2.out.mono ?_
      rintro e _ ⟨rfl, rfl⟩
      go_wp2_with fail
      all_goals
        go_ret2
        rw [HV.out]
        exact ⟨rfl, rfl⟩
    by_cases ny38 : y = 38
    · subst ny38
      have HV : Hid (op16 60 38 z = (0, 2)) := Lw.hid (by simp [op16, *])
      go_enter Tryd.func114, Tryd.ntmps114
      go_wp2_with fail
      refine H0.out.mono ?_
      rintro e _ ⟨rfl, rfl⟩
      go_wp2_with fail
      refine H1.out.mono ?_
      rintro e _ ⟨rfl, rfl⟩
      go_wp2_with fail
      refine H2.out.mono ?_
      rintro e _ ⟨rfl, rfl⟩
      go_wp2_with fail
      all_goals
        go_ret2
        rw [HV.out]
        exact ⟨rfl, rfl⟩
    by_cases ny62 : y = 62
    · subst ny62
      have HV : Hid (op16 60 62 z = (0, 2)) := Lw.hid (by simp [op16, *])
      go_enter Tryd.func114, Tryd.ntmps114
      go_wp2_with fail
      refine H0.out.mono ?_
      rintro e _ ⟨rfl, rfl⟩
      go_wp2_with fail
      refine H1.out.mono ?_
      rintro e _ ⟨rfl, rfl⟩
      go_wp2_with fail
      refine H2.out.mono ?_
      rintro e _ ⟨rfl, rfl⟩
      go_wp2_with fail
      all_goals
        go_ret2
        rw [HV.out]
        exact ⟨rfl, rfl⟩
    have HV : Hid (op16 60 y z = (7, 1)) := Lw.hid (by simp [op16, *])
    have by60 : ((y : Int) == 60) = false := nb y 60 ny60
    have by38 : ((y : Int) == 38) = false := nb y 38 ny38
    have by62 : ((y : Int) == 62) = false := nb y 62 ny62
    go_enter Tryd.func114, Tryd.ntmps114
    go_wp2_with fail
    refine H0.out.mono ?_
    rintro e _ ⟨rfl, rfl⟩
    go_wp2_with fail
    refine H1.out.mono ?_
    rintro e _ ⟨rfl, rfl⟩
    go_wp2_with fail
    refine H2.out.mono ?_
    rintro e _ ⟨rfl, rfl⟩
    go_wp2_with fail
    all_goals
      go_ret2
      rw [HV.out]
      exact ⟨rfl, rfl⟩
  by_cases nx62 : x = 62
  · subst nx62
    by_cases ny62 : y = 62
    · subst ny62
      have HV : Hid (op16 62 62 z = (9, 2)) := Lw.hid (by simp [op16, *])
      go_enter Tryd.func114, Tryd.ntmps114
      go_wp2_with fail
      refine H0.out.mono ?_
      rintro e _ ⟨rfl, rfl⟩
      go_wp2_with fail
      refine H1.out.mono ?_
      rintro e _ ⟨rfl, rfl⟩
      go_wp2_with fail
      refine H2.out.mono ?_
      rintro e _ ⟨rfl, rfl⟩
      go_wp2_with fail
      all_goals
        go_ret2
        rw [HV.out]
        exact ⟨rfl, rfl⟩
    by_cases ny38 : y = 38
    · subst ny38
      have HV : Hid (op16 62 38 z = (0, 2)) := Lw.hid (by simp [op16, *])
      go_enter Tryd.func114, Tryd.ntmps114
      go_wp2_with fail
      refine H0.out.mono ?_
      rintro e _ ⟨rfl, rfl⟩
      go_wp2_with fail
      refine H1.out.mono ?_
      rintro e _ ⟨rfl, rfl⟩
      go_wp2_with fail
      refine H2.out.mono ?_
      rintro e _ ⟨rfl, rfl⟩
      go_wp2_with fail
      all_goals
        go_ret2
        rw [HV.out]
        exact ⟨rfl, rfl⟩
    by_cases ny124 : y = 124
    · subst ny124
      have HV : Hid (op16 62 124 z = (0, 2)) := Lw.hid (by simp [op16, *])
      go_enter Tryd.func114, Tryd.ntmps114
      go_wp2_with fail
      refine H0.out.mono ?_
      rintro e _ ⟨rfl, rfl⟩
      go_wp2_with fail
      refine H1.out.mono ?_
      rintro e _ ⟨rfl, rfl⟩
      go_wp2_with fail
      refine H2.out.mono ?_
      rintro e _ ⟨rfl, rfl⟩
      go_wp2_with fail
      all_goals
        go_ret2
        rw [HV.out]
        exact ⟨rfl, rfl⟩
    have HV : Hid (op16 62 y z = (8, 1)) := Lw.hid (by simp [op16, *])
    have by62 : ((y : Int) == 62) = false := nb y 62 ny62
    have by38 : ((y : Int) == 38) = false := nb y 38 ny38
    have by124 : ((y : Int) == 124) = false := nb y 124 ny124
    go_enter Tryd.func114, Tryd.ntmps114
    go_wp2_with fail
    refine H0.out.mono ?_
    rintro e _ ⟨rfl, rfl⟩
    go_wp2_with fail
    refine H1.out.mono ?_
    rintro e _ ⟨rfl, rfl⟩
    go_wp2_with fail
    refine H2.out.mono ?_
    rintro e _ ⟨rfl, rfl⟩
    go_wp2_with fail
    all_goals
      go_ret2
      rw [HV.out]
      exact ⟨rfl, rfl⟩
  by_cases nx50 : x = 50
  · subst nx50
    by_cases ny62 : y = 62
    · subst ny62
      by_cases nz62 : z = 62
      · subst nz62
        have HV : Hid (op16 50 62 62 = (11, 3)) := Lw.hid (by simp [op16, *])
        go_enter Tryd.func114, Tryd.ntmps114
        go_wp2_with fail
        refine H0.out.mono ?_
        rintro e _ ⟨rfl, rfl⟩
        go_wp2_with fail
        refine H1.out.mono ?_
        rintro e _ ⟨rfl, rfl⟩
        go_wp2_with fail
        refine H2.out.mono ?_
        rintro e _ ⟨rfl, rfl⟩
        go_wp2_with fail
        all_goals
          go_ret2
          rw [HV.out]
          exact ⟨rfl, rfl⟩
      by_cases nz38 : z = 38
      · subst nz38
        have HV : Hid (op16 50 62 38 = (0, 3)) := Lw.hid (by simp [op16, *])
        go_enter Tryd.func114, Tryd.ntmps114
        go_wp2_with fail
        refine H0.out.mono ?_
        rintro e _ ⟨rfl, rfl⟩
        go_wp2_with fail
        refine H1.out.mono ?_
        rintro e _ ⟨rfl, rfl⟩
        go_wp2_with fail
        refine H2.out.mono ?_
        rintro e _ ⟨rfl, rfl⟩
        go_wp2_with fail
        all_goals
          go_ret2
          rw [HV.out]
          exact ⟨rfl, rfl⟩
      by_cases nz124 : z = 124
      · subst nz124
        have HV : Hid (op16 50 62 124 = (0, 3)) := Lw.hid (by simp [op16, *])
        go_enter Tryd.func114, Tryd.ntmps114
        go_wp2_with fail
        refine H0.out.mono ?_
        rintro e _ ⟨rfl, rfl⟩
        go_wp2_with fail
        refine H1.out.mono ?_
        rintro e _ ⟨rfl, rfl⟩
        go_wp2_with fail
        refine H2.out.mono ?_
        rintro e _ ⟨rfl, rfl⟩
        go_wp2_with fail
        all_goals
          go_ret2
          rw [HV.out]
          exact ⟨rfl, rfl⟩
      have HV : Hid (op16 50 62 z = (10, 2)) := Lw.hid (by simp [op16, *])
      have bz62 : ((z : Int) == 62) = false := nb z 62 nz62
      have bz38 : ((z : Int) == 38) = false := nb z 38 nz38
      have bz124 : ((z : Int) == 124) = false := nb z 124 nz124
      go_enter Tryd.func114, Tryd.ntmps114
      go_wp2_with fail
      refine H0.out.mono ?_
      rintro e _ ⟨rfl, rfl⟩
      go_wp2_with fail
      refine H1.out.mono ?_
      rintro e _ ⟨rfl, rfl⟩
      go_wp2_with fail
      refine H2.out.mono ?_
      rintro e _ ⟨rfl, rfl⟩
      go_wp2_with fail
      all_goals
        go_ret2
        rw [HV.out]
        exact ⟨rfl, rfl⟩
    have HV : Hid (op16 50 y z = (0, 0)) := Lw.hid (by simp [op16, *])
    have by62 : ((y : Int) == 62) = false := nb y 62 ny62
    go_enter Tryd.func114, Tryd.ntmps114
    go_wp2_with fail
    refine H0.out.mono ?_
    rintro e _ ⟨rfl, rfl⟩
    go_wp2_with fail
    refine H1.out.mono ?_
    rintro e _ ⟨rfl, rfl⟩
    go_wp2_with fail
    refine H2.out.mono ?_
    rintro e _ ⟨rfl, rfl⟩
    go_wp2_with fail
    all_goals
      go_ret2
      rw [HV.out]
      exact ⟨rfl, rfl⟩
  have HV : Hid (op16 x y z = (0, 0)) := Lw.hid (by simp [op16, *])
  have bx10 : ((x : Int) == 10) = false := nb x 10 nx10
  have bx59 : ((x : Int) == 59) = false := nb x 59 nx59
  have bx38 : ((x : Int) == 38) = false := nb x 38 nx38
  have bx124 : ((x : Int) == 124) = false := nb x 124 nx124
  have bx60 : ((x : Int) == 60) = false := nb x 60 nx60
  have bx62 : ((x : Int) == 62) = false := nb x 62 nx62
  have bx50 : ((x : Int) == 50) = false := nb x 50 nx50
  go_enter Tryd.func114, Tryd.ntmps114
  go_wp2_with fail
  refine H0.out.mono ?_
  rintro e _ ⟨rfl, rfl⟩
  go_wp2_with fail
  refine H1.out.mono ?_
  rintro e _ ⟨rfl, rfl⟩
  go_wp2_with fail
  refine H2.out.mono ?_
  rintro e _ ⟨rfl, rfl⟩
  go_wp2_with fail
  all_goals
    go_ret2
    rw [HV.out]
    exact ⟨rfl, rfl⟩
end Go.Proofs.YtifcgeanippepaaDoor
