/- ArithWorks: the document's small functions: bytes, names, ranks, numbers. -/
import Derived.Test.YtoedopgjonhemaaGreatDoorWorksR
import Derived.Test.YtoedopgjonhemaaGreatDoorArithN
namespace Go.Proofs.YtoedopgjonhemaaGreatDoor
open Go Go.RowKit Go.Lw
set_option maxRecDepth 100000
set_option linter.unusedVariables false
set_option linter.unusedSimpArgs false
attribute [local go_sem] BA_toList
theorem start16_any (w : World) (c : UInt8) : Calls Tryz.prog 37 #[.int .u8 (c.toNat : Int)] w fun x w' => x = .returned (.bool (letterB c true)) ∧ w' = w := by
  have hc := c.toNat_lt
  go_enter Tryz.func37, Tryz.ntmps37
  go_wp2_with fail
  all_goals
    go_ret
    refine ⟨congrArg (fun b => Ending.returned (.bool b)) ?_, rfl⟩
    (try simp only [beq_iff_eq, beq_eq_false_iff_ne, ne_eq, Bool.or_eq_true, Bool.or_eq_false_iff, Bool.and_eq_true, Bool.and_eq_false_iff, decide_eq_true_eq, decide_eq_false_iff_not] at *)
    rw [Bool.eq_iff_iff]
    simp only [letterB, startB, digitB, beq_iff_eq, Bool.or_eq_true, Bool.and_eq_true, decide_eq_true_eq, Bool.not_true, Bool.not_false, Bool.false_eq_true, false_and, true_and, or_false, true_iff, false_iff, iff_true]
    omega
theorem digit16_any (w : World) (c : UInt8) : Calls Tryz.prog 38 #[.int .u8 (c.toNat : Int)] w fun x w' => x = .returned (.bool (digitB c)) ∧ w' = w := by
  have hc := c.toNat_lt
  go_enter Tryz.func38, Tryz.ntmps38
  go_wp2_with fail
  all_goals
    go_ret
    refine ⟨congrArg (fun b => Ending.returned (.bool b)) ?_, rfl⟩
    (try simp only [beq_iff_eq, beq_eq_false_iff_ne, ne_eq, Bool.or_eq_true, Bool.or_eq_false_iff, Bool.and_eq_true, Bool.and_eq_false_iff, decide_eq_true_eq, decide_eq_false_iff_not] at *)
    rw [Bool.eq_iff_iff]
    simp only [letterB, startB, digitB, beq_iff_eq, Bool.or_eq_true, Bool.and_eq_true, decide_eq_true_eq, Bool.not_true, Bool.not_false, Bool.false_eq_true, false_and, true_and, or_false, true_iff, false_iff, iff_true]
    omega
theorem digit23_any (w : World) (c : UInt8) : Calls Tryz.prog 22 #[.int .u8 (c.toNat : Int)] w fun x w' => x = .returned (.bool (digitB c)) ∧ w' = w := by
  have hc := c.toNat_lt
  go_enter Tryz.func22, Tryz.ntmps22
  go_wp2_with fail
  all_goals
    go_ret
    refine ⟨congrArg (fun b => Ending.returned (.bool b)) ?_, rfl⟩
    (try simp only [beq_iff_eq, beq_eq_false_iff_ne, ne_eq, Bool.or_eq_true, Bool.or_eq_false_iff, Bool.and_eq_true, Bool.and_eq_false_iff, decide_eq_true_eq, decide_eq_false_iff_not] at *)
    rw [Bool.eq_iff_iff]
    simp only [letterB, startB, digitB, beq_iff_eq, Bool.or_eq_true, Bool.and_eq_true, decide_eq_true_eq, Bool.not_true, Bool.not_false, Bool.false_eq_true, false_and, true_and, or_false, true_iff, false_iff, iff_true]
    omega
theorem blank23_any (w : World) (c : UInt8) : Calls Tryz.prog 21 #[.int .u8 (c.toNat : Int)] w fun x w' => x = .returned (.bool (blankA c)) ∧ w' = w := by
  have hc := c.toNat_lt
  have e1 : ((c == 32) = true) ↔ c.toNat = 32 := by rw [beq_iff_eq, ← UInt8.toNat_inj]; rfl
  have e2 : ((c == 9) = true) ↔ c.toNat = 9 := by rw [beq_iff_eq, ← UInt8.toNat_inj]; rfl
  have e3 : Hid ((blankA c = true) ↔ (c.toNat = 32 ∨ c.toNat = 9)) := Lw.hid (by unfold blankA; rw [Bool.or_eq_true, e1, e2])
  clear e1 e2
  go_enter Tryz.func21, Tryz.ntmps21
  go_wp2_with fail
  all_goals
    go_ret
    refine ⟨congrArg (fun b => Ending.returned (.bool b)) ?_, rfl⟩
    rw [Bool.eq_iff_iff, e3.out]
    (try simp only [beq_iff_eq, beq_eq_false_iff_ne, ne_eq, Bool.or_eq_true, Bool.or_eq_false_iff, Bool.and_eq_true, Bool.and_eq_false_iff, decide_eq_true_eq, decide_eq_false_iff_not, true_iff, false_iff] at *)
    omega
theorem nameB_short {s : List UInt8} {k n : Nat} (hn : s.length = n) (hk : k < n) (h : lettersK s (k + 1) = false) : nameB s = false := by
  have key : ∀ m, lettersK s (k + 1 + m) = false := by
    intro m
    induction m with
    | zero => exact h
    | succ m ih =>
      cases hg : s[k + 1 + m]? with
      | none =>
        have : s.take (k + 1 + m + 1) = s.take (k + 1 + m) := by
          rw [List.take_of_length_le (by have := List.getElem?_eq_none_iff.1 hg; omega), List.take_of_length_le (List.getElem?_eq_none_iff.1 hg)]
        rw [← Nat.add_assoc]
        unfold lettersK at ih ⊢
        rw [this]
        exact ih
      | some e => rw [← Nat.add_assoc, lettersK_snoc hg, ih]; rfl
  rw [nameB_of, hn]
  have := key (n - (k + 1))
  rw [show k + 1 + (n - (k + 1)) = n by omega] at this
  rw [this, Bool.and_false]
set_option maxHeartbeats 4000000 in
theorem name16_any (w : World) (s : List UInt8) (hs9 : s.length ≤ 1000000) :
    Calls Tryz.prog 23 #[.string (BA s)] w fun x w' => x = .returned (.bool (nameB s)) ∧ w' = w := by
  have hs := BA_size s
  obtain ⟨n, hn⟩ : ∃ n, s.length = n := ⟨_, rfl⟩
  have HN := Lw.hid hn
  rw [hn] at hs hs9
  cases s with
  | nil =>
    obtain rfl : n = 0 := hn.symm
    clear hn
    go_enter Tryz.func23, Tryz.ntmps23
    go_wp2_with fail
    go_ret
    exact ⟨rfl, rfl⟩
  | cons c0 l =>
    have hn1 : 1 ≤ n := by rw [← hn]; simp
    have HLn : Hid (l.length + 1 = n) := Lw.hid (by rw [← hn]; simp)
    by_cases h32 : n ≤ 32
    · have g0 := BA_get (l := c0 :: l) (k := 0) rfl
      clear hn
      go_enter Tryz.func23, Tryz.ntmps23
      go_wp2_with fail
      refine (start16_any _ c0).mono ?_
      cases hst : letterB c0 true with
      | false =>
        have HST : Hid (nameB (c0 :: l) = false) := Lw.hid (by show (letterB c0 true && _ && _) = false; rw [hst]; rfl)
        clear hst
        rintro x _ ⟨rfl, rfl⟩
        go_wp2_with fail
        go_ret
        rw [HST.out]
        exact ⟨rfl, rfl⟩
      | true =>
        have HST : Hid (lettersK (c0 :: l) 1 = true) := Lw.hid (by unfold lettersK; simp [hst])
        clear hst
        rintro x w4 ⟨rfl, rfl⟩
        go_wp2_with fail
        clear g0
        go_loopg [3] (n - 1) (fun gk s3 wx => ∃ k : Nat, gk = n - k ∧ 1 ≤ k ∧ k ≤ n ∧ s3 = .int .i64 (k : Int) ∧ lettersK (c0 :: l) k = true ∧ wx = w4)
        case atStart => exact ⟨1, rfl, Nat.le_refl _, hn1, rfl, HST.out, rfl⟩
        case round =>
          obtain ⟨k, rfl, hk1, hk, rfl, hall, rfl⟩ := hrel
          have HALL := Lw.hid hall
          clear hall
          by_cases hlt : k < n
          · obtain ⟨c, hc⟩ : ∃ c, (c0 :: l)[k]? = some c := ⟨_, List.getElem?_eq_getElem (by rw [HN.out]; exact hlt)⟩
            have g0 := BA_get hc
            have HK : Hid (lettersK (c0 :: l) (k + 1) = (letterB c true || digitB c)) := Lw.hid (by rw [lettersK_snoc hc, HALL.out, decide_eq_false (by omega : ¬ k = 0)]; unfold letterB; cases startB c <;> rfl)
            clear hc
            go_wp2_with fail
            refine (start16_any _ c).mono ?_
            cases hst : letterB c true with
            | true =>
              have HK2 : Hid (lettersK (c0 :: l) (k + 1) = true) := Lw.hid (by rw [HK.out, hst]; rfl)
              clear hst
              rintro x _ ⟨rfl, rfl⟩
              go_wp2_with fail
              go_roundg (n - (k + 1))
              case measure => omega
              case rel => exact ⟨k + 1, rfl, by omega, hlt, by go_num, HK2.out, rfl⟩
            | false =>
              have HK2 : Hid (lettersK (c0 :: l) (k + 1) = digitB c) := Lw.hid (by rw [HK.out, hst]; rfl)
              clear hst
              rintro x _ ⟨rfl, rfl⟩
              go_wp2_with fail
              refine (digit16_any _ c).mono ?_
              cases hst : digitB c with
              | true =>
                have HK3 : Hid (lettersK (c0 :: l) (k + 1) = true) := Lw.hid (by rw [HK2.out, hst])
                clear hst
                rintro x _ ⟨rfl, rfl⟩
                go_wp2_with fail
                go_roundg (n - (k + 1))
                case measure => omega
                case rel => exact ⟨k + 1, rfl, by omega, hlt, by go_num, HK3.out, rfl⟩
              | false =>
                have HK3 : Hid (nameB (c0 :: l) = false) := Lw.hid (nameB_short HN.out hlt (by rw [HK2.out, hst]))
                clear hst
                rintro x _ ⟨rfl, rfl⟩
                go_wp2_with fail
                go_ret
                rw [HK3.out]
                exact ⟨rfl, rfl⟩
          · obtain rfl : k = n := by omega
            have HK3 : Hid (nameB (c0 :: l) = true) := Lw.hid (by rw [nameB_of, HN.out, HALL.out, decide_eq_true h32]; rfl)
            go_wp2_with fail
            go_ret
            rw [HK3.out]
            exact ⟨rfl, rfl⟩
    · have HK3 : Hid (nameB (c0 :: l) = false) := Lw.hid (by rw [nameB_of, hn, decide_eq_false h32, Bool.and_false, Bool.false_and])
      clear hn
      go_enter Tryz.func23, Tryz.ntmps23
      go_wp2_with fail
      go_ret
      rw [HK3.out]
      exact ⟨rfl, rfl⟩
end Go.Proofs.YtoedopgjonhemaaGreatDoor
