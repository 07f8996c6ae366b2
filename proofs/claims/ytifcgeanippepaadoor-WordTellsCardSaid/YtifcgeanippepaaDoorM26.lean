/- WordTells: the document's lexer: bytes, what stands at a place, find, arith. -/
import Derived.Test.YtifcgeanippepaaDoorM25
namespace Go.Proofs.YtifcgeanippepaaDoor
open Go Go.RowKit Go.Lw
set_option maxRecDepth 100000
set_option linter.unusedVariables false
set_option linter.unusedSimpArgs false
attribute [local go_sem] BA_toList
theorem t16_start (w : World) (c : UInt8) : Calls Tryd.prog 131 #[.int .u8 (c.toNat : Int)] w fun x w' => x = .returned (.bool (letterB c true)) ∧ w' = w := by
  have hc := c.toNat_lt
  go_enter Tryd.func131, Tryd.ntmps131
  go_wp2_with fail
  all_goals
    go_ret
    refine ⟨congrArg (fun b => Ending.returned (.bool b)) ?_, rfl⟩
    (try simp only [beq_iff_eq, beq_eq_false_iff_ne, ne_eq, Bool.or_eq_true, Bool.or_eq_false_iff, Bool.and_eq_true, Bool.and_eq_false_iff, decide_eq_true_eq, decide_eq_false_iff_not] at *)
    rw [Bool.eq_iff_iff]
    simp only [letterB, startB, digitB, beq_iff_eq, Bool.or_eq_true, Bool.and_eq_true, decide_eq_true_eq, Bool.not_true, Bool.not_false, Bool.false_eq_true, false_and, true_and, or_false, true_iff, false_iff, iff_true]
    omega
theorem t16_digit (w : World) (c : UInt8) : Calls Tryd.prog 132 #[.int .u8 (c.toNat : Int)] w fun x w' => x = .returned (.bool (digitB c)) ∧ w' = w := by
  have hc := c.toNat_lt
  go_enter Tryd.func132, Tryd.ntmps132
  go_wp2_with fail
  all_goals
    go_ret
    refine ⟨congrArg (fun b => Ending.returned (.bool b)) ?_, rfl⟩
    (try simp only [beq_iff_eq, beq_eq_false_iff_ne, ne_eq, Bool.or_eq_true, Bool.or_eq_false_iff, Bool.and_eq_true, Bool.and_eq_false_iff, decide_eq_true_eq, decide_eq_false_iff_not] at *)
    rw [Bool.eq_iff_iff]
    simp only [letterB, startB, digitB, beq_iff_eq, Bool.or_eq_true, Bool.and_eq_true, decide_eq_true_eq, Bool.not_true, Bool.not_false, Bool.false_eq_true, false_and, true_and, or_false, true_iff, false_iff, iff_true]
    omega
theorem endB_nat (c : UInt8) : (endB c = true) ↔ (c.toNat = 32 ∨ c.toNat = 9 ∨ c.toNat = 10 ∨ c.toNat = 59 ∨ c.toNat = 38 ∨ c.toNat = 124 ∨ c.toNat = 60 ∨ c.toNat = 62) := by
  have e : ∀ k : UInt8, ((c == k) = true) ↔ c.toNat = k.toNat := fun k => by rw [beq_iff_eq, ← UInt8.toNat_inj]
  unfold endB
  simp only [Bool.or_eq_true, e, or_assoc]
  rfl
theorem t16_ends (w : World) (c : UInt8) : Calls Tryd.prog 115 #[.int .u8 (c.toNat : Int)] w fun x w' => x = .returned (.bool (endB c)) ∧ w' = w := by
  have hc := c.toNat_lt
  have HE := Lw.hid (endB_nat c)
  go_enter Tryd.func115, Tryd.ntmps115
  go_wp2_with fail
  all_goals
    go_ret
    refine ⟨congrArg (fun b => Ending.returned (.bool b)) ?_, rfl⟩
    rw [Bool.eq_iff_iff, HE.out]
    (try simp only [beq_iff_eq, beq_eq_false_iff_ne, ne_eq, Bool.or_eq_true, Bool.or_eq_false_iff, Bool.and_eq_true, Bool.and_eq_false_iff, decide_eq_true_eq, decide_eq_false_iff_not, true_iff, false_iff] at *)
    omega
/-- The byte at a place. -/
theorem t16_at (w : World) (s : List UInt8) (a : Nat) (hs9 : s.length ≤ 1000000) (ha : a ≤ 2000000) : Calls Tryd.prog 126 #[.string (BA s), .int .i64 (a : Int)] w fun x w' => x = .returned (.int .u8 ((hd16 (s.drop a)).toNat : Int)) ∧ w' = w := by
  have hs := BA_size s
  obtain ⟨r, hr⟩ : ∃ r, s.drop a = r := ⟨_, rfl⟩
  have hl : r.length = s.length - a := by rw [← hr, List.length_drop]
  rw [hr]
  cases r with
  | nil =>
    obtain ⟨N, hN⟩ : ∃ N, s.length = N := ⟨_, rfl⟩
    rw [hN] at hs hl hs9
    have hna : N ≤ a := by simp at hl; omega
    clear hN hl hr
    go_enter Tryd.func126, Tryd.ntmps126
    go_wp2_with fail
    all_goals
      go_ret
      exact ⟨rfl, rfl⟩
  | cons c r =>
    obtain ⟨hc0, hd1, hl1⟩ := drop_cons hr
    have g0 := BA_get hc0
    obtain ⟨N, hN⟩ : ∃ N, s.length = N := ⟨_, rfl⟩
    rw [hN] at hs hl1 hs9
    have hna : a < N := by omega
    clear hN hl hr hc0 hd1
    go_enter Tryd.func126, Tryd.ntmps126
    go_wp2_with fail
    all_goals
      go_ret
      exact ⟨rfl, rfl⟩
/-- A place behind, and none: or an error. -/
def resR (N : Nat) : Rs → Value
  | .ok r => .tuple #[.int .i64 ((N - r.length : Nat) : Int), .int .i64 0]
  | .error e => .tuple #[.int .i64 0, .int .i64 (e : Int)]
set_option maxHeartbeats 8000000 in
theorem t16_find (w : World) (s : List UInt8) (a : Nat) (c : UInt8) (hs9 : s.length ≤ 1000000) (ha : a ≤ s.length) : Calls Tryd.prog 127 #[.string (BA s), .int .i64 (a : Int), .int .u8 (c.toNat : Int)] w fun x w' => x = .returned (resR s.length (untilF c (s.drop a))) ∧ Kept (fun _ => False) w w' := by
  have hs := BA_size s
  obtain ⟨R0, hR0⟩ : ∃ R0, untilF c (s.drop a) = R0 := ⟨_, rfl⟩
  have HR0 := Lw.hid hR0
  rw [hR0]
  obtain ⟨N, hN⟩ : ∃ N, s.length = N := ⟨_, rfl⟩
  have HN := Lw.hid hN
  rw [hN] at hs hs9 ha ⊢
  clear hR0 hN
  go_enter Tryd.func127, Tryd.ntmps127
  go_wp2_with fail
  go_loopg [1] (N - a) (fun gk s1 wx => ∃ b r, gk = N - b ∧ s1 = .int .i64 (b : Int) ∧ b ≤ N ∧ s.drop b = r ∧ untilF c r = R0 ∧ Kept (fun _ => False) w wx)
  case atStart => exact ⟨a, _, rfl, rfl, ha, rfl, HR0.out, Kept.refl _ w⟩
  case round =>
    obtain ⟨b, r, rfl, rfl, hb, hr, hu, hk⟩ := hrel
    have HU := Lw.hid hu; have HK := Lw.hid hk; have HRR := Lw.hid hr
    have hl : r.length = N - b := by rw [← hr, List.length_drop, HN.out]
    clear hu hk hr HR0
    cases r with
    | nil =>
      have hna : N ≤ b := by simp at hl; omega
      have HE : Hid (R0 = .error 5) := Lw.hid (by rw [← HU.out]; rfl)
      clear hl
      go_wp2_with fail
      all_goals
        go_ret2
        rw [HE.out]
        exact ⟨rfl, HK.out⟩
    | cons d r =>
      obtain ⟨hc0, hd1, hl1⟩ := drop_cons HRR.out
      have g0 := BA_get hc0
      have HD1 := Lw.hid hd1
      have hna : b < N := by simp at hl; omega
      have hrl : N - r.length = b + 1 := by simp at hl; omega
      have HRL := Lw.hid hrl
      clear hl hl1 hc0 hd1 hrl
      by_cases h : d = c
      · have hb2 : ((d.toNat : Int) == (c.toNat : Int)) = true := by rw [h]; exact beq_self_eq_true _
        have HE : Hid (R0 = .ok r) := Lw.hid (by rw [← HU.out]; exact if_pos h)
        clear h
        go_wp2_with fail
        go_ret2
        rw [HE.out]
        exact ⟨by show _ = Ending.returned (.tuple #[.int .i64 ((N - r.length : Nat) : Int), .int .i64 0]); rw [HRL.out]; rfl, HK.out⟩
      · have hb2 : ((d.toNat : Int) == (c.toNat : Int)) = false := by
          rw [beq_eq_false_iff_ne]
          intro e
          exact h (UInt8.toNat_inj.1 (by omega))
        have HE : Hid (untilF c r = R0) := Lw.hid (by rw [← HU.out]; exact (if_neg h).symm)
        clear h
        go_wp2_with fail
        go_roundg (N - (b + 1))
        case measure => omega
        case rel => exact ⟨b + 1, r, rfl, by go_num, by omega, HD1.out, HE.out, HK.out⟩
end Go.Proofs.YtifcgeanippepaaDoor
/- WordTells: the document's names. -/
namespace Go.Proofs.YtifcgeanippepaaDoor
open Go Go.RowKit Go.Lw
set_option maxRecDepth 100000
set_option linter.unusedVariables false
set_option linter.unusedSimpArgs false
attribute [local go_sem] BA_toList
theorem nameB_short {s : List UInt8} {k n : Nat} (hn : s.length = n) (hk : k < n) (h : lettersK s (k + 1) = false) : nameB s = false := by
  have key : ∀ m, lettersK s (k + 1 + m) = false := by
    intro m
    induction m with
    | zero => exact h
    | succ m ih =>
      cases hg : s[k + 1 + m]? with
      | none =>
        have : s.take (k + 1 + m + 1) = s.take (k + 1 + m) := by
          rw [List.take_of_length_le (by have := List.getElem?_eq_none_iff.1 hg; omega), List.take_of_length_le (List.getElem?_eq_none_iff.1 hg)]
        rw [← Nat.add_assoc]
        unfold lettersK at ih ⊢
        rw [this]
        exact ih
      | some e => rw [← Nat.add_assoc, lettersK_snoc hg, ih]; rfl
  rw [nameB_of, hn]
  have := key (n - (k + 1))
  rw [show k + 1 + (n - (k + 1)) = n by omega] at this
  rw [this, Bool.and_false]
set_option maxHeartbeats 4000000 in
theorem t16_name (w : World) (s : List UInt8) (hs9 : s.length ≤ 1000000) :
    Calls Tryd.prog 138 #[.string (BA s)] w fun x w' => x = .returned (.bool (nameB s)) ∧ w' = w := by
  have hs := BA_size s
  obtain ⟨n, hn⟩ : ∃ n, s.length = n := ⟨_, rfl⟩
  have HN := Lw.hid hn
  rw [hn] at hs hs9
  cases s with
  | nil =>
    obtain rfl : n = 0 := hn.symm
    clear hn
    go_enter Tryd.func138, Tryd.ntmps138
    go_wp2_with fail
    go_ret
    exact ⟨rfl, rfl⟩
  | cons c0 l =>
    have hn1 : 1 ≤ n := by rw [← hn]; simp
    have HLn : Hid (l.length + 1 = n) := Lw.hid (by rw [← hn]; simp)
    by_cases h32 : n ≤ 32
    · have g0 := BA_get (l := c0 :: l) (k := 0) rfl
      clear hn
      go_enter Tryd.func138, Tryd.ntmps138
      go_wp2_with fail
      refine (t16_start _ c0).mono ?_
      cases hst : letterB c0 true with
      | false =>
        have HST : Hid (nameB (c0 :: l) = false) := Lw.hid (by show (letterB c0 true && _ && _) = false; rw [hst]; rfl)
        clear hst
        rintro x _ ⟨rfl, rfl⟩
        go_wp2_with fail
        go_ret
        rw [HST.out]
        exact ⟨rfl, rfl⟩
      | true =>
        have HST : Hid (lettersK (c0 :: l) 1 = true) := Lw.hid (by unfold lettersK; simp [hst])
        clear hst
        rintro x w4 ⟨rfl, rfl⟩
        go_wp2_with fail
        clear g0
        go_loopg [3] (n - 1) (fun gk s3 wx => ∃ k : Nat, gk = n - k ∧ 1 ≤ k ∧ k ≤ n ∧ s3 = .int .i64 (k : Int) ∧ lettersK (c0 :: l) k = true ∧ wx = w4)
        case atStart => exact ⟨1, rfl, Nat.le_refl _, hn1, rfl, HST.out, rfl⟩
        case round =>
          obtain ⟨k, rfl, hk1, hk, rfl, hall, rfl⟩ := hrel
          have HALL := Lw.hid hall
          clear hall
          by_cases hlt : k < n
          · obtain ⟨c, hc⟩ : ∃ c, (c0 :: l)[k]? = some c := ⟨_, List.getElem?_eq_getElem (by rw [HN.out]; exact hlt)⟩
            have g0 := BA_get hc
            have HK : Hid (lettersK (c0 :: l) (k + 1) = (letterB c true || digitB c)) := Lw.hid (by rw [lettersK_snoc hc, HALL.out, decide_eq_false (by omega : ¬ k = 0)]; unfold letterB; cases startB c <;> rfl)
            clear hc
            go_wp2_with fail
            refine (t16_start _ c).mono ?_
            cases hst : letterB c true with
            | true =>
              have HK2 : Hid (lettersK (c0 :: l) (k + 1) = true) := Lw.hid (by rw [HK.out, hst]; rfl)
              clear hst
              rintro x _ ⟨rfl, rfl⟩
              go_wp2_with fail
              go_roundg (n - (k + 1))
              case measure => omega
              case rel => exact ⟨k + 1, rfl, by omega, hlt, by go_num, HK2.out, rfl⟩
            | false =>
              have HK2 : Hid (lettersK (c0 :: l) (k + 1) = digitB c) := Lw.hid (by rw [HK.out, hst]; rfl)
              clear hst
              rintro x _ ⟨rfl, rfl⟩
              go_wp2_with fail
              refine (t16_digit _ c).mono ?_
              cases hst : digitB c with
              | true =>
                have HK3 : Hid (lettersK (c0 :: l) (k + 1) = true) := Lw.hid (by rw [HK2.out, hst])
                clear hst
                rintro x _ ⟨rfl, rfl⟩
                go_wp2_with fail
                go_roundg (n - (k + 1))
                case measure => omega
                case rel => exact ⟨k + 1, rfl, by omega, hlt, by go_num, HK3.out, rfl⟩
              | false =>
                have HK3 : Hid (nameB (c0 :: l) = false) := Lw.hid (nameB_short HN.out hlt (by rw [HK2.out, hst]))
                clear hst
                rintro x _ ⟨rfl, rfl⟩
                go_wp2_with fail
                go_ret
                rw [HK3.out]
                exact ⟨rfl, rfl⟩
          · obtain rfl : k = n := by omega
            have HK3 : Hid (nameB (c0 :: l) = true) := Lw.hid (by rw [nameB_of, HN.out, HALL.out, decide_eq_true h32]; rfl)
            go_wp2_with fail
            go_ret
            rw [HK3.out]
            exact ⟨rfl, rfl⟩
    · have HK3 : Hid (nameB (c0 :: l) = false) := Lw.hid (by rw [nameB_of, hn, decide_eq_false h32, Bool.and_false, Bool.false_and])
      clear hn
      go_enter Tryd.func138, Tryd.ntmps138
      go_wp2_with fail
      go_ret
      rw [HK3.out]
      exact ⟨rfl, rfl⟩
end Go.Proofs.YtifcgeanippepaaDoor
