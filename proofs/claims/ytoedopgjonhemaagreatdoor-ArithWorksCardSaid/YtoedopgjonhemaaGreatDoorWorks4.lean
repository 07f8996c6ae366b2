/- ArithWorks: what the document's signs do. -/
import Derived.Test.YtoedopgjonhemaaGreatDoorWorks3
namespace Go.Proofs.YtoedopgjonhemaaGreatDoor
open Go Go.RowKit Go.Lw
set_option maxRecDepth 100000
set_option linter.unusedVariables false
set_option linter.unusedSimpArgs false
attribute [local go_sem] BA_toList
theorem wrF_0 (sk : Int) (wr : Nat) : wrF sk wr 0 = wr := by unfold wrF; split <;> omega
/-- What does promises at a sign. -/
def DoP (w : World) (g : List UInt8) : Prop := ∀ (mb : Nat) (H : Nat → Prop) (vL vV vA : Value) (at_ d sk bd : Int) (wr : Nat) (a b : Int), MC w mb vL vV vA at_ d sk bd (wr : Int) → I64 a → I64 b →
  Calls Tryz.prog 42 #[.pointer (some ⟨mb, 0, none⟩), .string (BA g), .int .i64 a, .int .i64 b] w fun x w' => x = .returned (.int .i64 (binF g a b).1) ∧ MC w' mb vL vV vA at_ d sk bd (wrF sk wr (binF g a b).2 : Int) ∧ KB mb w w'
theorem does_or (w : World) : DoP w [124] := by
  intro mb H vL vV vA at_ d sk bd wr a b h ha hb
  have e : binF [124] a b = (W64 (BitVec.ofInt 64 a ||| BitVec.ofInt 64 b).toNat, 0) := by simp [binF]
  have HM := Lw.hid h
  rw [e]
  show Calls _ _ _ _ fun x w' => x = .returned (.int .i64 (W64 (BitVec.ofInt 64 a ||| BitVec.ofInt 64 b).toNat)) ∧ MC w' mb vL vV vA at_ d sk bd (wrF sk wr 0 : Int) ∧ KB mb w w'
  rw [wrF_0]
  clear h e
  go_enter Tryz.func42, Tryz.ntmps42
  go_wp2_with fail
  go_ret
  exact ⟨congrArg (fun z => Ending.returned (.int .i64 z)) (by first | rfl | exact (IntWalk.i64_left _).symm), HM.out, KB.refl mb _⟩
theorem does_xor (w : World) : DoP w [94] := by
  intro mb H vL vV vA at_ d sk bd wr a b h ha hb
  have e : binF [94] a b = (W64 (BitVec.ofInt 64 a ^^^ BitVec.ofInt 64 b).toNat, 0) := by simp [binF]
  have HM := Lw.hid h
  rw [e]
  show Calls _ _ _ _ fun x w' => x = .returned (.int .i64 (W64 (BitVec.ofInt 64 a ^^^ BitVec.ofInt 64 b).toNat)) ∧ MC w' mb vL vV vA at_ d sk bd (wrF sk wr 0 : Int) ∧ KB mb w w'
  rw [wrF_0]
  clear h e
  go_enter Tryz.func42, Tryz.ntmps42
  go_wp2_with fail
  go_ret
  exact ⟨congrArg (fun z => Ending.returned (.int .i64 z)) (by first | rfl | exact (IntWalk.i64_left _).symm), HM.out, KB.refl mb _⟩
theorem does_and (w : World) : DoP w [38] := by
  intro mb H vL vV vA at_ d sk bd wr a b h ha hb
  have e : binF [38] a b = (W64 (BitVec.ofInt 64 a &&& BitVec.ofInt 64 b).toNat, 0) := by simp [binF]
  have HM := Lw.hid h
  rw [e]
  show Calls _ _ _ _ fun x w' => x = .returned (.int .i64 (W64 (BitVec.ofInt 64 a &&& BitVec.ofInt 64 b).toNat)) ∧ MC w' mb vL vV vA at_ d sk bd (wrF sk wr 0 : Int) ∧ KB mb w w'
  rw [wrF_0]
  clear h e
  go_enter Tryz.func42, Tryz.ntmps42
  go_wp2_with fail
  go_ret
  exact ⟨congrArg (fun z => Ending.returned (.int .i64 z)) (by first | rfl | exact (IntWalk.i64_left _).symm), HM.out, KB.refl mb _⟩
theorem does_eq (w : World) : DoP w [61, 61] := by
  intro mb H vL vV vA at_ d sk bd wr a b h ha hb
  have e : binF [61, 61] a b = (truthI (a == b), 0) := by simp [binF]
  have HM := Lw.hid h
  rw [e]
  show Calls _ _ _ _ fun x w' => x = .returned (.int .i64 (truthI (a == b))) ∧ MC w' mb vL vV vA at_ d sk bd (wrF sk wr 0 : Int) ∧ KB mb w w'
  rw [wrF_0]
  clear h e
  go_enter Tryz.func42, Tryz.ntmps42
  go_wp2_with fail
  refine (so_any _ _).mono ?_
  rintro x w2 ⟨rfl, hw2⟩
  subst hw2
  go_wp2_with fail
  go_ret
  exact ⟨congrArg (fun z => Ending.returned (.int .i64 z)) (by first | rfl | exact (IntWalk.i64_left _).symm), HM.out, KB.refl mb _⟩
theorem does_ne (w : World) : DoP w [33, 61] := by
  intro mb H vL vV vA at_ d sk bd wr a b h ha hb
  have e : binF [33, 61] a b = (truthI (a != b), 0) := by simp [binF]
  have HM := Lw.hid h
  rw [e]
  show Calls _ _ _ _ fun x w' => x = .returned (.int .i64 (truthI (a != b))) ∧ MC w' mb vL vV vA at_ d sk bd (wrF sk wr 0 : Int) ∧ KB mb w w'
  rw [wrF_0]
  clear h e
  go_enter Tryz.func42, Tryz.ntmps42
  go_wp2_with fail
  refine (so_any _ _).mono ?_
  rintro x w2 ⟨rfl, hw2⟩
  subst hw2
  go_wp2_with fail
  go_ret
  exact ⟨congrArg (fun z => Ending.returned (.int .i64 z)) (by first | rfl | exact (IntWalk.i64_left _).symm), HM.out, KB.refl mb _⟩
theorem does_lt (w : World) : DoP w [60] := by
  intro mb H vL vV vA at_ d sk bd wr a b h ha hb
  have e : binF [60] a b = (truthI (decide (a < b)), 0) := by simp [binF]
  have HM := Lw.hid h
  rw [e]
  show Calls _ _ _ _ fun x w' => x = .returned (.int .i64 (truthI (decide (a < b)))) ∧ MC w' mb vL vV vA at_ d sk bd (wrF sk wr 0 : Int) ∧ KB mb w w'
  rw [wrF_0]
  clear h e
  go_enter Tryz.func42, Tryz.ntmps42
  go_wp2_with fail
  refine (so_any _ _).mono ?_
  rintro x w2 ⟨rfl, hw2⟩
  subst hw2
  go_wp2_with fail
  go_ret
  exact ⟨congrArg (fun z => Ending.returned (.int .i64 z)) (by first | rfl | exact (IntWalk.i64_left _).symm), HM.out, KB.refl mb _⟩
theorem does_le (w : World) : DoP w [60, 61] := by
  intro mb H vL vV vA at_ d sk bd wr a b h ha hb
  have e : binF [60, 61] a b = (truthI (decide (a ≤ b)), 0) := by simp [binF]
  have HM := Lw.hid h
  rw [e]
  show Calls _ _ _ _ fun x w' => x = .returned (.int .i64 (truthI (decide (a ≤ b)))) ∧ MC w' mb vL vV vA at_ d sk bd (wrF sk wr 0 : Int) ∧ KB mb w w'
  rw [wrF_0]
  clear h e
  go_enter Tryz.func42, Tryz.ntmps42
  go_wp2_with fail
  refine (so_any _ _).mono ?_
  rintro x w2 ⟨rfl, hw2⟩
  subst hw2
  go_wp2_with fail
  go_ret
  exact ⟨congrArg (fun z => Ending.returned (.int .i64 z)) (by first | rfl | exact (IntWalk.i64_left _).symm), HM.out, KB.refl mb _⟩
theorem does_gt (w : World) : DoP w [62] := by
  intro mb H vL vV vA at_ d sk bd wr a b h ha hb
  have e : binF [62] a b = (truthI (decide (b < a)), 0) := by simp [binF]
  have HM := Lw.hid h
  rw [e]
  show Calls _ _ _ _ fun x w' => x = .returned (.int .i64 (truthI (decide (b < a)))) ∧ MC w' mb vL vV vA at_ d sk bd (wrF sk wr 0 : Int) ∧ KB mb w w'
  rw [wrF_0]
  clear h e
  go_enter Tryz.func42, Tryz.ntmps42
  go_wp2_with fail
  refine (so_any _ _).mono ?_
  rintro x w2 ⟨rfl, hw2⟩
  subst hw2
  go_wp2_with fail
  go_ret
  exact ⟨congrArg (fun z => Ending.returned (.int .i64 z)) (by first | rfl | exact (IntWalk.i64_left _).symm), HM.out, KB.refl mb _⟩
theorem does_ge (w : World) : DoP w [62, 61] := by
  intro mb H vL vV vA at_ d sk bd wr a b h ha hb
  have e : binF [62, 61] a b = (truthI (decide (b ≤ a)), 0) := by simp [binF]
  have HM := Lw.hid h
  rw [e]
  show Calls _ _ _ _ fun x w' => x = .returned (.int .i64 (truthI (decide (b ≤ a)))) ∧ MC w' mb vL vV vA at_ d sk bd (wrF sk wr 0 : Int) ∧ KB mb w w'
  rw [wrF_0]
  clear h e
  go_enter Tryz.func42, Tryz.ntmps42
  go_wp2_with fail
  refine (so_any _ _).mono ?_
  rintro x w2 ⟨rfl, hw2⟩
  subst hw2
  go_wp2_with fail
  go_ret
  exact ⟨congrArg (fun z => Ending.returned (.int .i64 z)) (by first | rfl | exact (IntWalk.i64_left _).symm), HM.out, KB.refl mb _⟩
theorem does_add (w : World) : DoP w [43] := by
  intro mb H vL vV vA at_ d sk bd wr a b h ha hb
  have e : binF [43] a b = (W64 (a + b), 0) := by simp [binF]
  have HM := Lw.hid h
  rw [e]
  show Calls _ _ _ _ fun x w' => x = .returned (.int .i64 (W64 (a + b))) ∧ MC w' mb vL vV vA at_ d sk bd (wrF sk wr 0 : Int) ∧ KB mb w w'
  rw [wrF_0]
  clear h e
  go_enter Tryz.func42, Tryz.ntmps42
  go_wp2_with fail
  go_ret
  exact ⟨congrArg (fun z => Ending.returned (.int .i64 z)) (by first | rfl | exact (IntWalk.i64_left _).symm), HM.out, KB.refl mb _⟩
theorem does_sub (w : World) : DoP w [45] := by
  intro mb H vL vV vA at_ d sk bd wr a b h ha hb
  have e : binF [45] a b = (W64 (a - b), 0) := by simp [binF]
  have HM := Lw.hid h
  rw [e]
  show Calls _ _ _ _ fun x w' => x = .returned (.int .i64 (W64 (a - b))) ∧ MC w' mb vL vV vA at_ d sk bd (wrF sk wr 0 : Int) ∧ KB mb w w'
  rw [wrF_0]
  clear h e
  go_enter Tryz.func42, Tryz.ntmps42
  go_wp2_with fail
  go_ret
  exact ⟨congrArg (fun z => Ending.returned (.int .i64 z)) (by first | rfl | exact (IntWalk.i64_left _).symm), HM.out, KB.refl mb _⟩
theorem does_mul (w : World) : DoP w [42] := by
  intro mb H vL vV vA at_ d sk bd wr a b h ha hb
  have e : binF [42] a b = (W64 (a * b), 0) := by simp [binF]
  have HM := Lw.hid h
  rw [e]
  show Calls _ _ _ _ fun x w' => x = .returned (.int .i64 (W64 (a * b))) ∧ MC w' mb vL vV vA at_ d sk bd (wrF sk wr 0 : Int) ∧ KB mb w w'
  rw [wrF_0]
  clear h e
  go_enter Tryz.func42, Tryz.ntmps42
  go_wp2_with fail
  go_ret
  exact ⟨congrArg (fun z => Ending.returned (.int .i64 z)) (by first | rfl | exact (IntWalk.i64_left _).symm), HM.out, KB.refl mb _⟩
set_option maxHeartbeats 4000000 in
theorem does_shl (w : World) : DoP w [60, 60] := by
  intro mb H vL vV vA at_ d sk bd wr a b h ha hb
  have e : binF [60, 60] a b = (if b < 0 ∨ 63 < b then (0, 24) else (W64 (a * 2 ^ b.toNat), 0)) := by simp [binF]
  have HM := Lw.hid h
  rw [e]
  clear h e
  by_cases h1 : b < 0
  · rw [if_pos (.inl h1)]
    have hq : decide (b < 0) = true := decide_eq_true h1
    clear h1
    go_enter Tryz.func42, Tryz.ntmps42
    go_wp2_with fail
    refine (wrong_any _ mb H vL vV vA at_ d sk bd wr 24 HM.out).mono ?_
    rintro x w2 ⟨rfl, h2, k2⟩
    have H2 := Lw.hid h2; have K2 := Lw.hid k2
    clear h2 k2
    go_wp2_with fail
    go_ret
    exact ⟨rfl, H2.out, K2.out⟩
  by_cases h3 : 63 < b
  · rw [if_pos (.inr h3)]
    have hq : decide (b < 0) = false := decide_eq_false h1
    have hq2 : decide (63 < b) = true := decide_eq_true h3
    clear h3
    go_enter Tryz.func42, Tryz.ntmps42
    go_wp2_with fail
    refine (wrong_any _ mb H vL vV vA at_ d sk bd wr 24 HM.out).mono ?_
    rintro x w2 ⟨rfl, h2, k2⟩
    have H2 := Lw.hid h2; have K2 := Lw.hid k2
    clear h2 k2
    go_wp2_with fail
    go_ret
    exact ⟨rfl, H2.out, K2.out⟩
  have hq : decide (b < 0) = false := decide_eq_false h1
  have hq2 : decide (63 < b) = false := decide_eq_false h3
  rw [if_neg (by omega)]
  obtain ⟨n, rfl⟩ : ∃ n : Nat, b = (n : Int) := ⟨b.toNat, by omega⟩
  show Calls _ _ _ _ fun x w' => x = .returned (.int .i64 (W64 (a * 2 ^ ((n : Int)).toNat))) ∧ MC w' mb vL vV vA at_ d sk bd (wrF sk wr 0 : Int) ∧ KB mb w w'
  rw [wrF_0]
  have HV : Hid (shL n a = W64 (a * 2 ^ ((n : Int)).toNat)) := Lw.hid (by rw [shL_eq n a ha]; rfl)
  have hn : n ≤ 63 := by omega
  rw [← HV.out]
  clear h1 h3 hb
  go_enter Tryz.func42, Tryz.ntmps42
  go_wp2_with fail
  go_loopg [2, 3] n (fun gk s2 s3 wx => ∃ (k : Nat) (a1 : Int), gk = k ∧ s3 = .int .i64 (k : Int) ∧ s2 = .int .i64 a1 ∧ I64 a1 ∧ k ≤ n ∧ shL k a1 = shL n a ∧ wx = w)
  case atStart => exact ⟨n, a, rfl, rfl, rfl, ha, Nat.le_refl _, rfl, rfl⟩
  case round =>
    obtain ⟨k, a1, rfl, rfl, rfl, ha1, hk, hv, rfl⟩ := hrel
    have HV1 := Lw.hid hv
    clear hv
    cases gk with
    | zero =>
      go_wp2_with fail
      go_ret
      exact ⟨congrArg (fun z => Ending.returned (.int .i64 z)) HV1.out, HM.out, KB.refl mb _⟩
    | succ k =>
      have hpos : decide (0 < ((k + 1 : Nat) : Int)) = true := decide_eq_true (by omega)
      have hdec : wrap64 (((k + 1 : Nat) : Int) - 1) = (k : Int) := by unfold wrap64; omega
      go_wp2_with fail
      go_roundg k
      case measure => omega
      case rel => exact ⟨k, W64 (a1 + a1), rfl, by first | rfl | (congr 1; omega) | go_num, by first | rfl | exact congrArg (Value.int .i64) (IntWalk.i64_left _).symm, wk_is _, by omega, HV1.out, rfl⟩
set_option maxHeartbeats 4000000 in
theorem does_shr (w : World) : DoP w [62, 62] := by
  intro mb H vL vV vA at_ d sk bd wr a b h ha hb
  have e : binF [62, 62] a b = (if b < 0 ∨ 63 < b then (0, 24) else (a.fdiv (2 ^ b.toNat), 0)) := by simp [binF]
  have HM := Lw.hid h
  rw [e]
  clear h e
  by_cases h1 : b < 0
  · rw [if_pos (.inl h1)]
    have hq : decide (b < 0) = true := decide_eq_true h1
    clear h1
    go_enter Tryz.func42, Tryz.ntmps42
    go_wp2_with fail
    refine (wrong_any _ mb H vL vV vA at_ d sk bd wr 24 HM.out).mono ?_
    rintro x w2 ⟨rfl, h2, k2⟩
    have H2 := Lw.hid h2; have K2 := Lw.hid k2
    clear h2 k2
    go_wp2_with fail
    go_ret
    exact ⟨rfl, H2.out, K2.out⟩
  by_cases h3 : 63 < b
  · rw [if_pos (.inr h3)]
    have hq : decide (b < 0) = false := decide_eq_false h1
    have hq2 : decide (63 < b) = true := decide_eq_true h3
    clear h3
    go_enter Tryz.func42, Tryz.ntmps42
    go_wp2_with fail
    refine (wrong_any _ mb H vL vV vA at_ d sk bd wr 24 HM.out).mono ?_
    rintro x w2 ⟨rfl, h2, k2⟩
    have H2 := Lw.hid h2; have K2 := Lw.hid k2
    clear h2 k2
    go_wp2_with fail
    go_ret
    exact ⟨rfl, H2.out, K2.out⟩
  have hq : decide (b < 0) = false := decide_eq_false h1
  have hq2 : decide (63 < b) = false := decide_eq_false h3
  rw [if_neg (by omega)]
  obtain ⟨n, rfl⟩ : ∃ n : Nat, b = (n : Int) := ⟨b.toNat, by omega⟩
  show Calls _ _ _ _ fun x w' => x = .returned (.int .i64 (a.fdiv (2 ^ ((n : Int)).toNat))) ∧ MC w' mb vL vV vA at_ d sk bd (wrF sk wr 0 : Int) ∧ KB mb w w'
  rw [wrF_0]
  have HV : Hid (shR n a = a.fdiv (2 ^ ((n : Int)).toNat)) := Lw.hid (by rw [shR_eq]; rfl)
  have hn : n ≤ 63 := by omega
  rw [← HV.out]
  clear h1 h3 hb
  go_enter Tryz.func42, Tryz.ntmps42
  go_wp2_with fail
  go_loopg [2, 3] n (fun gk s2 s3 wx => ∃ (k : Nat) (a1 : Int), gk = k ∧ s3 = .int .i64 (k : Int) ∧ s2 = .int .i64 a1 ∧ I64 a1 ∧ k ≤ n ∧ shR k a1 = shR n a ∧ wx = w)
  case atStart => exact ⟨n, a, rfl, rfl, rfl, ha, Nat.le_refl _, rfl, rfl⟩
  case round =>
    obtain ⟨k, a1, rfl, rfl, rfl, ha1, hk, hv, rfl⟩ := hrel
    have HV1 := Lw.hid hv
    clear hv
    cases gk with
    | zero =>
      go_wp2_with fail
      go_ret
      exact ⟨congrArg (fun z => Ending.returned (.int .i64 z)) HV1.out, HM.out, KB.refl mb _⟩
    | succ k =>
      have hpos : decide (0 < ((k + 1 : Nat) : Int)) = true := decide_eq_true (by omega)
      have hdec : wrap64 (((k + 1 : Nat) : Int) - 1) = (k : Int) := by unfold wrap64; omega
      have hin : I64 (halfR a1) := by have := shR_in 1 ha1; exact this
      have hh : halfR a1 = if a1 < 0 then (a1 + 1).tdiv 2 - 1 else a1.tdiv 2 := rfl
      by_cases hneg : a1 < 0
      · rw [if_pos hneg] at hh
        have HH := Lw.hid hh; have HIN := Lw.hid hin
        clear hh hin
        go_wp2_with fail
        go_roundg k
        case measure => omega
        case rel => exact ⟨k, halfR a1, rfl, by first | rfl | (congr 1; omega) | go_num, by rw [HH.out]; exact congrArg (Value.int .i64) (by have := HIN.out; rw [HH.out] at this; unfold I64 at this; unfold wrap64; omega), HIN.out, by omega, HV1.out, rfl⟩
      · rw [if_neg hneg] at hh
        have HH := Lw.hid hh; have HIN := Lw.hid hin
        clear hh hin
        go_wp2_with fail
        go_roundg k
        case measure => omega
        case rel => exact ⟨k, halfR a1, rfl, by first | rfl | (congr 1; omega) | go_num, by rw [HH.out]; exact congrArg (Value.int .i64) (Int.tdiv_eq_ediv_of_nonneg (by omega)).symm, HIN.out, by omega, HV1.out, rfl⟩
set_option maxHeartbeats 4000000 in
theorem does_quo (w : World) : DoP w [47] := by
  intro mb H vL vV vA at_ d sk bd wr a b h ha hb
  have e : binF [47] a b = (if b = 0 ∨ (a = minI ∧ b = -1) then (0, 25) else (W64 (a.tdiv b), 0)) := by simp [binF]
  have HM := Lw.hid h
  rw [e]
  clear h e
  by_cases h0 : b = 0
  · rw [if_pos (.inl h0)]
    have hb0 : (b == 0) = true := by simp [h0]
    clear h0
    go_enter Tryz.func42, Tryz.ntmps42
    go_wp2_with fail
    refine (wrong_any _ mb H vL vV vA at_ d sk bd wr 25 HM.out).mono ?_
    rintro x w2 ⟨rfl, h2, k2⟩
    have H2 := Lw.hid h2; have K2 := Lw.hid k2
    clear h2 k2
    go_wp2_with fail
    go_ret
    exact ⟨rfl, H2.out, K2.out⟩
  have hb0 : (b == 0) = false := by simp [h0]
  by_cases hq : a = minI ∧ b = -1
  · rw [if_pos (.inr hq)]
    have ha1 : (a == -9223372036854775808) = true := by rw [hq.1]; rfl
    have hb1 : (b == -1) = true := by rw [hq.2]; rfl
    clear hq h0
    go_enter Tryz.func42, Tryz.ntmps42
    go_wp2_with fail
    refine (wrong_any _ mb H vL vV vA at_ d sk bd wr 25 HM.out).mono ?_
    rintro x w2 ⟨rfl, h2, k2⟩
    have H2 := Lw.hid h2; have K2 := Lw.hid k2
    clear h2 k2
    go_wp2_with fail
    go_ret
    exact ⟨rfl, H2.out, K2.out⟩
  rw [if_neg (fun h => h.elim h0 hq)]
  show Calls _ _ _ _ fun x w' => x = .returned (.int .i64 (W64 (a.tdiv b))) ∧ MC w' mb vL vV vA at_ d sk bd (wrF sk wr 0 : Int) ∧ KB mb w w'
  rw [wrF_0]
  have HV : Hid (W64 (a.tdiv b) = wrap64 (a.tdiv b)) := Lw.hid (IntWalk.i64_left _)
  by_cases hlo : a = minI
  · have ha1 : (a == -9223372036854775808) = true := by rw [hlo]; rfl
    have hb1 : (b == -1) = false := by rw [beq_eq_false_iff_ne]; exact fun e => hq ⟨hlo, e⟩
    rw [HV.out]
    clear hlo hq
    go_enter Tryz.func42, Tryz.ntmps42
    go_wp2_with fail
    go_ret
    exact ⟨rfl, HM.out, KB.refl mb _⟩
  · have ha1 : (a == -9223372036854775808) = false := by rw [beq_eq_false_iff_ne]; exact hlo
    rw [HV.out]
    clear hlo hq
    go_enter Tryz.func42, Tryz.ntmps42
    go_wp2_with fail
    go_ret
    exact ⟨rfl, HM.out, KB.refl mb _⟩
set_option maxHeartbeats 4000000 in
theorem does_rem (w : World) : DoP w [37] := by
  intro mb H vL vV vA at_ d sk bd wr a b h ha hb
  have e : binF [37] a b = (if b = 0 ∨ (a = minI ∧ b = -1) then (0, 25) else (a.tmod b, 0)) := by simp [binF]
  have HM := Lw.hid h
  rw [e]
  clear h e
  by_cases h0 : b = 0
  · rw [if_pos (.inl h0)]
    have hb0 : (b == 0) = true := by simp [h0]
    clear h0
    go_enter Tryz.func42, Tryz.ntmps42
    go_wp2_with fail
    refine (wrong_any _ mb H vL vV vA at_ d sk bd wr 25 HM.out).mono ?_
    rintro x w2 ⟨rfl, h2, k2⟩
    have H2 := Lw.hid h2; have K2 := Lw.hid k2
    clear h2 k2
    go_wp2_with fail
    go_ret
    exact ⟨rfl, H2.out, K2.out⟩
  have hb0 : (b == 0) = false := by simp [h0]
  by_cases hq : a = minI ∧ b = -1
  · rw [if_pos (.inr hq)]
    have ha1 : (a == -9223372036854775808) = true := by rw [hq.1]; rfl
    have hb1 : (b == -1) = true := by rw [hq.2]; rfl
    clear hq h0
    go_enter Tryz.func42, Tryz.ntmps42
    go_wp2_with fail
    refine (wrong_any _ mb H vL vV vA at_ d sk bd wr 25 HM.out).mono ?_
    rintro x w2 ⟨rfl, h2, k2⟩
    have H2 := Lw.hid h2; have K2 := Lw.hid k2
    clear h2 k2
    go_wp2_with fail
    go_ret
    exact ⟨rfl, H2.out, K2.out⟩
  rw [if_neg (fun h => h.elim h0 hq)]
  show Calls _ _ _ _ fun x w' => x = .returned (.int .i64 (a.tmod b)) ∧ MC w' mb vL vV vA at_ d sk bd (wrF sk wr 0 : Int) ∧ KB mb w w'
  rw [wrF_0]
  have HV : Hid (a.tmod b = wrap64 (a - wrap64 (wrap64 (a.tdiv b) * b))) := Lw.hid ((rest_eq ha hb h0).symm.trans (by show IntKind.i64.wrap _ = _; rw [IntWalk.i64_left]; congr 2; show IntKind.i64.wrap _ = _; rw [IntWalk.i64_left]; congr 2; exact IntWalk.i64_left _))
  by_cases hlo : a = minI
  · have ha1 : (a == -9223372036854775808) = true := by rw [hlo]; rfl
    have hb1 : (b == -1) = false := by rw [beq_eq_false_iff_ne]; exact fun e => hq ⟨hlo, e⟩
    rw [HV.out]
    clear hlo hq
    go_enter Tryz.func42, Tryz.ntmps42
    go_wp2_with fail
    go_ret
    exact ⟨rfl, HM.out, KB.refl mb _⟩
  · have ha1 : (a == -9223372036854775808) = false := by rw [beq_eq_false_iff_ne]; exact hlo
    rw [HV.out]
    clear hlo hq
    go_enter Tryz.func42, Tryz.ntmps42
    go_wp2_with fail
    go_ret
    exact ⟨rfl, HM.out, KB.refl mb _⟩
/-- The signs that does knows. -/
def dosL : List (List UInt8) := [[124], [94], [38], [61, 61], [33, 61], [60], [60, 61], [62], [62, 61], [43], [45], [42], [60, 60], [62, 62], [47], [37]]
theorem does_any (w : World) (g : List UInt8) (hg : g ∈ dosL) : DoP w g := by
  simp only [dosL, List.mem_cons, List.not_mem_nil, or_false] at hg
  rcases hg with rfl | rfl | rfl | rfl | rfl | rfl | rfl | rfl | rfl | rfl | rfl | rfl | rfl | rfl | rfl | rfl
  · exact does_or w
  · exact does_xor w
  · exact does_and w
  · exact does_eq w
  · exact does_ne w
  · exact does_lt w
  · exact does_le w
  · exact does_gt w
  · exact does_ge w
  · exact does_add w
  · exact does_sub w
  · exact does_mul w
  · exact does_shl w
  · exact does_shr w
  · exact does_quo w
  · exact does_rem w
end Go.Proofs.YtoedopgjonhemaaGreatDoor
