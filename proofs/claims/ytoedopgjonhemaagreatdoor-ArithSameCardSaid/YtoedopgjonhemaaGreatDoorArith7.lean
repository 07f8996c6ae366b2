/- arith: what signs between two do. -/
import Derived.Test.YtoedopgjonhemaaGreatDoorArith6
namespace Go.Proofs.YtoedopgjonhemaaGreatDoor
open Go Go.RowKit Go.Lw
set_option maxRecDepth 100000
set_option linter.unusedVariables false
set_option linter.unusedSimpArgs false
attribute [local go_sem] BA_toList
def twoV (x : Int × Nat) : Value := .tuple #[.int .i64 x.1, .int .i64 (x.2 : Int)]
theorem twoV_of {x : Int × Nat} {a : Int} {e : Nat} (h : x = (a, e)) : twoV x = .tuple #[.int .i64 a, .int .i64 (e : Int)] := by subst h; rfl
theorem binF_1 (a b : Int) : binF [124] a b = (W64 (BitVec.ofInt 64 a ||| BitVec.ofInt 64 b).toNat, 0) := by simp [binF]
theorem binF_2 (a b : Int) : binF [94] a b = (W64 (BitVec.ofInt 64 a ^^^ BitVec.ofInt 64 b).toNat, 0) := by simp [binF]
theorem binF_3 (a b : Int) : binF [38] a b = (W64 (BitVec.ofInt 64 a &&& BitVec.ofInt 64 b).toNat, 0) := by simp [binF]
theorem binF_4 (a b : Int) : binF [61, 61] a b = (truthI (a == b), 0) := by simp [binF]
theorem binF_5 (a b : Int) : binF [33, 61] a b = (truthI (a != b), 0) := by simp [binF]
theorem binF_6 (a b : Int) : binF [60] a b = (truthI (decide (a < b)), 0) := by simp [binF]
theorem binF_7 (a b : Int) : binF [60, 61] a b = (truthI (decide (a ≤ b)), 0) := by simp [binF]
theorem binF_8 (a b : Int) : binF [62] a b = (truthI (decide (b < a)), 0) := by simp [binF]
theorem binF_9 (a b : Int) : binF [62, 61] a b = (truthI (decide (b ≤ a)), 0) := by simp [binF]
theorem binF_10 (a b : Int) : binF [60, 60] a b = (if b < 0 ∨ 63 < b then (0, 24) else (W64 (a * 2 ^ b.toNat), 0)) := by simp [binF]
theorem binF_11 (a b : Int) : binF [62, 62] a b = (if b < 0 ∨ 63 < b then (0, 24) else (a.fdiv (2 ^ b.toNat), 0)) := by simp [binF]
theorem binF_12 (a b : Int) : binF [43] a b = (W64 (a + b), 0) := by simp [binF]
theorem binF_13 (a b : Int) : binF [45] a b = (W64 (a - b), 0) := by simp [binF]
theorem binF_14 (a b : Int) : binF [42] a b = (W64 (a * b), 0) := by simp [binF]
theorem binF_15 (a b : Int) : binF [47] a b = if b = 0 ∨ (a = minI ∧ b = -1) then (0, 25) else (W64 (a.tdiv b), 0) := by simp [binF]
theorem binF_16 (a b : Int) : binF [37] a b = if b = 0 ∨ (a = minI ∧ b = -1) then (0, 25) else (a.tmod b, 0) := by simp [binF]
theorem shift_10 (w : World) (cap : Array Value) (b v : Int) (hc : 0 ≤ b → b ≤ 63 → Calls Tryz.prog 199 cap w fun x w' => x = .returned (.int .i64 v) ∧ w' = w) :
    Calls Tryz.prog 198 #[.int .i64 b, .func (.func 199) #[] cap] w fun x w' => x = .returned (twoV (if b < 0 ∨ 63 < b then (0, 24) else (v, 0))) ∧ w' = w := by
  by_cases h1 : b < 0
  · have h2 : decide (b < 0) = true := decide_eq_true h1
    rw [if_pos (.inl h1)]
    clear h1
    go_enter Tryz.func198, Tryz.ntmps198
    go_wp2_with fail
    go_ret2
    exact ⟨rfl, rfl⟩
  · by_cases h3 : 63 < b
    · have h2 : decide (b < 0) = false := decide_eq_false h1
      have h4 : decide (63 < b) = true := decide_eq_true h3
      rw [if_pos (.inr h3)]
      go_enter Tryz.func198, Tryz.ntmps198
      go_wp2_with fail
      go_ret2
      exact ⟨rfl, rfl⟩
    · have h2 : decide (b < 0) = false := decide_eq_false h1
      have h4 : decide (63 < b) = false := decide_eq_false h3
      have HC := Lw.hid (hc (by omega) (by omega))
      rw [if_neg (by omega)]
      clear hc
      go_enter Tryz.func198, Tryz.ntmps198
      go_wp2_with fail
      refine HC.out.mono ?_
      rintro x w1 ⟨rfl, rfl⟩
      go_wp2_with fail
      go_ret2
      exact ⟨rfl, rfl⟩
theorem shift_11 (w : World) (cap : Array Value) (b v : Int) (hc : 0 ≤ b → b ≤ 63 → Calls Tryz.prog 201 cap w fun x w' => x = .returned (.int .i64 v) ∧ w' = w) :
    Calls Tryz.prog 198 #[.int .i64 b, .func (.func 201) #[] cap] w fun x w' => x = .returned (twoV (if b < 0 ∨ 63 < b then (0, 24) else (v, 0))) ∧ w' = w := by
  by_cases h1 : b < 0
  · have h2 : decide (b < 0) = true := decide_eq_true h1
    rw [if_pos (.inl h1)]
    clear h1
    go_enter Tryz.func198, Tryz.ntmps198
    go_wp2_with fail
    go_ret2
    exact ⟨rfl, rfl⟩
  · by_cases h3 : 63 < b
    · have h2 : decide (b < 0) = false := decide_eq_false h1
      have h4 : decide (63 < b) = true := decide_eq_true h3
      rw [if_pos (.inr h3)]
      go_enter Tryz.func198, Tryz.ntmps198
      go_wp2_with fail
      go_ret2
      exact ⟨rfl, rfl⟩
    · have h2 : decide (b < 0) = false := decide_eq_false h1
      have h4 : decide (63 < b) = false := decide_eq_false h3
      have HC := Lw.hid (hc (by omega) (by omega))
      rw [if_neg (by omega)]
      clear hc
      go_enter Tryz.func198, Tryz.ntmps198
      go_wp2_with fail
      refine HC.out.mono ?_
      rintro x w1 ⟨rfl, rfl⟩
      go_wp2_with fail
      go_ret2
      exact ⟨rfl, rfl⟩
theorem parts_15 (w : World) (cap : Array Value) (a b v : Int) (hc : b ≠ 0 → ¬ (a = minI ∧ b = -1) → Calls Tryz.prog 207 cap w fun x w' => x = .returned (.int .i64 v) ∧ w' = w) :
    Calls Tryz.prog 206 #[.int .i64 a, .int .i64 b, .func (.func 207) #[] cap] w fun x w' => x = .returned (twoV (if b = 0 ∨ (a = minI ∧ b = -1) then (0, 25) else (v, 0))) ∧ w' = w := by
  by_cases h1 : b = 0
  · rw [if_pos (.inl h1)]
    subst h1
    go_enter Tryz.func206, Tryz.ntmps206
    go_wp2_with fail
    go_ret2
    exact ⟨rfl, rfl⟩
  · have h2 : (b == 0) = false := by simp [h1]
    by_cases h3 : a = minI ∧ b = -1
    · rw [if_pos (.inr h3)]
      obtain ⟨rfl, rfl⟩ := h3
      show Calls _ _ #[.int .i64 (-9223372036854775808), _, _] _ _
      go_enter Tryz.func206, Tryz.ntmps206
      go_wp2_with fail
      go_ret2
      exact ⟨rfl, rfl⟩
    · have HC := Lw.hid (hc h1 h3)
      rw [if_neg (by rintro (h | h); exact h1 h; exact h3 h)]
      have h4 : (a == -9223372036854775808) = false ∨ ((a == -9223372036854775808) = true ∧ (b == -1) = false) := by
        by_cases ha : a = -9223372036854775808
        · right; refine ⟨by simp [ha], ?_⟩
          cases hb : b == -1 with
          | false => rfl
          | true => exact absurd ⟨ha, by simpa using hb⟩ h3
        · left; simp [ha]
      clear hc h1 h3
      rcases h4 with h4 | ⟨h4, h5⟩
      all_goals
        go_enter Tryz.func206, Tryz.ntmps206
        go_wp2_with fail
        refine HC.out.mono ?_
        rintro x w1 ⟨rfl, rfl⟩
        go_wp2_with fail
        go_ret2
        exact ⟨rfl, rfl⟩
theorem parts_16 (w : World) (cap : Array Value) (a b v : Int) (hc : b ≠ 0 → ¬ (a = minI ∧ b = -1) → Calls Tryz.prog 209 cap w fun x w' => x = .returned (.int .i64 v) ∧ w' = w) :
    Calls Tryz.prog 206 #[.int .i64 a, .int .i64 b, .func (.func 209) #[] cap] w fun x w' => x = .returned (twoV (if b = 0 ∨ (a = minI ∧ b = -1) then (0, 25) else (v, 0))) ∧ w' = w := by
  by_cases h1 : b = 0
  · rw [if_pos (.inl h1)]
    subst h1
    go_enter Tryz.func206, Tryz.ntmps206
    go_wp2_with fail
    go_ret2
    exact ⟨rfl, rfl⟩
  · have h2 : (b == 0) = false := by simp [h1]
    by_cases h3 : a = minI ∧ b = -1
    · rw [if_pos (.inr h3)]
      obtain ⟨rfl, rfl⟩ := h3
      show Calls _ _ #[.int .i64 (-9223372036854775808), _, _] _ _
      go_enter Tryz.func206, Tryz.ntmps206
      go_wp2_with fail
      go_ret2
      exact ⟨rfl, rfl⟩
    · have HC := Lw.hid (hc h1 h3)
      rw [if_neg (by rintro (h | h); exact h1 h; exact h3 h)]
      have h4 : (a == -9223372036854775808) = false ∨ ((a == -9223372036854775808) = true ∧ (b == -1) = false) := by
        by_cases ha : a = -9223372036854775808
        · right; refine ⟨by simp [ha], ?_⟩
          cases hb : b == -1 with
          | false => rfl
          | true => exact absurd ⟨ha, by simpa using hb⟩ h3
        · left; simp [ha]
      clear hc h1 h3
      rcases h4 with h4 | ⟨h4, h5⟩
      all_goals
        go_enter Tryz.func206, Tryz.ntmps206
        go_wp2_with fail
        refine HC.out.mono ?_
        rintro x w1 ⟨rfl, rfl⟩
        go_wp2_with fail
        go_ret2
        exact ⟨rfl, rfl⟩
set_option maxHeartbeats 2000000 in
theorem does1_any (w : World) (a b : Int) : Calls Tryz.prog 188 #[.int .i64 a, .int .i64 b] w fun x w' => x = .returned (twoV (binF [124] a b)) ∧ Kept (fun _ => False) w w' := by
  rw [binF_1]
  go_enter Tryz.func188, Tryz.ntmps188
  go_wp2_with fail
  go_ret2
  first
    | exact ⟨rfl, Kept.refl _ _⟩
    | exact ⟨congrArg (fun v => Ending.returned (.tuple #[.int .i64 v, .int .i64 0])) (by simp [IntWalk.i64_left]), Kept.refl _ _⟩
set_option maxHeartbeats 2000000 in
theorem does2_any (w : World) (a b : Int) : Calls Tryz.prog 189 #[.int .i64 a, .int .i64 b] w fun x w' => x = .returned (twoV (binF [94] a b)) ∧ Kept (fun _ => False) w w' := by
  rw [binF_2]
  go_enter Tryz.func189, Tryz.ntmps189
  go_wp2_with fail
  go_ret2
  first
    | exact ⟨rfl, Kept.refl _ _⟩
    | exact ⟨congrArg (fun v => Ending.returned (.tuple #[.int .i64 v, .int .i64 0])) (by simp [IntWalk.i64_left]), Kept.refl _ _⟩
set_option maxHeartbeats 2000000 in
theorem does3_any (w : World) (a b : Int) : Calls Tryz.prog 190 #[.int .i64 a, .int .i64 b] w fun x w' => x = .returned (twoV (binF [38] a b)) ∧ Kept (fun _ => False) w w' := by
  rw [binF_3]
  go_enter Tryz.func190, Tryz.ntmps190
  go_wp2_with fail
  go_ret2
  first
    | exact ⟨rfl, Kept.refl _ _⟩
    | exact ⟨congrArg (fun v => Ending.returned (.tuple #[.int .i64 v, .int .i64 0])) (by simp [IntWalk.i64_left]), Kept.refl _ _⟩
set_option maxHeartbeats 2000000 in
theorem does4_any (w : World) (a b : Int) : Calls Tryz.prog 191 #[.int .i64 a, .int .i64 b] w fun x w' => x = .returned (twoV (binF [61, 61] a b)) ∧ Kept (fun _ => False) w w' := by
  rw [binF_4]
  go_enter Tryz.func191, Tryz.ntmps191
  go_wp2_with fail
  refine (truth_any _ _).mono ?_
  rintro x w1 ⟨rfl, rfl⟩
  go_wp2_with fail
  go_ret2
  exact ⟨rfl, Kept.refl _ _⟩
set_option maxHeartbeats 2000000 in
theorem does5_any (w : World) (a b : Int) : Calls Tryz.prog 192 #[.int .i64 a, .int .i64 b] w fun x w' => x = .returned (twoV (binF [33, 61] a b)) ∧ Kept (fun _ => False) w w' := by
  rw [binF_5]
  go_enter Tryz.func192, Tryz.ntmps192
  go_wp2_with fail
  refine (truth_any _ _).mono ?_
  rintro x w1 ⟨rfl, rfl⟩
  go_wp2_with fail
  go_ret2
  exact ⟨rfl, Kept.refl _ _⟩
set_option maxHeartbeats 2000000 in
theorem does6_any (w : World) (a b : Int) : Calls Tryz.prog 193 #[.int .i64 a, .int .i64 b] w fun x w' => x = .returned (twoV (binF [60] a b)) ∧ Kept (fun _ => False) w w' := by
  rw [binF_6]
  go_enter Tryz.func193, Tryz.ntmps193
  go_wp2_with fail
  refine (truth_any _ _).mono ?_
  rintro x w1 ⟨rfl, rfl⟩
  go_wp2_with fail
  go_ret2
  exact ⟨rfl, Kept.refl _ _⟩
set_option maxHeartbeats 2000000 in
theorem does7_any (w : World) (a b : Int) : Calls Tryz.prog 194 #[.int .i64 a, .int .i64 b] w fun x w' => x = .returned (twoV (binF [60, 61] a b)) ∧ Kept (fun _ => False) w w' := by
  rw [binF_7]
  go_enter Tryz.func194, Tryz.ntmps194
  go_wp2_with fail
  refine (truth_any _ _).mono ?_
  rintro x w1 ⟨rfl, rfl⟩
  go_wp2_with fail
  go_ret2
  exact ⟨rfl, Kept.refl _ _⟩
set_option maxHeartbeats 2000000 in
theorem does8_any (w : World) (a b : Int) : Calls Tryz.prog 195 #[.int .i64 a, .int .i64 b] w fun x w' => x = .returned (twoV (binF [62] a b)) ∧ Kept (fun _ => False) w w' := by
  rw [binF_8]
  go_enter Tryz.func195, Tryz.ntmps195
  go_wp2_with fail
  refine (truth_any _ _).mono ?_
  rintro x w1 ⟨rfl, rfl⟩
  go_wp2_with fail
  go_ret2
  exact ⟨rfl, Kept.refl _ _⟩
set_option maxHeartbeats 2000000 in
theorem does9_any (w : World) (a b : Int) : Calls Tryz.prog 196 #[.int .i64 a, .int .i64 b] w fun x w' => x = .returned (twoV (binF [62, 61] a b)) ∧ Kept (fun _ => False) w w' := by
  rw [binF_9]
  go_enter Tryz.func196, Tryz.ntmps196
  go_wp2_with fail
  refine (truth_any _ _).mono ?_
  rintro x w1 ⟨rfl, rfl⟩
  go_wp2_with fail
  go_ret2
  exact ⟨rfl, Kept.refl _ _⟩
set_option maxHeartbeats 2000000 in
theorem does10_any (w : World) (a b : Int) : Calls Tryz.prog 197 #[.int .i64 a, .int .i64 b] w fun x w' => x = .returned (twoV (binF [60, 60] a b)) ∧ Kept (fun _ => False) w w' := by
  rw [binF_10]
  obtain ⟨w1, hw1⟩ : ∃ w1, (w.alloc (.cells #[.int .i64 a] 2)).alloc (.cells #[.int .i64 b] 2) = w1 := ⟨_, rfl⟩
  have K1 : Hid (Kept (fun _ => False) w w1) := Lw.hid (by rw [← hw1]; exact ((Kept.refl _ w).alloc _).alloc _)
  have hA : w1.heap[w.heap.size]? = some (.cells #[.int .i64 a] 2 (0, 0)) := by
    rw [← hw1]; exact ((Kept.refl (fun _ => False) _).alloc _).heap (heap_alloc w _) (fun h => h)
  have hB : w1.heap[w.heap.size + 1]? = some (.cells #[.int .i64 b] 2 (0, 0)) := by
    have := heap_alloc (w.alloc (.cells #[.int .i64 a] 2)) (.cells #[.int .i64 b] 2)
    rw [← hw1]; simpa using this
  have qA := heap_cell hA 0; have qB := heap_cell hB 0
  obtain ⟨z, hz⟩ : ∃ z, w.heap.size = z := ⟨_, rfl⟩
  rw [hz] at qA qB
  have HI : Hid (0 ≤ b → b ≤ 63 → Calls Tryz.prog 199 #[.pointer (some ⟨z, 0, none⟩), .pointer (some ⟨z + 1, 0, none⟩)] w1 fun x w' => x = .returned (.int .i64 (W64 (a * 2 ^ b.toNat))) ∧ w' = w1) := Lw.hid (by
    intro h0 h1
    clear hw1 hA hB hz
    go_enter Tryz.func199, Tryz.ntmps199
    go_wp2_with fail
    go_ret
    exact ⟨by first | rfl | exact congrArg (fun v => Ending.returned (.int .i64 v)) (by first | simp [IntWalk.i64_left] | exact (Int.fdiv_eq_ediv_of_nonneg _ (Int.le_of_lt (Int.pow_pos (by decide)))).symm), rfl⟩)
  have HS := Lw.hid (shift_10 w1 _ b _ HI.out)
  obtain ⟨⟨r1, r2⟩, hR⟩ : ∃ R : Int × Nat, ((if b < 0 ∨ 63 < b then (0, 24) else (W64 (a * 2 ^ b.toNat), 0))) = R := ⟨_, rfl⟩
  rw [hR] at HS ⊢
  have HW := Lw.hid hw1; have HZ := Lw.hid hz
  clear hw1 hA hB hz hR HI
  go_enter Tryz.func197, Tryz.ntmps197
  go_wp2_with fail
  rw [HW.out, HZ.out]
  go_wp2_with fail
  refine HS.out.mono ?_
  rintro x w2 ⟨rfl, rfl⟩
  unfold twoV
  go_wp2_with fail
  go_ret2
  exact ⟨rfl, K1.out⟩
set_option maxHeartbeats 2000000 in
theorem does11_any (w : World) (a b : Int) : Calls Tryz.prog 200 #[.int .i64 a, .int .i64 b] w fun x w' => x = .returned (twoV (binF [62, 62] a b)) ∧ Kept (fun _ => False) w w' := by
  rw [binF_11]
  obtain ⟨w1, hw1⟩ : ∃ w1, (w.alloc (.cells #[.int .i64 a] 2)).alloc (.cells #[.int .i64 b] 2) = w1 := ⟨_, rfl⟩
  have K1 : Hid (Kept (fun _ => False) w w1) := Lw.hid (by rw [← hw1]; exact ((Kept.refl _ w).alloc _).alloc _)
  have hA : w1.heap[w.heap.size]? = some (.cells #[.int .i64 a] 2 (0, 0)) := by
    rw [← hw1]; exact ((Kept.refl (fun _ => False) _).alloc _).heap (heap_alloc w _) (fun h => h)
  have hB : w1.heap[w.heap.size + 1]? = some (.cells #[.int .i64 b] 2 (0, 0)) := by
    have := heap_alloc (w.alloc (.cells #[.int .i64 a] 2)) (.cells #[.int .i64 b] 2)
    rw [← hw1]; simpa using this
  have qA := heap_cell hA 0; have qB := heap_cell hB 0
  obtain ⟨z, hz⟩ : ∃ z, w.heap.size = z := ⟨_, rfl⟩
  rw [hz] at qA qB
  have HI : Hid (0 ≤ b → b ≤ 63 → Calls Tryz.prog 201 #[.pointer (some ⟨z, 0, none⟩), .pointer (some ⟨z + 1, 0, none⟩)] w1 fun x w' => x = .returned (.int .i64 (a.fdiv (2 ^ b.toNat))) ∧ w' = w1) := Lw.hid (by
    intro h0 h1
    clear hw1 hA hB hz
    go_enter Tryz.func201, Tryz.ntmps201
    go_wp2_with fail
    go_ret
    exact ⟨by first | rfl | exact congrArg (fun v => Ending.returned (.int .i64 v)) (by first | simp [IntWalk.i64_left] | exact (Int.fdiv_eq_ediv_of_nonneg _ (Int.le_of_lt (Int.pow_pos (by decide)))).symm), rfl⟩)
  have HS := Lw.hid (shift_11 w1 _ b _ HI.out)
  obtain ⟨⟨r1, r2⟩, hR⟩ : ∃ R : Int × Nat, ((if b < 0 ∨ 63 < b then (0, 24) else (a.fdiv (2 ^ b.toNat), 0))) = R := ⟨_, rfl⟩
  rw [hR] at HS ⊢
  have HW := Lw.hid hw1; have HZ := Lw.hid hz
  clear hw1 hA hB hz hR HI
  go_enter Tryz.func200, Tryz.ntmps200
  go_wp2_with fail
  rw [HW.out, HZ.out]
  go_wp2_with fail
  refine HS.out.mono ?_
  rintro x w2 ⟨rfl, rfl⟩
  unfold twoV
  go_wp2_with fail
  go_ret2
  exact ⟨rfl, K1.out⟩
set_option maxHeartbeats 2000000 in
theorem does12_any (w : World) (a b : Int) : Calls Tryz.prog 202 #[.int .i64 a, .int .i64 b] w fun x w' => x = .returned (twoV (binF [43] a b)) ∧ Kept (fun _ => False) w w' := by
  rw [binF_12]
  go_enter Tryz.func202, Tryz.ntmps202
  go_wp2_with fail
  go_ret2
  first
    | exact ⟨rfl, Kept.refl _ _⟩
    | exact ⟨congrArg (fun v => Ending.returned (.tuple #[.int .i64 v, .int .i64 0])) (by simp [IntWalk.i64_left]), Kept.refl _ _⟩
set_option maxHeartbeats 2000000 in
theorem does13_any (w : World) (a b : Int) : Calls Tryz.prog 203 #[.int .i64 a, .int .i64 b] w fun x w' => x = .returned (twoV (binF [45] a b)) ∧ Kept (fun _ => False) w w' := by
  rw [binF_13]
  go_enter Tryz.func203, Tryz.ntmps203
  go_wp2_with fail
  go_ret2
  first
    | exact ⟨rfl, Kept.refl _ _⟩
    | exact ⟨congrArg (fun v => Ending.returned (.tuple #[.int .i64 v, .int .i64 0])) (by simp [IntWalk.i64_left]), Kept.refl _ _⟩
set_option maxHeartbeats 2000000 in
theorem does14_any (w : World) (a b : Int) : Calls Tryz.prog 204 #[.int .i64 a, .int .i64 b] w fun x w' => x = .returned (twoV (binF [42] a b)) ∧ Kept (fun _ => False) w w' := by
  rw [binF_14]
  go_enter Tryz.func204, Tryz.ntmps204
  go_wp2_with fail
  go_ret2
  first
    | exact ⟨rfl, Kept.refl _ _⟩
    | exact ⟨congrArg (fun v => Ending.returned (.tuple #[.int .i64 v, .int .i64 0])) (by simp [IntWalk.i64_left]), Kept.refl _ _⟩
set_option maxHeartbeats 2000000 in
theorem does15_any (w : World) (a b : Int) : Calls Tryz.prog 205 #[.int .i64 a, .int .i64 b] w fun x w' => x = .returned (twoV (binF [47] a b)) ∧ Kept (fun _ => False) w w' := by
  rw [binF_15]
  obtain ⟨w1, hw1⟩ : ∃ w1, (w.alloc (.cells #[.int .i64 a] 2)).alloc (.cells #[.int .i64 b] 2) = w1 := ⟨_, rfl⟩
  have K1 : Hid (Kept (fun _ => False) w w1) := Lw.hid (by rw [← hw1]; exact ((Kept.refl _ w).alloc _).alloc _)
  have hA : w1.heap[w.heap.size]? = some (.cells #[.int .i64 a] 2 (0, 0)) := by
    rw [← hw1]; exact ((Kept.refl (fun _ => False) _).alloc _).heap (heap_alloc w _) (fun h => h)
  have hB : w1.heap[w.heap.size + 1]? = some (.cells #[.int .i64 b] 2 (0, 0)) := by
    have := heap_alloc (w.alloc (.cells #[.int .i64 a] 2)) (.cells #[.int .i64 b] 2)
    rw [← hw1]; simpa using this
  have qA := heap_cell hA 0; have qB := heap_cell hB 0
  obtain ⟨z, hz⟩ : ∃ z, w.heap.size = z := ⟨_, rfl⟩
  rw [hz] at qA qB
  have HI : Hid (b ≠ 0 → ¬ (a = minI ∧ b = -1) → Calls Tryz.prog 207 #[.pointer (some ⟨z, 0, none⟩), .pointer (some ⟨z + 1, 0, none⟩)] w1 fun x w' => x = .returned (.int .i64 (W64 (a.tdiv b))) ∧ w' = w1) := Lw.hid (by
    intro h0 h1
    have h2 : (b == 0) = false := by simp [h0]
    clear hw1 hA hB hz
    go_enter Tryz.func207, Tryz.ntmps207
    go_wp2_with fail
    go_ret
    exact ⟨by first | rfl | exact congrArg (fun v => Ending.returned (.int .i64 v)) (by first | simp [IntWalk.i64_left] | exact (Int.fdiv_eq_ediv_of_nonneg _ (Int.le_of_lt (Int.pow_pos (by decide)))).symm), rfl⟩)
  have HS := Lw.hid (parts_15 w1 _ a b _ HI.out)
  obtain ⟨⟨r1, r2⟩, hR⟩ : ∃ R : Int × Nat, (if b = 0 ∨ (a = minI ∧ b = -1) then (0, 25) else (W64 (a.tdiv b), 0)) = R := ⟨_, rfl⟩
  rw [hR] at HS ⊢
  have HW := Lw.hid hw1; have HZ := Lw.hid hz
  clear hw1 hA hB hz hR HI
  go_enter Tryz.func205, Tryz.ntmps205
  go_wp2_with fail
  rw [HW.out, HZ.out]
  go_wp2_with fail
  refine HS.out.mono ?_
  rintro x w2 ⟨rfl, rfl⟩
  unfold twoV
  go_wp2_with fail
  go_ret2
  exact ⟨rfl, K1.out⟩
set_option maxHeartbeats 2000000 in
theorem does16_any (w : World) (a b : Int) : Calls Tryz.prog 208 #[.int .i64 a, .int .i64 b] w fun x w' => x = .returned (twoV (binF [37] a b)) ∧ Kept (fun _ => False) w w' := by
  rw [binF_16]
  obtain ⟨w1, hw1⟩ : ∃ w1, (w.alloc (.cells #[.int .i64 a] 2)).alloc (.cells #[.int .i64 b] 2) = w1 := ⟨_, rfl⟩
  have K1 : Hid (Kept (fun _ => False) w w1) := Lw.hid (by rw [← hw1]; exact ((Kept.refl _ w).alloc _).alloc _)
  have hA : w1.heap[w.heap.size]? = some (.cells #[.int .i64 a] 2 (0, 0)) := by
    rw [← hw1]; exact ((Kept.refl (fun _ => False) _).alloc _).heap (heap_alloc w _) (fun h => h)
  have hB : w1.heap[w.heap.size + 1]? = some (.cells #[.int .i64 b] 2 (0, 0)) := by
    have := heap_alloc (w.alloc (.cells #[.int .i64 a] 2)) (.cells #[.int .i64 b] 2)
    rw [← hw1]; simpa using this
  have qA := heap_cell hA 0; have qB := heap_cell hB 0
  obtain ⟨z, hz⟩ : ∃ z, w.heap.size = z := ⟨_, rfl⟩
  rw [hz] at qA qB
  have HI : Hid (b ≠ 0 → ¬ (a = minI ∧ b = -1) → Calls Tryz.prog 209 #[.pointer (some ⟨z, 0, none⟩), .pointer (some ⟨z + 1, 0, none⟩)] w1 fun x w' => x = .returned (.int .i64 (a.tmod b)) ∧ w' = w1) := Lw.hid (by
    intro h0 h1
    have h2 : (b == 0) = false := by simp [h0]
    clear hw1 hA hB hz
    go_enter Tryz.func209, Tryz.ntmps209
    go_wp2_with fail
    go_ret
    exact ⟨by first | rfl | exact congrArg (fun v => Ending.returned (.int .i64 v)) (by first | simp [IntWalk.i64_left] | exact (Int.fdiv_eq_ediv_of_nonneg _ (Int.le_of_lt (Int.pow_pos (by decide)))).symm), rfl⟩)
  have HS := Lw.hid (parts_16 w1 _ a b _ HI.out)
  obtain ⟨⟨r1, r2⟩, hR⟩ : ∃ R : Int × Nat, (if b = 0 ∨ (a = minI ∧ b = -1) then (0, 25) else (a.tmod b, 0)) = R := ⟨_, rfl⟩
  rw [hR] at HS ⊢
  have HW := Lw.hid hw1; have HZ := Lw.hid hz
  clear hw1 hA hB hz hR HI
  go_enter Tryz.func208, Tryz.ntmps208
  go_wp2_with fail
  rw [HW.out, HZ.out]
  go_wp2_with fail
  refine HS.out.mono ?_
  rintro x w2 ⟨rfl, rfl⟩
  unfold twoV
  go_wp2_with fail
  go_ret2
  exact ⟨rfl, K1.out⟩
end Go.Proofs.YtoedopgjonhemaaGreatDoor
