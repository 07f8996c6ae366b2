/- lex's letter and Name; HasPrefix as lists; names at the front. -/
import Derived.Test.YtoedopgjonhemaaGreatDoorArithP
import Derived.Test.YtoedopgjonhemaaGreatDoorChecked
import Derived.Test.YtoedopgjonhemaaGreatDoorShelf
import Derived.BigQuiet
import Derived.Lib.IndexBytes
namespace Go.Proofs.YtoedopgjonhemaaGreatDoor
open Go Go.RowKit Go.Lw
set_option maxRecDepth 100000
set_option linter.unusedVariables false
set_option linter.unusedSimpArgs false
attribute [local go_sem] BA_toList
theorem letter_any (w : World) (c : UInt8) (first : Bool) :
    Calls Tryz.prog 106 #[.int .u8 (c.toNat : Int), .bool first] w fun x w' => x = .returned (.bool (letterB c first)) ∧ w' = w := by
  have hc := c.toNat_lt
  cases first
  all_goals
    go_enter Tryz.func106, Tryz.ntmps106
    go_wp2_with fail
    all_goals
      go_ret
      refine ⟨congrArg (fun b => Ending.returned (.bool b)) ?_, rfl⟩
      (try simp only [beq_iff_eq, beq_eq_false_iff_ne, ne_eq, Bool.or_eq_true, Bool.or_eq_false_iff, Bool.and_eq_true, Bool.and_eq_false_iff, decide_eq_true_eq, decide_eq_false_iff_not] at *)
      rw [Bool.eq_iff_iff]
      simp only [letterB, startB, digitB, beq_iff_eq, Bool.or_eq_true, Bool.and_eq_true, decide_eq_true_eq, Bool.not_true, Bool.not_false, Bool.false_eq_true, false_and, true_and, or_false, true_iff, false_iff, iff_true]
      omega
/-- A name. -/
def nameB : List UInt8 → Bool
  | [] => false
  | c :: l => letterB c true && l.all (fun c => letterB c false) && decide (l.length < 32)
def lettersK (s : List UInt8) (k : Nat) : Bool := match s.take k with
  | [] => true
  | c :: l => letterB c true && l.all (fun c => letterB c false)
theorem lettersK_snoc {s : List UInt8} {k : Nat} {c : UInt8} (h : s[k]? = some c) : lettersK s (k + 1) = (lettersK s k && letterB c (decide (k = 0))) := by
  have hk : k < s.length := (List.getElem?_eq_some_iff.1 h).1
  unfold lettersK
  rw [take_snoc s k hk]
  rw [List.getElem?_eq_getElem hk] at h
  rw [Option.some.inj h]
  cases k with
  | zero => simp
  | succ k =>
    cases s with
    | nil => simp at hk
    | cons d s => simp [List.all_append, Bool.and_assoc]
theorem nameB_of {s : List UInt8} : nameB s = (!s.isEmpty && decide (s.length ≤ 32) && lettersK s s.length) := by
  unfold lettersK
  rw [List.take_length]
  cases s with
  | nil => rfl
  | cons c l =>
    have e : decide ((c :: l).length ≤ 32) = decide (l.length < 32) := rfl
    show (letterB c true && l.all (fun c => letterB c false) && decide (l.length < 32)) = (!false && decide ((c :: l).length ≤ 32) && (letterB c true && l.all (fun c => letterB c false)))
    rw [e]
    cases decide (l.length < 32) <;> cases (letterB c true && l.all (fun c => letterB c false)) <;> rfl
set_option maxHeartbeats 4000000 in
theorem name_any (w : World) (s : List UInt8) (hs9 : s.length ≤ 1000000) :
    Calls Tryz.prog 84 #[.string (BA s)] w fun x w' => x = .returned (.bool (nameB s)) ∧ w' = w := by
  have hs := BA_size s
  obtain ⟨n, hn⟩ : ∃ n, s.length = n := ⟨_, rfl⟩
  have HN := Lw.hid hn
  rw [hn] at hs hs9
  clear hn
  go_enter Tryz.func84, Tryz.ntmps84
  go_wp2_with fail
  go_loopg [6] n (fun gk s6 wx => ∃ k : Nat, gk = n - k ∧ k ≤ n ∧ s6 = .int .i64 (k : Int) ∧ lettersK s k = true ∧ wx = w)
  case atStart => exact ⟨0, rfl, Nat.zero_le _, rfl, rfl, rfl⟩
  case round =>
    obtain ⟨k, rfl, hk, rfl, hall, rfl⟩ := hrel
    have HALL := Lw.hid hall
    clear hall
    by_cases hlt : k < n
    · obtain ⟨c, hc⟩ : ∃ c, s[k]? = some c := ⟨_, List.getElem?_eq_getElem (by rw [HN.out]; exact hlt)⟩
      have g0 := BA_get hc
      have HC := Lw.hid hc
      have HK0 : Hid (((k : Int) == 0) = decide (k = 0)) := Lw.hid (by rw [Bool.eq_iff_iff]; simp)
      clear hc
      go_wp2_with fail
      rw [HK0.out]
      refine (letter_any _ c (decide (k = 0))).mono ?_
      cases hlet : letterB c (decide (k = 0)) with
      | true =>
        have HA : Hid (lettersK s (k + 1) = true) := Lw.hid (by rw [lettersK_snoc HC.out, HALL.out, hlet]; rfl)
        clear hlet
        rintro x _ ⟨rfl, rfl⟩
        go_wp2_with fail
        go_roundg (n - (k + 1))
        case measure => omega
        case rel => exact ⟨k + 1, rfl, hlt, by go_num, HA.out, rfl⟩
      | false =>
        have HA : Hid (nameB s = false) := Lw.hid (by
          rw [nameB_of]
          have : ∀ j, k < j → lettersK s j = false := fun j hj => by
            cases hx : lettersK s j with
            | false => rfl
            | true =>
              exfalso
              have key : ∀ m, k + 1 ≤ m → m ≤ j → lettersK s m = true → lettersK s (k + 1) = true := by
                intro m
                induction m with
                | zero => intro h; omega
                | succ m ih =>
                  intro h1 h2 h3
                  by_cases hm : m = k
                  · subst hm; exact h3
                  · cases hg : s[m]? with
                    | none =>
                      have : s.take (m + 1) = s.take m := by
                        rw [List.take_of_length_le (by have := List.getElem?_eq_none_iff.1 hg; omega), List.take_of_length_le (List.getElem?_eq_none_iff.1 hg)]
                      unfold lettersK at h3
                      rw [this] at h3
                      exact ih (by omega) (by omega) h3
                    | some e =>
                      rw [lettersK_snoc hg, Bool.and_eq_true] at h3
                      exact ih (by omega) (by omega) h3.1
              have := key j (by omega) (Nat.le_refl _) hx
              rw [lettersK_snoc HC.out, hlet, Bool.and_false] at this
              cases this
          rw [HN.out, this n hlt, Bool.and_false])
        clear hlet
        rintro x _ ⟨rfl, rfl⟩
        go_wp2_with fail
        go_ret
        rw [HA.out]
        exact ⟨rfl, rfl⟩
    · obtain rfl : k = n := by omega
      have HA : Hid (nameB s = (!s.isEmpty && decide (k ≤ 32))) := Lw.hid (by rw [nameB_of, HN.out, HALL.out, Bool.and_true])
      cases s with
      | nil =>
        have hnn : (BA ([] : List UInt8) != (⟨#[]⟩ : ByteArray)) = false := rfl
        go_wp2_with fail
        go_ret
        rw [HA.out]
        exact ⟨rfl, rfl⟩
      | cons c l =>
        have hnn : (BA (c :: l) != (⟨#[]⟩ : ByteArray)) = true := by simp [bne, BA_ne_nil]
        by_cases h32 : k ≤ 32
        · have HA2 : Hid (nameB (c :: l) = true) := Lw.hid (by rw [HA.out]; simp [h32])
          have hb : decide ((k : Int) ≤ 32) = true := decide_eq_true (by omega)
          go_wp2_with fail
          go_ret
          rw [HA2.out]
          exact ⟨rfl, rfl⟩
        · have HA2 : Hid (nameB (c :: l) = false) := Lw.hid (by rw [HA.out]; simp [h32])
          have hb : decide ((k : Int) ≤ 32) = false := decide_eq_false (by omega)
          go_wp2_with fail
          go_ret
          rw [HA2.out]
          exact ⟨rfl, rfl⟩
theorem takeWhile_len (f : UInt8 → Bool) (r : List UInt8) : (r.takeWhile f).length + (r.dropWhile f).length = r.length := by
  rw [← List.length_append, List.takeWhile_append_dropWhile]
theorem all_take {f : UInt8 → Bool} : ∀ (r : List UInt8) (m : Nat), m ≤ r.length → (r.take m).all f = decide (m ≤ (r.takeWhile f).length)
  | [], m, h => by
    have : m = 0 := by simpa using h
    subst this; rfl
  | c :: r, 0, _ => by simp
  | c :: r, m + 1, h => by
    have ih := all_take (f := f) r m (by simpa using h)
    rw [List.take_succ_cons, List.all_cons, ih, List.takeWhile_cons]
    cases hc : f c with
    | true => simp
    | false => simp
theorem nameA_len2 (s : List UInt8) : (nameA s).length ≤ 32 ∧ (nameA s).length ≤ s.length := by
  cases s with
  | nil => exact ⟨Nat.zero_le _, Nat.zero_le _⟩
  | cons c r =>
    unfold nameA
    simp only
    split
    · have := takeWhile_len (fun c => letterB c false) r
      rw [List.length_take, List.length_cons, List.length_cons]
      omega
    · exact ⟨Nat.zero_le _, Nat.zero_le _⟩
theorem takeWhile_take (f : UInt8 → Bool) (r : List UInt8) : r.takeWhile f = r.take (r.takeWhile f).length := by
  conv => rhs; arg 2; rw [← List.takeWhile_append_dropWhile (p := f) (l := r)]
  rw [List.take_left]
theorem nameA_take (s : List UInt8) : s.take (nameA s).length = nameA s := by
  cases s with
  | nil => rfl
  | cons c r =>
    unfold nameA
    simp only
    split
    · have e := takeWhile_take (fun c => letterB c false) r
      generalize (r.takeWhile (fun c => letterB c false)).length = m at e
      rw [e, ← List.take_succ_cons, List.take_take, List.length_take, List.take_eq_take_iff]
      simp
    · rfl
/-- One byte more is a name, or is none. -/
theorem nameA_step {s : List UInt8} {m : Nat} (hm : m < s.length) (h : m ≤ (nameA s).length) : nameB (s.take (m + 1)) = decide (m < (nameA s).length) := by
  cases s with
  | nil => simp at hm
  | cons c r =>
    rw [List.take_succ_cons]
    have hr : m ≤ r.length := by simp at hm; omega
    unfold nameA at h ⊢
    simp only at h ⊢
    show (letterB c true && (r.take m).all (fun c => letterB c false) && decide ((r.take m).length < 32)) = _
    rw [all_take r m hr, List.length_take, Nat.min_eq_left hr]
    by_cases hc : letterB c true = true
    · simp only [hc, if_true] at h ⊢
      simp only [List.length_take, List.length_cons, Bool.true_and] at h ⊢
      rw [Bool.eq_iff_iff]
      simp only [Bool.and_eq_true, decide_eq_true_eq]
      omega
    · simp [hc]
theorem hasPrefix_eq (l p : List UInt8) : Lib.hasPrefix l p = (l.take p.length == p) := by
  unfold Lib.hasPrefix
  induction p generalizing l with
  | nil => simp
  | cons b p ih =>
    cases l with
    | nil => rfl
    | cons c l =>
      rw [List.isPrefixOf_cons_cons, ih l, List.length_cons, List.take_succ_cons]
      show _ = (c == b && _)
      congr 1
      rw [Bool.eq_iff_iff, beq_iff_eq, beq_iff_eq]
      exact eq_comm
theorem hasp2 (l p : List UInt8) (b : Bool) (hb : (l.take p.length == p) = b) (w : World) : Calls Tryz.prog 48 #[.string (BA l), .string (BA p)] w fun e w' => e = .returned (.bool b) ∧ w' = w := by
  refine (Tryz.strings_HasPrefix _ _ w).mono ?_
  rintro e w' ⟨rfl, rfl⟩
  rw [BA_list, BA_list, hasPrefix_eq, hb]
  exact ⟨rfl, rfl⟩
end Go.Proofs.YtoedopgjonhemaaGreatDoor
