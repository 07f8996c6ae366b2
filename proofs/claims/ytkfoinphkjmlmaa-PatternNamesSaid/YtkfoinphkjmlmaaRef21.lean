/- longwireref21: byteAt, setEnd. -/
import Derived.Test.YtkfoinphkjmlmaaPWakes
import Derived.Deep.DeepCutAuto
namespace Go.Proofs.Ytkfoinphkjmlmaa
open Go Go.RowKit Go.Lw
set_option maxRecDepth 100000
set_option linter.unusedVariables false
attribute [local go_sem] BA_toList
theorem drop_at {l : List UInt8} {k : Nat} {c : UInt8} {cs : List UInt8} (h : l.drop k = c :: cs) : l[k]? = some c ∧ l.drop (k + 1) = cs ∧ l.length = k + cs.length + 1 := by
  have hk : k < l.length := by
    rcases Nat.lt_or_ge k l.length with h' | h'
    · exact h'
    · rw [List.drop_eq_nil_of_le h'] at h; cases h
  have h2 := List.drop_eq_getElem_cons hk
  rw [h] at h2
  obtain ⟨e1, e2⟩ := List.cons.inj h2
  refine ⟨by rw [List.getElem?_eq_getElem hk, e1], e2.symm, ?_⟩
  rw [e2, List.length_drop]; omega
/-- How many bytes a byte has. -/
def takenN (c : UInt8) : List UInt8 → Nat
  | [] => 1
  | _ :: _ => if c.toNat = 92 then 2 else 1
theorem takenN_drop {l : List UInt8} {k : Nat} {c : UInt8} {cs : List UInt8} (h : l.drop k = c :: cs) : l.drop (k + takenN c cs) = (takenF c cs).2 ∧ (takenF c cs).2.length + takenN c cs = cs.length + 1 ∧ 1 ≤ takenN c cs := by
  obtain ⟨h1, h2, h3⟩ := drop_at h
  cases cs with
  | nil => exact ⟨h2, rfl, Nat.le_refl _⟩
  | cons d cs =>
    by_cases hc : c.toNat = 92
    · have e1 : takenN c (d :: cs) = 2 := if_pos hc
      have e2 : takenF c (d :: cs) = (d, cs) := if_pos hc
      rw [e1, e2]
      exact ⟨(drop_at h2).2.1, rfl, by decide⟩
    · have e1 : takenN c (d :: cs) = 1 := if_neg hc
      have e2 : takenF c (d :: cs) = (c, d :: cs) := if_neg hc
      rw [e1, e2]
      exact ⟨h2, rfl, Nat.le_refl _⟩
set_option maxHeartbeats 1000000 in
theorem byteAt_any (w : World) (l : List UInt8) (k : Nat) (c : UInt8) (cs : List UInt8) (h : l.drop k = c :: cs) (hl : l.length ≤ 1000000) :
    Calls Try.prog 18 #[.string (BA l), .int .i64 (k : Int)] w fun e w' => e = .returned (.tuple #[.int .u8 ((takenF c cs).1.toNat : Int), .int .i64 (takenN c cs : Int)]) ∧ w = w' := by
  obtain ⟨h1, h2, h3⟩ := drop_at h
  have hs := BA_size l
  have g0 := BA_get h1
  rw [h3] at hs
  cases cs with
  | nil =>
    have HF : Hid (takenF c [] = (c, []) ∧ takenN c [] = 1) := Lw.hid ⟨rfl, rfl⟩
    simp only [List.length_nil, Nat.add_zero] at hs
    have hk9 : k ≤ 1000000 := by omega
    clear h h1 h2 h3
    by_cases hc : c.toNat = 92
    · have hb : ((c.toNat : Int) == 92) = true := by rw [hc]; rfl
      clear hc
      go_enter Try.func18, Try.ntmps18
      go_wp2_with fail
      go_ret2
      exact ⟨by rw [HF.out.1, HF.out.2]; rfl, rfl⟩
    · have hb : ((c.toNat : Int) == 92) = false := by simp; omega
      clear hc
      go_enter Try.func18, Try.ntmps18
      go_wp2_with fail
      go_ret2
      exact ⟨by rw [HF.out.1, HF.out.2]; rfl, rfl⟩
  | cons d cs =>
    have g1 := BA_get (drop_at h2).1
    simp only [List.length_cons] at hs h3
    have hk9 : k + cs.length + 2 ≤ 1000000 := by omega
    clear h h1 h2 h3
    by_cases hc : c.toNat = 92
    · have HF : Hid (takenF c (d :: cs) = (d, cs) ∧ takenN c (d :: cs) = 2) := Lw.hid ⟨if_pos hc, if_pos hc⟩
      have hb : ((c.toNat : Int) == 92) = true := by rw [hc]; rfl
      clear hc
      go_enter Try.func18, Try.ntmps18
      go_wp2_with fail
      go_ret2
      exact ⟨by rw [HF.out.1, HF.out.2]; rfl, rfl⟩
    · have HF : Hid (takenF c (d :: cs) = (c, d :: cs) ∧ takenN c (d :: cs) = 1) := Lw.hid ⟨if_neg hc, if_neg hc⟩
      have hb : ((c.toNat : Int) == 92) = false := by simp; omega
      clear hc
      go_enter Try.func18, Try.ntmps18
      go_wp2_with fail
      go_ret2
      exact ⟨by rw [HF.out.1, HF.out.2]; rfl, rfl⟩
end Go.Proofs.Ytkfoinphkjmlmaa
