/- strings.HasPrefix, CutPrefix. -/
import Derived.Test.YtifcgeanippepaaDoorChecked
import Derived.Test.YtifcgeanippepaaDoorStr
namespace Go.Proofs.YtifcgeanippepaaDoor
open Go Go.RowKit Go.Lw
set_option maxRecDepth 100000
set_option linter.unusedVariables false
attribute [local go_sem] BA_toList
set_option maxHeartbeats 1000000 in
theorem haspl_any (w : World) (l p : List UInt8) (hl : l.length ≤ 4000000000000000000) (hp : p.length ≤ 4000000000000000000) (b : Bool) (hb : (l.take p.length == p) = b) :
    Calls Tryd.prog 93 #[.string (BA l), .string (BA p)] w fun e w' => e = .returned (.bool b) ∧ w = w' := by
  have h1 := BA_size l; have h2 := BA_size p
  have h3 := BA_head l p.length
  have HB := Lw.hid hb
  obtain ⟨n, hn⟩ : ∃ n, l.length = n := ⟨_, rfl⟩
  obtain ⟨m, hm⟩ : ∃ m, p.length = m := ⟨_, rfl⟩
  have HN := Lw.hid hn; have HM := Lw.hid hm
  rw [hn] at h1 hl
  rw [hm] at h2 h3 hp
  clear hb hn hm
  by_cases hnm : m ≤ n
  · go_enter Tryd.func93, Tryd.ntmps93
    go_wp2_with fail
    go_ret
    have h := HB.out
    rw [HM.out] at h
    rw [h]
    exact ⟨rfl, rfl⟩
  · have hf : Hid (b = false) := Lw.hid (by
      rw [← HB.out]
      apply beq_eq_false_iff_ne.2
      intro h
      have := congrArg List.length h
      rw [List.length_take, HM.out, HN.out] at this
      omega)
    go_enter Tryd.func93, Tryd.ntmps93
    go_wp2_with fail
    go_ret
    rw [hf.out]
    exact ⟨rfl, rfl⟩
theorem hasp_any (w : World) (l p : List UInt8) (hl : l.length ≤ 4000000000000000000) (hp : p.length ≤ 4000000000000000000) (b : Bool) (hb : (l.take p.length == p) = b) :
    Calls Tryd.prog 55 #[.string (BA l), .string (BA p)] w fun e w' => e = .returned (.bool b) ∧ w = w' := by
  have HB := Lw.hid hb
  clear hb
  go_enter Tryd.func55, Tryd.ntmps55
  go_wp2_with fail
  refine (haspl_any w l p hl hp b HB.out).mono ?_
  rintro e _ ⟨rfl, rfl⟩
  go_wp2_with fail
  go_ret
  exact ⟨rfl, rfl⟩
/-- What CutPrefix tells. -/
def cutpF (l p : List UInt8) : List UInt8 × Bool := if (l.take p.length == p) = true then (l.drop p.length, true) else (l, false)
theorem cutpl_any (w : World) (l p : List UInt8) (hl : l.length ≤ 4000000000000000000) (hp : p.length ≤ 4000000000000000000) :
    Calls Tryd.prog 125 #[.string (BA l), .string (BA p)] w fun e w' => e = .returned (.tuple #[.string (BA (cutpF l p).1), .bool (cutpF l p).2]) ∧ w = w' := by
  have h1 := BA_size l; have h2 := BA_size p
  have h3 := BA_tail l p.length l.length rfl
  obtain ⟨b, hb⟩ : ∃ b, (l.take p.length == p) = b := ⟨_, rfl⟩
  have HB := Lw.hid hb
  have hle : b = true → p.length ≤ l.length := fun h => by
    rw [h] at hb
    have := congrArg List.length (eq_of_beq hb)
    rw [List.length_take] at this; omega
  clear hb
  cases b with
  | true =>
    have hc : Hid (cutpF l p = (l.drop p.length, true)) := Lw.hid (if_pos HB.out)
    have hle' := hle rfl
    have HP := Lw.hid (haspl_any w l p hl hp true HB.out)
    clear hle
    go_enter Tryd.func125, Tryd.ntmps125
    go_wp2_with fail
    refine HP.out.mono ?_
    rintro e _ ⟨rfl, rfl⟩
    go_wp2_with fail
    go_ret2
    rw [hc.out]
    exact ⟨rfl, rfl⟩
  | false =>
    have hc : Hid (cutpF l p = (l, false)) := Lw.hid (if_neg (by rw [HB.out]; simp))
    have HP := Lw.hid (haspl_any w l p hl hp false HB.out)
    clear hle
    go_enter Tryd.func125, Tryd.ntmps125
    go_wp2_with fail
    refine HP.out.mono ?_
    rintro e _ ⟨rfl, rfl⟩
    go_wp2_with fail
    go_ret2
    rw [hc.out]
    exact ⟨rfl, rfl⟩
theorem cutp_any (w : World) (l p : List UInt8) (hl : l.length ≤ 4000000000000000000) (hp : p.length ≤ 4000000000000000000) :
    Calls Tryd.prog 110 #[.string (BA l), .string (BA p)] w fun e w' => e = .returned (.tuple #[.string (BA (cutpF l p).1), .bool (cutpF l p).2]) ∧ w = w' := by
  go_enter Tryd.func110, Tryd.ntmps110
  go_wp2_with fail
  refine (cutpl_any w l p hl hp).mono ?_
  rintro e _ ⟨rfl, rfl⟩
  go_wp2_with fail
  go_ret2
  exact ⟨rfl, rfl⟩
end Go.Proofs.YtifcgeanippepaaDoor
