/- PatternMatches, walked. -/
import Derived.Test.YtgedgnhloibclaaShort
import Derived.ChangeMaps5
namespace Go.Proofs.Ytgedgnhloibclaa
open Go Go.RowKit Go.Lw
set_option maxRecDepth 100000
set_option linter.unusedVariables false
attribute [local go_sem] BA_toList
set_option maxHeartbeats 4000000 in
theorem pmatches_any (w : World) (p s : List UInt8) (hp : p.length ≤ 9223372036854775807) (hsl : s.length ≤ 9223372036854775807) :
    Calls Try.prog 5 #[.string (BA p), .string (BA s)] w fun e w' => e = .returned (.bool true) ∧ Kept (fun _ => False) w w' := by
  go_enter Try.func5, Try.ntmps5
  go_wp2_with fail
  refine (short_any w p s hp hsl).mono ?_
  rintro e w1 ⟨q, hq, rfl, k1⟩
  have K1 := Lw.hid k1
  have hr : (s.take 24).length ≤ 24 := List.length_take_le _ _
  obtain ⟨r, hr'⟩ : ∃ r, s.take 24 = r := ⟨_, rfl⟩
  rw [hr'] at hr ⊢
  have HQ := Lw.hid hq; have HR := Lw.hid hr
  clear k1 hr' hq hr
  go_wp2_with fail
  refine (match_any w1 q r (by have := HQ.out; omega) (by have := HR.out; omega)).mono ?_
  rintro e w2 ⟨rfl, k2⟩
  have K2 := Lw.hid (K1.out.trans k2 (fun _ _ h => h))
  clear k2
  go_wp2_with fail
  refine (rMatch_any w2 q r (by have := HQ.out; omega) (by have := HR.out; omega)).mono ?_
  rintro e _ ⟨rfl, rfl⟩
  go_wp2_with fail
  refine (alive_any w2 q (by have := HQ.out; omega)).mono ?_
  rintro e w3 ⟨rfl, k3⟩
  have K3 := Lw.hid (K2.out.trans k3 (fun _ _ h => h))
  clear k3
  go_wp2_with fail
  refine (rAlive_any w3 q (by have := HQ.out; omega)).mono ?_
  rintro e _ ⟨rfl, rfl⟩
  go_wp2_with fail
  refine (quote_any w3 r (by have := HR.out; omega)).mono ?_
  rintro e w4 ⟨rfl, k4⟩
  have K4 := Lw.hid (K3.out.trans k4 (fun _ _ h => h))
  clear k4
  go_wp2_with fail
  refine (rQuote_any w4 r (by have := HR.out; omega)).mono ?_
  rintro e _ ⟨rfl, rfl⟩
  go_wp2_with fail
  refine (pwakes_any w4).mono ?_
  rintro e w5 ⟨rfl, k5⟩
  have K5 := Lw.hid (K4.out.trans k5 (fun _ _ h => h))
  clear k5
  go_wp2_with fail
  go_ret
  exact ⟨rfl, K5.out⟩
theorem pmatches_below (w : World) (p s : ByteArray) (hp : p.size ≤ 9223372036854775807) (hs : s.size ≤ 9223372036854775807) :
    Calls Try.prog 5 #[.string p, .string s] w fun e w' => e = .returned (.bool true) ∧ Below w.heap.size w w' := by
  have h := pmatches_any w p.data.toList s.data.toList (by rw [← BA_size, ← BA_of]; exact hp) (by rw [← BA_size, ← BA_of]; exact hs)
  rw [← BA_of, ← BA_of] at h
  exact h.mono fun _ _ ⟨e, k⟩ => ⟨e, Below.of_kept k⟩
end Go.Proofs.Ytgedgnhloibclaa
