/- ScribeChecks, walked. -/
import Derived.Test.YtcmipliglcakdaaDoorWakes
namespace Go.Proofs.YtcmipliglcakdaaDoor
open Go Go.RowKit Go.Lw
set_option maxRecDepth 100000
set_option maxHeartbeats 400000 in
theorem checks_any (w : World) (x : Value) (l : List UInt8) (hx : RdB w x l) (ht : Tab w) :
    Calls Tryd.prog 3 #[x] w fun e w' => e = .returned (.bool true) ∧ Below w.heap.size w w' := by
  obtain ⟨ad, cap, rfl, h1, h2, hc⟩ := hx.open
  have HT := Lw.hid ht
  clear ht hc
  unfold maxLen at h2
  obtain ⟨l', n', hn, HX⟩ : ∃ l' n', n' = min l.length 2000 ∧ Hid (RdB w (.slice ad n' cap) l') := ⟨_, _, rfl, Lw.hid (hx.take _ (Nat.min_le_left _ _))⟩
  clear hx
  by_cases hlt : 2000 < l.length
  · obtain rfl : n' = 2000 := by omega
    clear hn
    go_enter Tryd.func3, Tryd.ntmps3
    go_wp2_with fail
    refine (crc_any _ l' _ HX.out HT.out).mono ?_
    rintro e w1 ⟨rfl, rfl⟩
    go_wp2_with fail
    refine (refCrc_any _ l' _ HX.out).mono ?_
    rintro e w1 ⟨rfl, rfl⟩
    go_wp2_with fail
    refine (wakes_any _ HT.out).mono ?_
    rintro e w1 ⟨rfl, hb⟩
    go_wp2_with fail
    go_ret
    exact ⟨rfl, hb⟩
  · obtain rfl : n' = l.length := by omega
    clear hn
    go_enter Tryd.func3, Tryd.ntmps3
    go_wp2_with fail
    refine (crc_any _ l' _ HX.out HT.out).mono ?_
    rintro e w1 ⟨rfl, rfl⟩
    go_wp2_with fail
    refine (refCrc_any _ l' _ HX.out).mono ?_
    rintro e w1 ⟨rfl, rfl⟩
    go_wp2_with fail
    refine (wakes_any _ HT.out).mono ?_
    rintro e w1 ⟨rfl, hb⟩
    go_wp2_with fail
    go_ret
    exact ⟨rfl, hb⟩
end Go.Proofs.YtcmipliglcakdaaDoor
