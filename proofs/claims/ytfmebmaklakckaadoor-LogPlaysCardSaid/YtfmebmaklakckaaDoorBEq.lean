/- bytes.Equal. -/
import Derived.Test.YtfmebmaklakckaaDoorWriter
namespace Go.Proofs.YtfmebmaklakckaaDoor
open Go Go.RowKit Go.Lw
set_option maxRecDepth 100000
set_option maxHeartbeats 400000 in
theorem bequal_any (w : World) (x y : Value) (l m : List UInt8) (hx : RdB w x l) (hy : RdB w y m) (b : Bool) (hb : (l == m) = b) :
    Calls Tryd.prog 17 #[x, y] w fun e w' => e = .returned (.bool b) ∧ w = w' := by
  have HX := Lw.hid hx
  have HY := Lw.hid hy
  have HB := Lw.hid hb
  clear hx hy hb
  go_enter Tryd.func17, Tryd.ntmps17
  go_wp2_with (first | (refine wpList_str rfl _ _ _ rfl _ l rfl HX.out Tryd.underlying38 Tryd.underlying5 Tryd.underlying9 ?_) | (refine wpList_str rfl _ _ _ rfl _ m rfl HY.out Tryd.underlying38 Tryd.underlying5 Tryd.underlying9 ?_))
  go_ret
  exact ⟨by rw [← HB.out]; rfl, rfl⟩
end Go.Proofs.YtfmebmaklakckaaDoor
