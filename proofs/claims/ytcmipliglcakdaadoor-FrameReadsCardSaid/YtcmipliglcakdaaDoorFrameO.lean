/- Frames: as the document's; the chapter's row. -/
import Derived.Test.YtcmipliglcakdaaDoorFrameL
import Derived.Test.YtcmipliglcakdaaDoorFrameS
import Derived.Deep.RegionHeld3
namespace Go.Proofs.YtcmipliglcakdaaDoor
open Go Go.RowKit Go.Lw
set_option maxRecDepth 100000
set_option maxHeartbeats 400000 in
theorem of_any (w : World) (f : Frm) (ad : Option Addr) (n cap : Nat) (hk : f.kind < 256) :
    Calls Tryd.prog 23 #[f.val (.slice ad n cap)] w fun e w' => e = .returned (f.rval (.slice ad n cap)) ∧ Kept (fun _ => False) w w' := by
  go_enter Tryd.func23, Tryd.ntmps23
  go_wp2_with fail
  exact bodyPost_ret (v := f.rval (.slice ad n cap)) (by simp [results, Tryd.results23, go_sem]) rfl ⟨rfl, ((Kept.refl _ w).alloc _).alloc _⟩
def rowF : Frm := ⟨4, 7, 1, 0, 5, 0, []⟩
set_option maxHeartbeats 800000 in
theorem ftells_any (w : World) (hm : TabM w) :
    Calls Tryd.prog 30 #[] w fun e w' => e = .returned (.bool true) ∧ Kept (fun _ => False) w w' := by
  have HM := Lw.hid hm
  clear hm
  go_enter Tryd.func30, Tryd.ntmps30
  go_wp2_with fail
  refine (signed_any _ rowF none 0 ⟨by decide, by decide, by decide, by decide, by decide, by decide⟩ (HM.out.kept ((Kept.refl _ w).alloc _)) (RdB.nil _)).mono ?_
  rintro e w1 ⟨r, rfl, hr, hk⟩
  have er : (if rowF.may then rowF.sgn else []) = [4, 0, 0, 0, 7, 0, 0, 0, 1, 0, 0, 0, 0, 0, 0, 0, 5, 0, 0, 0, 0, 0, 0] := by decide +kernel
  rw [er] at hr
  have HR := Lw.hid hr
  have HK := Lw.hid (((Kept.refl (fun _ => False) w).alloc _).trans hk (fun _ _ h => h))
  have hh := hk.heap (heap_alloc w _) (fun h => h)
  have g0 := heap_cell hh 0; have g1 := heap_cell hh 1; have g2 := heap_cell hh 2; have g3 := heap_cell hh 3; have g4 := heap_cell hh 4; have g5 := heap_cell hh 5; have g6 := heap_cell hh 6
  clear hr hk er hh
  go_wp2_with (refine wpList_str rfl _ _ _ rfl _ [4, 0, 0, 0, 7, 0, 0, 0, 1, 0, 0, 0, 0, 0, 0, 0, 5, 0, 0, 0, 0, 0, 0] rfl HR.out Tryd.underlying22 Tryd.underlying5 Tryd.underlying9 ?_)
  refine (may_any _ rowF none 0 (HM.out.kept HK.out) true (by decide) (by decide)).mono ?_
  rintro e w2 ⟨rfl, hk⟩
  go_wp2_with fail
  go_ret
  exact ⟨rfl, HK.out.trans hk (fun _ _ h => h)⟩
end Go.Proofs.YtcmipliglcakdaaDoor
