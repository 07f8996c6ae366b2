/- An argument that is a row of pieces, opened. -/
import Derived.Test.YtcmipliglcakdaaDoorOpen
import Derived.Test.YtcmipliglcakdaaDoorPieces
namespace Go.Proofs.YtcmipliglcakdaaDoor
open Go Go.RowKit Go.Lw Go.WideShapes Go.ChangeShapes
set_option maxRecDepth 100000 in
theorem open_pieces {H : Type} {enc : TypeId × Value → H} {W : World} {b0 : Nat} {sp : Nat → Bool} {held : Bool} {v : Value} {d : DataW H} {ps : List MemPlace} {base : Nat} {r : Reach}
    (hv : Value.okWide Tryd.prog W r base 27 v) (h : DataW.Trod enc Tryd.prog W b0 sp held 27 v d ps) : ∃ l, RdP W v l := by
  have helem : ∀ fuel cs x, DataW.trod enc Tryd.prog W b0 sp held fuel 35 cs = some x → ∃ y : Piece, cs = y.cells ∧ y.cells.length = 3 ∧ y.ok := by
    intro fuel cs x hx
    have hl := trod_struct_len Tryd.underlying35 hx
    rw [show Tryd.prog.cellsOf 35 = 3 by kernel_rfl] at hl
    match cs, hl with
    | [c0, c1, c2], _ =>
      obtain ⟨n0, y0, g0⟩ := trod_field Tryd.underlying35 hx 0 3 0 1 rfl (by kernel_rfl)
      obtain ⟨n1, y1, g1⟩ := trod_field Tryd.underlying35 hx 1 33 1 1 rfl (by kernel_rfl)
      obtain ⟨n2, y2, g2⟩ := trod_field Tryd.underlying35 hx 2 9 2 1 rfl (by kernel_rfl)
      obtain ⟨a, e0, _, wa⟩ := DataW.trod_int Tryd.underlying3 g0
      obtain ⟨b, e1, _, wb⟩ := DataW.trod_int Tryd.underlying33 g1
      obtain ⟨s, e2, _, ws⟩ := DataW.trod_string Tryd.underlying9 g2
      simp at e0 e1 e2
      subst e0 e1 e2
      obtain ⟨m, rfl, hm⟩ := wf_u64 wb
      exact ⟨⟨a, m, s⟩, rfl, rfl, (wf_i64 wa).1, (wf_i64 wa).2, hm, ws⟩
  obtain ⟨l, h1, h2⟩ := open_slice_of (size := 3) Piece.cells Piece.ok Tryd.underlying27 (by kernel_rfl) (by decide) helem hv h
  exact ⟨l, h1, fun p hp => (h2 p hp).2⟩
end Go.Proofs.YtcmipliglcakdaaDoor
