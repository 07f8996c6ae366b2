/- An argument that is a row of calls (chapter 15), opened. -/
import Derived.Test.YtfmebmaklakckaaDoorOpenRows
import Derived.Test.YtfmebmaklakckaaDoorActs15
namespace Go.Proofs.YtfmebmaklakckaaDoor
open Go Go.RowKit Go.Lw Go.WideShapes Go.ChangeShapes
set_option maxRecDepth 100000 in
theorem open_acts {H : Type} {enc : TypeId × Value → H} {W : World} {b0 : Nat} {sp : Nat → Bool} {held : Bool} {v : Value} {d : DataW H} {ps : List MemPlace} {base : Nat} {r : Reach}
    (hv : Value.okWide Tryd.prog W r base 46 v) (h : DataW.Trod enc Tryd.prog W b0 sp held 46 v d ps) : ∃ l, RdA W v l := by
  have helem : ∀ fuel cs x, DataW.trod enc Tryd.prog W b0 sp held fuel 56 cs = some x → ∃ y : Act4, cs = y.cells ∧ y.cells.length = 4 ∧ y.ok W := by
    intro fuel cs x hx
    have hl := trod_struct_len Tryd.underlying56 hx
    rw [show Tryd.prog.cellsOf 56 = 4 by kernel_rfl] at hl
    match cs, hl with
    | [c0, c1, c2, c3], _ =>
      obtain ⟨n0, y0, g0⟩ := trod_field Tryd.underlying56 hx 0 3 0 1 rfl (by kernel_rfl)
      obtain ⟨n1, y1, g1⟩ := trod_field Tryd.underlying56 hx 1 3 1 1 rfl (by kernel_rfl)
      obtain ⟨n2, y2, g2⟩ := trod_field Tryd.underlying56 hx 2 3 2 1 rfl (by kernel_rfl)
      obtain ⟨n3, y3, g3⟩ := trod_field Tryd.underlying56 hx 3 38 3 1 rfl (by kernel_rfl)
      obtain ⟨a0, e0, _, w0⟩ := DataW.trod_int Tryd.underlying3 g0
      obtain ⟨a1, e1, _, w1⟩ := DataW.trod_int Tryd.underlying3 g1
      obtain ⟨a2, e2, _, w2⟩ := DataW.trod_int Tryd.underlying3 g2
      have hs : ∃ a len cap, c3 = .slice a len cap := by
        rcases DataW.trod_slice Tryd.underlying38 g3 with ⟨hcs, _⟩ | ⟨x, l, c, elems, rest, n, _, hcs, _⟩
        · simp at hcs; exact ⟨_, _, _, hcs⟩
        · simp at hcs; exact ⟨_, _, _, hcs⟩
      obtain ⟨a, len, cap, rfl⟩ := hs
      obtain ⟨L, hL⟩ := open_bytes_at (enc := enc) (P := Tryd.prog) (W := W) (b0 := b0) (sp := sp) (held := held) (d := y3.1) (ps := y3.2) Tryd.underlying38 Tryd.underlying5 (by kernel_rfl) rfl ⟨n3, by simpa [Value.cells] using g3⟩
      simp at e0 e1 e2
      subst e0 e1 e2
      exact ⟨⟨a0, a1, a2, _, L⟩, rfl, rfl, wf_i64 w0, wf_i64 w1, wf_i64 w2, hL⟩
  obtain ⟨l, h1, h2⟩ := open_slice_of (size := 4) Act4.cells (Act4.ok W) Tryd.underlying46 (by kernel_rfl) (by decide) helem hv h
  exact ⟨l, h1, fun p hp => (h2 p hp).2⟩
end Go.Proofs.YtfmebmaklakckaaDoor
