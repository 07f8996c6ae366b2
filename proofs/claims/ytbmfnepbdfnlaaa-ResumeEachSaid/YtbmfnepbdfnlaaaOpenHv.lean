/- Arguments of chapter 13, opened: a row of what is had; an Ask. -/
import Derived.Test.YtbmfnepbdfnlaaaOpen
import Derived.Test.YtbmfnepbdfnlaaaAsk
namespace Go.Proofs.Ytbmfnepbdfnlaaa
open Go Go.RowKit Go.Lw Go.WideShapes Go.ChangeShapes
set_option maxRecDepth 100000

theorem hv_elem {H : Type} {enc : TypeId × Value → H} {W : World} {b0 : Nat} {sp : Nat → Bool} {held : Bool} : ∀ fuel cs x, DataW.trod enc Try.prog W b0 sp held fuel 35 cs = some x → ∃ y : Hv, cs = y.cells ∧ y.cells.length = 4 ∧ y.ok := by
  intro fuel cs x hx
  have hl := trod_struct_len Try.underlying35 hx
  rw [show Try.prog.cellsOf 35 = 4 by kernel_rfl] at hl
  match cs, hl with
  | [c0, c1, c2, c3], _ =>
    obtain ⟨n0, y0, g0⟩ := trod_field Try.underlying35 hx 0 24 0 1 rfl (by kernel_rfl)
    obtain ⟨n1, y1, g1⟩ := trod_field Try.underlying35 hx 1 24 1 1 rfl (by kernel_rfl)
    obtain ⟨n2, y2, g2⟩ := trod_field Try.underlying35 hx 2 24 2 1 rfl (by kernel_rfl)
    obtain ⟨n3, y3, g3⟩ := trod_field Try.underlying35 hx 3 4 3 1 rfl (by kernel_rfl)
    obtain ⟨a0, e0, _, w0⟩ := DataW.trod_int Try.underlying24 g0
    obtain ⟨a1, e1, _, w1⟩ := DataW.trod_int Try.underlying24 g1
    obtain ⟨a2, e2, _, w2⟩ := DataW.trod_int Try.underlying24 g2
    obtain ⟨b, e3, _⟩ := DataW.trod_bool Try.underlying4 g3
    simp at e0 e1 e2 e3
    subst e0 e1 e2 e3
    obtain ⟨m0, rfl, q0⟩ := wf_u32 w0
    obtain ⟨m1, rfl, q1⟩ := wf_u32 w1
    obtain ⟨m2, rfl, q2⟩ := wf_u32 w2
    exact ⟨⟨m0, m1, m2, b⟩, rfl, rfl, ⟨q0, q1, q2⟩⟩
theorem open_hvs_at {H : Type} {enc : TypeId × Value → H} {W : World} {b0 : Nat} {sp : Nat → Bool} {held : Bool} {v : Value} {d : DataW H} {ps : List MemPlace}
    (hv : ∃ a len cap, v = .slice a len cap) (h : DataW.Trod enc Try.prog W b0 sp held 23 v d ps) : ∃ l, RdH W v l := by
  obtain ⟨l, h1, h2⟩ := open_slice_at (size := 4) Hv.cells Hv.ok Try.underlying23 (by kernel_rfl) (by decide) hv_elem hv h
  exact ⟨l, h1, fun p hp => (h2 p hp).2⟩
theorem open_hvs {H : Type} {enc : TypeId × Value → H} {W : World} {b0 : Nat} {sp : Nat → Bool} {held : Bool} {v : Value} {d : DataW H} {ps : List MemPlace} {base : Nat} {r : Reach}
    (hv : Value.okWide Try.prog W r base 23 v) (h : DataW.Trod enc Try.prog W b0 sp held 23 v d ps) : ∃ l, RdH W v l := open_hvs_at (okWide_slice Try.underlying23 hv) h

theorem open_ask {H : Type} {enc : TypeId × Value → H} {W : World} {b0 : Nat} {sp : Nat → Bool} {held : Bool} {v : Value} {d : DataW H} {ps : List MemPlace} {base : Nat} {r : Reach}
    (hv : Value.okWide Try.prog W r base 26 v) (h : DataW.Trod enc Try.prog W b0 sp held 26 v d ps) : ∃ (nx : Nat) (c : Value) (l : List Hv), v = askV nx c ∧ nx < 4294967296 ∧ RdH W c l := by
  obtain ⟨cs, rfl, hsz⟩ := okWide_struct Try.underlying26 hv
  obtain ⟨l⟩ := cs
  match l, hsz.trans (show Try.prog.cellsOf 26 = 2 by kernel_rfl) with
  | [c0, c1], _ =>
    obtain ⟨fuel, hx⟩ := h
    simp only [Value.cells] at hx
    obtain ⟨n0, y0, g0⟩ := trod_field Try.underlying26 hx 0 24 0 1 rfl (by kernel_rfl)
    obtain ⟨n1, y1, g1⟩ := trod_field Try.underlying26 hx 1 23 1 1 rfl (by kernel_rfl)
    obtain ⟨a0, e0, _, w0⟩ := DataW.trod_int Try.underlying24 g0
    have hs : ∃ a len cap, c1 = .slice a len cap := by
      rcases DataW.trod_slice Try.underlying23 g1 with ⟨hcs, _⟩ | ⟨x, l, c, elems, rest, n, _, hcs, _⟩
      · simp at hcs; exact ⟨_, _, _, hcs⟩
      · simp at hcs; exact ⟨_, _, _, hcs⟩
    obtain ⟨L, hL⟩ := open_hvs_at (enc := enc) (W := W) (b0 := b0) (sp := sp) (held := held) (v := c1) (d := y1.1) (ps := y1.2) hs ⟨n1, by
      obtain ⟨a, len, cap, rfl⟩ := hs
      simpa [Value.cells] using g1⟩
    simp at e0
    subst e0
    obtain ⟨m0, rfl, q0⟩ := wf_u32 w0
    exact ⟨m0, c1, L, rfl, q0, hL⟩
end Go.Proofs.Ytbmfnepbdfnlaaa
