/- An argument that is a row of calls (chapter 14), opened. -/
import Derived.Test.YtoiinmiedmjghaaOpen
import Derived.Test.YtoiinmiedmjghaaActs
namespace Go.Lw
open Go Go.RowKit Go.WideShapes Go.ChangeShapes
theorem open_bytes_at {H : Type} {enc : TypeId × Value → H} {P : Program} {W : World} {b0 : Nat} {sp : Nat → Bool} {held : Bool} {t e : TypeId} {v : Value} {d : DataW H} {ps : List MemPlace}
    (ht : P.underlying t = some (.slice e)) (he : P.underlying e = some (.int .u8)) (hce : P.cellsOf e = 1) {a : Option Addr} {len cap : Nat} (hv : v = .slice a len cap) (h : DataW.Trod enc P W b0 sp held t v d ps) : ∃ l, RdB W v l := by
  subst hv
  obtain ⟨fuel, hf⟩ := h
  rcases open_ints ht he hce hf with ⟨hcs, _⟩ | ⟨x, l, c, zs, hcs, _, hl, hm, hz, _, hcell, hwz⟩
  · simp [Value.cells] at hcs
    obtain ⟨rfl, rfl, rfl⟩ := hcs
    exact ⟨[], RdB.nil W⟩
  · simp [Value.cells] at hcs
    obtain ⟨rfl, rfl, rfl⟩ := hcs
    have hlz : len ≤ zs.length := by rw [hz]; split <;> omega
    have hlen : ((zs.take len).map fun n => UInt8.ofNat n.toNat).length = len := by simp; omega
    refine ⟨(zs.take len).map fun n => UInt8.ofNat n.toNat, ?_⟩
    unfold RdB
    rw [hlen]
    refine ⟨by simp; omega, _, cap, rfl, hl, hm, fun j u hj => ?_⟩
    rw [List.getElem?_map, List.getElem?_map, List.getElem?_take] at hj
    split at hj
    · rename_i hjl
      have hjz : j < zs.length := by omega
      rw [List.getElem?_eq_getElem hjz] at hj
      simp only [Option.map_some, Option.some.injEq] at hj
      have hc := hcell j hjz
      have hs' : x.spot = none := by
        have h0 := hcell 0 (by omega)
        have e0 : x.add 0 = x := by unfold Addr.add; rw [if_pos rfl]
        rw [e0] at h0
        exact World.cell?_spot h0
      refine ⟨x.block, x.off, by cases x; simp_all, ?_⟩
      rw [← addr_add x hs' j, hc, ← hj]
      have hw := hwz _ (List.getElem_mem hjz)
      simp only [List.getD_eq_getElem?_getD, List.getElem?_eq_getElem hjz, Option.getD_some]
      have hb : 0 ≤ zs[j] ∧ zs[j] < 256 := by
        simp [Lit.wf, IntKind.min, IntKind.max, IntKind.bits, IntKind.signed] at hw
        omega
      unfold bv
      simp only [UInt8.toNat_ofNat']
      congr 2
      omega
    · simp at hj
end Go.Lw
namespace Go.Proofs.Ytoiinmiedmjghaa
open Go Go.RowKit Go.Lw Go.WideShapes Go.ChangeShapes
set_option maxRecDepth 100000 in
theorem open_acts {H : Type} {enc : TypeId × Value → H} {W : World} {b0 : Nat} {sp : Nat → Bool} {held : Bool} {v : Value} {d : DataW H} {ps : List MemPlace} {base : Nat} {r : Reach}
    (hv : Value.okWide Try.prog W r base 33 v) (h : DataW.Trod enc Try.prog W b0 sp held 33 v d ps) : ∃ l, RdA W v l := by
  have helem : ∀ fuel cs x, DataW.trod enc Try.prog W b0 sp held fuel 39 cs = some x → ∃ y : Act4, cs = y.cells ∧ y.cells.length = 4 ∧ y.ok W := by
    intro fuel cs x hx
    have hl := trod_struct_len Try.underlying39 hx
    rw [show Try.prog.cellsOf 39 = 4 by kernel_rfl] at hl
    match cs, hl with
    | [c0, c1, c2, c3], _ =>
      obtain ⟨n0, y0, g0⟩ := trod_field Try.underlying39 hx 0 3 0 1 rfl (by kernel_rfl)
      obtain ⟨n1, y1, g1⟩ := trod_field Try.underlying39 hx 1 3 1 1 rfl (by kernel_rfl)
      obtain ⟨n2, y2, g2⟩ := trod_field Try.underlying39 hx 2 3 2 1 rfl (by kernel_rfl)
      obtain ⟨n3, y3, g3⟩ := trod_field Try.underlying39 hx 3 22 3 1 rfl (by kernel_rfl)
      obtain ⟨a0, e0, _, w0⟩ := DataW.trod_int Try.underlying3 g0
      obtain ⟨a1, e1, _, w1⟩ := DataW.trod_int Try.underlying3 g1
      obtain ⟨a2, e2, _, w2⟩ := DataW.trod_int Try.underlying3 g2
      have hs : ∃ a len cap, c3 = .slice a len cap := by
        rcases DataW.trod_slice Try.underlying22 g3 with ⟨hcs, _⟩ | ⟨x, l, c, elems, rest, n, _, hcs, _⟩
        · simp at hcs; exact ⟨_, _, _, hcs⟩
        · simp at hcs; exact ⟨_, _, _, hcs⟩
      obtain ⟨a, len, cap, rfl⟩ := hs
      obtain ⟨L, hL⟩ := open_bytes_at (enc := enc) (P := Try.prog) (W := W) (b0 := b0) (sp := sp) (held := held) (d := y3.1) (ps := y3.2) Try.underlying22 Try.underlying5 (by kernel_rfl) rfl ⟨n3, by simpa [Value.cells] using g3⟩
      simp at e0 e1 e2
      subst e0 e1 e2
      exact ⟨⟨a0, a1, a2, _, L⟩, rfl, rfl, wf_i64 w0, wf_i64 w1, wf_i64 w2, hL⟩
  obtain ⟨l, h1, h2⟩ := open_slice_of (size := 4) Act4.cells (Act4.ok W) Try.underlying33 (by kernel_rfl) (by decide) helem hv h
  exact ⟨l, h1, fun p hp => (h2 p hp).2⟩
end Go.Proofs.Ytoiinmiedmjghaa
