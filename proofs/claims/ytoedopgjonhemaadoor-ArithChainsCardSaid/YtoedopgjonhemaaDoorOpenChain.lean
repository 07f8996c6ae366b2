/- An argument of ArithChains, opened. -/
import Derived.Test.YtoedopgjonhemaaDoorOpen
import Derived.Test.YtoedopgjonhemaaDoorStr
import Derived.Test.YtoedopgjonhemaaDoorChecked
import Derived.SliceStrings
namespace Go.Lw
open Go Go.RowKit Go.WideShapes Go.ChangeShapes
theorem open_bytes_at {H : Type} {enc : TypeId × Value → H} {P : Program} {W : World} {b0 : Nat} {sp : Nat → Bool} {held : Bool} {t e : TypeId} {v : Value} {d : DataW H} {ps : List MemPlace}
    (ht : P.underlying t = some (.slice e)) (he : P.underlying e = some (.int .u8)) (hce : P.cellsOf e = 1) {a : Option Addr} {len cap : Nat} (hv : v = .slice a len cap) (h : DataW.Trod enc P W b0 sp held t v d ps) : ∃ l, RdB W v l := by
  subst hv
  obtain ⟨fuel, hf⟩ := h
  rcases open_ints ht he hce hf with ⟨hcs, _⟩ | ⟨x, l, c, zs, hcs, _, hl, hm, hz, _, hcell, hwz⟩
  · simp [Value.cells] at hcs
    obtain ⟨rfl, rfl, rfl⟩ := hcs
    exact ⟨[], RdB.nil W⟩
  · simp [Value.cells] at hcs
    obtain ⟨rfl, rfl, rfl⟩ := hcs
    have hlz : len ≤ zs.length := by rw [hz]; split <;> omega
    have hlen : ((zs.take len).map fun n => UInt8.ofNat n.toNat).length = len := by simp; omega
    refine ⟨(zs.take len).map fun n => UInt8.ofNat n.toNat, ?_⟩
    unfold RdB
    rw [hlen]
    refine ⟨by simp; omega, _, cap, rfl, hl, hm, fun j u hj => ?_⟩
    rw [List.getElem?_map, List.getElem?_map, List.getElem?_take] at hj
    split at hj
    · rename_i hjl
      have hjz : j < zs.length := by omega
      rw [List.getElem?_eq_getElem hjz] at hj
      simp only [Option.map_some, Option.some.injEq] at hj
      have hc := hcell j hjz
      have hs' : x.spot = none := by
        have h0 := hcell 0 (by omega)
        have e0 : x.add 0 = x := by unfold Addr.add; rw [if_pos rfl]
        rw [e0] at h0
        exact World.cell?_spot h0
      refine ⟨x.block, x.off, by cases x; simp_all, ?_⟩
      rw [← addr_add x hs' j, hc, ← hj]
      have hw := hwz _ (List.getElem_mem hjz)
      simp only [List.getD_eq_getElem?_getD, List.getElem?_eq_getElem hjz, Option.getD_some]
      have hb : 0 ≤ zs[j] ∧ zs[j] < 256 := by
        simp [Lit.wf, IntKind.min, IntKind.max, IntKind.bits, IntKind.signed] at hw
        omega
      unfold bv
      simp only [UInt8.toNat_ofNat']
      congr 2
      omega
    · simp at hj
theorem open_i16_at {H : Type} {enc : TypeId × Value → H} {P : Program} {W : World} {b0 : Nat} {sp : Nat → Bool} {held : Bool} {t e : TypeId} {v : Value} {d : DataW H} {ps : List MemPlace}
    (ht : P.underlying t = some (.slice e)) (he : P.underlying e = some (.int .i16)) (hce : P.cellsOf e = 1) {a : Option Addr} {len cap : Nat} (hv : v = .slice a len cap) (h : DataW.Trod enc P W b0 sp held t v d ps) : ∃ l : List Int, Rd W 1 v l.length (l.map fun z => .int .i16 z) ∧ ∀ z ∈ l, -32768 ≤ z ∧ z ≤ 32767 := by
  subst hv
  obtain ⟨fuel, hf⟩ := h
  rcases open_ints ht he hce hf with ⟨hcs, _⟩ | ⟨x, l, c, zs, hcs, _, hl, hm, hz, _, hcell, hwz⟩
  · simp [Value.cells] at hcs
    obtain ⟨rfl, rfl, rfl⟩ := hcs
    exact ⟨[], Rd.nil W 1, fun z h => by simp at h⟩
  · simp [Value.cells] at hcs
    obtain ⟨rfl, rfl, rfl⟩ := hcs
    have hlz : len ≤ zs.length := by rw [hz]; split <;> omega
    have hlen : (zs.take len).length = len := by simp; omega
    have hwf : ∀ z ∈ zs, -32768 ≤ z ∧ z ≤ 32767 := fun z hz => by
      have hw := hwz z hz
      simp [Lit.wf, IntKind.min, IntKind.max, IntKind.bits, IntKind.signed] at hw
      omega
    refine ⟨zs.take len, ?_, fun z hz => hwf z (List.mem_of_mem_take hz)⟩
    rw [hlen]
    refine ⟨by simp; omega, _, cap, rfl, hl, hm, fun j u hj => ?_⟩
    rw [List.getElem?_map, List.getElem?_take] at hj
    split at hj
    · rename_i hjl
      have hjz : j < zs.length := by omega
      rw [List.getElem?_eq_getElem hjz] at hj
      simp only [Option.map_some, Option.some.injEq] at hj
      have hc := hcell j hjz
      have hs' : x.spot = none := by
        have h0 := hcell 0 (by omega)
        have e0 : x.add 0 = x := by unfold Addr.add; rw [if_pos rfl]
        rw [e0] at h0
        exact World.cell?_spot h0
      refine ⟨x.block, x.off, by cases x; simp_all, ?_⟩
      rw [← addr_add x hs' j, hc, ← hj]
      simp only [List.getD_eq_getElem?_getD, List.getElem?_eq_getElem hjz, Option.getD_some]
    · simp at hj
end Go.Lw
namespace Go.Proofs.YtoedopgjonhemaaDoor
open Go Go.RowKit Go.Lw Go.WideShapes Go.ChangeShapes
set_option maxRecDepth 100000
theorem open_chain {H : Type} {enc : TypeId × Value → H} {W : World} {b0 : Nat} {sp : Nat → Bool} {held : Bool} {v : Value} {d : DataW H} {ps : List MemPlace} {base : Nat} {r : Reach}
    (hv : Value.okWide Tryd.prog W r base 25 v) (h : DataW.Trod enc Tryd.prog W b0 sp held 25 v d ps) : ∃ (c0 c1 : Value) (nums : List Int) (sgs : List UInt8), v = .agg #[c0, c1] ∧ Rd W 1 c0 nums.length (nums.map fun z => .int .i16 z) ∧ (∀ z ∈ nums, -32768 ≤ z ∧ z ≤ 32767) ∧ RdB W c1 sgs := by
  obtain ⟨cs, rfl, hsz⟩ := okWide_struct Tryd.underlying25 hv
  obtain ⟨l⟩ := cs
  match l, hsz.trans (show Tryd.prog.cellsOf 25 = 2 by kernel_rfl) with
  | [c0, c1], _ =>
    obtain ⟨fuel, hx⟩ := h
    simp only [Value.cells] at hx
    obtain ⟨n0, y0, g0⟩ := trod_field Tryd.underlying25 hx 0 22 0 1 rfl (by kernel_rfl)
    obtain ⟨n1, y1, g1⟩ := trod_field Tryd.underlying25 hx 1 23 1 1 rfl (by kernel_rfl)
    have hs0 : ∃ a len cap, c0 = .slice a len cap := by
      rcases DataW.trod_slice Tryd.underlying22 g0 with ⟨hcs, _⟩ | ⟨x, l, c, elems, rest, n, _, hcs, _⟩
      · simp at hcs; exact ⟨_, _, _, hcs⟩
      · simp at hcs; exact ⟨_, _, _, hcs⟩
    have hs1 : ∃ a len cap, c1 = .slice a len cap := by
      rcases DataW.trod_slice Tryd.underlying23 g1 with ⟨hcs, _⟩ | ⟨x, l, c, elems, rest, n, _, hcs, _⟩
      · simp at hcs; exact ⟨_, _, _, hcs⟩
      · simp at hcs; exact ⟨_, _, _, hcs⟩
    obtain ⟨a0, l0, p0, rfl⟩ := hs0
    obtain ⟨a1, l1, p1, rfl⟩ := hs1
    obtain ⟨nums, hN, hr⟩ := open_i16_at (enc := enc) (P := Tryd.prog) (W := W) (b0 := b0) (sp := sp) (held := held) (d := y0.1) (ps := y0.2) Tryd.underlying22 Tryd.underlying28 (by kernel_rfl) rfl ⟨n0, by simpa [Value.cells] using g0⟩
    obtain ⟨sgs, hS⟩ := open_bytes_at (enc := enc) (P := Tryd.prog) (W := W) (b0 := b0) (sp := sp) (held := held) (d := y1.1) (ps := y1.2) Tryd.underlying23 Tryd.underlying5 (by kernel_rfl) rfl ⟨n1, by simpa [Value.cells] using g1⟩
    exact ⟨_, _, nums, sgs, rfl, hN, hr, hS⟩
end Go.Proofs.YtoedopgjonhemaaDoor
