/- An argument that is a row of rows of bytes, opened. -/
import Derived.Test.YtfmebmaklakckaaDoorOpen
import Derived.Test.YtfmebmaklakckaaDoorSame
namespace Go.Lw
open Go Go.RowKit Go.WideShapes Go.ChangeShapes
theorem open_bytes_at {H : Type} {enc : TypeId × Value → H} {P : Program} {W : World} {b0 : Nat} {sp : Nat → Bool} {held : Bool} {t e : TypeId} {v : Value} {d : DataW H} {ps : List MemPlace}
    (ht : P.underlying t = some (.slice e)) (he : P.underlying e = some (.int .u8)) (hce : P.cellsOf e = 1) {a : Option Addr} {len cap : Nat} (hv : v = .slice a len cap) (h : DataW.Trod enc P W b0 sp held t v d ps) : ∃ l, RdB W v l := by
  subst hv
  obtain ⟨fuel, hf⟩ := h
  rcases open_ints ht he hce hf with ⟨hcs, _⟩ | ⟨x, l, c, zs, hcs, _, hl, hm, hz, _, hcell, hwz⟩
  · simp [Value.cells] at hcs
    obtain ⟨rfl, rfl, rfl⟩ := hcs
    exact ⟨[], RdB.nil W⟩
  · simp [Value.cells] at hcs
    obtain ⟨rfl, rfl, rfl⟩ := hcs
    have hlz : len ≤ zs.length := by rw [hz]; split <;> omega
    have hlen : ((zs.take len).map fun n => UInt8.ofNat n.toNat).length = len := by simp; omega
    refine ⟨(zs.take len).map fun n => UInt8.ofNat n.toNat, ?_⟩
    unfold RdB
    rw [hlen]
    refine ⟨by simp; omega, _, cap, rfl, hl, hm, fun j u hj => ?_⟩
    rw [List.getElem?_map, List.getElem?_map, List.getElem?_take] at hj
    split at hj
    · rename_i hjl
      have hjz : j < zs.length := by omega
      rw [List.getElem?_eq_getElem hjz] at hj
      simp only [Option.map_some, Option.some.injEq] at hj
      have hc := hcell j hjz
      have hs' : x.spot = none := by
        have h0 := hcell 0 (by omega)
        have e0 : x.add 0 = x := by unfold Addr.add; rw [if_pos rfl]
        rw [e0] at h0
        exact World.cell?_spot h0
      refine ⟨x.block, x.off, by cases x; simp_all, ?_⟩
      rw [← addr_add x hs' j, hc, ← hj]
      have hw := hwz _ (List.getElem_mem hjz)
      simp only [List.getD_eq_getElem?_getD, List.getElem?_eq_getElem hjz, Option.getD_some]
      have hb : 0 ≤ zs[j] ∧ zs[j] < 256 := by
        simp [Lit.wf, IntKind.min, IntKind.max, IntKind.bits, IntKind.signed] at hw
        omega
      unfold bv
      simp only [UInt8.toNat_ofNat']
      congr 2
      omega
    · simp at hj
end Go.Lw
namespace Go.Proofs.YtfmebmaklakckaaDoor
open Go Go.RowKit Go.Lw Go.WideShapes Go.ChangeShapes
set_option maxRecDepth 100000 in
theorem open_rows {H : Type} {enc : TypeId × Value → H} {W : World} {b0 : Nat} {sp : Nat → Bool} {held : Bool} {v : Value} {d : DataW H} {ps : List MemPlace} {base : Nat} {r : Reach}
    (hv : Value.okWide Tryd.prog W r base 34 v) (h : DataW.Trod enc Tryd.prog W b0 sp held 34 v d ps) : ∃ l, RdBB W v l := by
  have helem : ∀ fuel cs x, DataW.trod enc Tryd.prog W b0 sp held fuel 38 cs = some x → ∃ y : Value × List UInt8, cs = [y.1] ∧ [y.1].length = 1 ∧ RdB W y.1 y.2 := by
    intro fuel cs x g3
    have hs : ∃ a len cap, cs = [.slice a len cap] := by
      rcases DataW.trod_slice Tryd.underlying38 g3 with ⟨hcs, _⟩ | ⟨x, l, c, elems, rest, n, _, hcs, _⟩
      · exact ⟨_, _, _, hcs⟩
      · exact ⟨_, _, _, hcs⟩
    obtain ⟨a, len, cap, rfl⟩ := hs
    obtain ⟨L, hL⟩ := open_bytes_at (enc := enc) (P := Tryd.prog) (W := W) (b0 := b0) (sp := sp) (held := held) (d := x.1) (ps := x.2) Tryd.underlying38 Tryd.underlying5 (by kernel_rfl) rfl ⟨fuel, by simpa [Value.cells] using g3⟩
    exact ⟨⟨_, L⟩, rfl, rfl, hL⟩
  obtain ⟨ys, h1, h2⟩ := open_slice_of (size := 1) (fun y : Value × List UInt8 => [y.1]) (fun y => RdB W y.1 y.2) Tryd.underlying34 (by kernel_rfl) (by decide) helem hv h
  have e : ys.flatMap (fun y : Value × List UInt8 => [y.1]) = ys.map Prod.fst := by
    clear h1 h2
    induction ys with
    | nil => rfl
    | cons y ys ih => simp [ih]
  rw [e] at h1
  refine ⟨ys.map Prod.snd, ys.map Prod.fst, by rw [List.length_map]; exact h1, by simp, fun i u l hu hl => ?_⟩
  rw [List.getElem?_map] at hu hl
  cases hy : ys[i]? with
  | none => rw [hy] at hu; cases hu
  | some y =>
    rw [hy] at hu hl
    cases hu; cases hl
    exact (h2 y (List.mem_of_getElem? hy)).2
end Go.Proofs.YtfmebmaklakckaaDoor
