/- An argument that is a frame, opened. -/
import Derived.Test.YtcmipliglcakdaaDoorOpen
import Derived.Test.YtcmipliglcakdaaDoorFrm
import Derived.Test.YtcmipliglcakdaaDoorFrameLaid
import Derived.Test.YtcmipliglcakdaaDoorFrameW
namespace Go.Lw
open Go Go.RowKit Go.WideShapes Go.ChangeShapes
theorem open_bytes_at {H : Type} {enc : TypeId × Value → H} {P : Program} {W : World} {b0 : Nat} {sp : Nat → Bool} {held : Bool} {t e : TypeId} {v : Value} {d : DataW H} {ps : List MemPlace}
    (ht : P.underlying t = some (.slice e)) (he : P.underlying e = some (.int .u8)) (hce : P.cellsOf e = 1) {a : Option Addr} {len cap : Nat} (hv : v = .slice a len cap) (h : DataW.Trod enc P W b0 sp held t v d ps) : ∃ l, RdB W v l := by
  subst hv
  obtain ⟨fuel, hf⟩ := h
  rcases open_ints ht he hce hf with ⟨hcs, _⟩ | ⟨x, l, c, zs, hcs, _, hl, hm, hz, _, hcell, hwz⟩
  · simp [Value.cells] at hcs
    obtain ⟨rfl, rfl, rfl⟩ := hcs
    exact ⟨[], RdB.nil W⟩
  · simp [Value.cells] at hcs
    obtain ⟨rfl, rfl, rfl⟩ := hcs
    have hlz : len ≤ zs.length := by rw [hz]; split <;> omega
    have hlen : ((zs.take len).map fun n => UInt8.ofNat n.toNat).length = len := by simp; omega
    refine ⟨(zs.take len).map fun n => UInt8.ofNat n.toNat, ?_⟩
    unfold RdB
    rw [hlen]
    refine ⟨by simp; omega, _, cap, rfl, hl, hm, fun j u hj => ?_⟩
    rw [List.getElem?_map, List.getElem?_map, List.getElem?_take] at hj
    split at hj
    · rename_i hjl
      have hjz : j < zs.length := by omega
      rw [List.getElem?_eq_getElem hjz] at hj
      simp only [Option.map_some, Option.some.injEq] at hj
      have hc := hcell j hjz
      have hs' : x.spot = none := by
        have h0 := hcell 0 (by omega)
        have e0 : x.add 0 = x := by unfold Addr.add; rw [if_pos rfl]
        rw [e0] at h0
        exact World.cell?_spot h0
      refine ⟨x.block, x.off, by cases x; simp_all, ?_⟩
      rw [← addr_add x hs' j, hc, ← hj]
      have hw := hwz _ (List.getElem_mem hjz)
      simp only [List.getD_eq_getElem?_getD, List.getElem?_eq_getElem hjz, Option.getD_some]
      have hb : 0 ≤ zs[j] ∧ zs[j] < 256 := by
        simp [Lit.wf, IntKind.min, IntKind.max, IntKind.bits, IntKind.signed] at hw
        omega
      unfold bv
      simp only [UInt8.toNat_ofNat']
      congr 2
      omega
    · simp at hj
end Go.Lw
namespace Go.Proofs.YtcmipliglcakdaaDoor
open Go Go.RowKit Go.Lw Go.WideShapes Go.ChangeShapes
set_option maxRecDepth 100000 in
theorem open_frame {H : Type} {enc : TypeId × Value → H} {W : World} {b0 : Nat} {sp : Nat → Bool} {held : Bool} {v : Value} {d : DataW H} {ps : List MemPlace} {base : Nat} {r : Reach}
    (hv : Value.okWide Tryd.prog W r base 46 v) (h : DataW.Trod enc Tryd.prog W b0 sp held 46 v d ps) : ∃ (f : Frm) (c : Value), v = f.val c ∧ f.ok ∧ RdB W c f.p := by
  obtain ⟨cs, rfl, hsz⟩ := okWide_struct Tryd.underlying46 hv
  obtain ⟨l⟩ := cs
  match l, hsz.trans (show Tryd.prog.cellsOf 46 = 7 by kernel_rfl) with
  | [c0, c1, c2, c3, c4, c5, c6], _ =>
    obtain ⟨fuel, hx⟩ := h
    simp only [Value.cells] at hx
    obtain ⟨n0, y0, g0⟩ := trod_field Tryd.underlying46 hx 0 5 0 1 rfl (by kernel_rfl)
    obtain ⟨n1, y1, g1⟩ := trod_field Tryd.underlying46 hx 1 23 1 1 rfl (by kernel_rfl)
    obtain ⟨n2, y2, g2⟩ := trod_field Tryd.underlying46 hx 2 23 2 1 rfl (by kernel_rfl)
    obtain ⟨n3, y3, g3⟩ := trod_field Tryd.underlying46 hx 3 23 3 1 rfl (by kernel_rfl)
    obtain ⟨n4, y4, g4⟩ := trod_field Tryd.underlying46 hx 4 23 4 1 rfl (by kernel_rfl)
    obtain ⟨n5, y5, g5⟩ := trod_field Tryd.underlying46 hx 5 23 5 1 rfl (by kernel_rfl)
    obtain ⟨n6, y6, g6⟩ := trod_field Tryd.underlying46 hx 6 22 6 1 rfl (by kernel_rfl)
    obtain ⟨a0, e0, _, w0⟩ := DataW.trod_int Tryd.underlying5 g0
    obtain ⟨a1, e1, _, w1⟩ := DataW.trod_int Tryd.underlying23 g1
    obtain ⟨a2, e2, _, w2⟩ := DataW.trod_int Tryd.underlying23 g2
    obtain ⟨a3, e3, _, w3⟩ := DataW.trod_int Tryd.underlying23 g3
    obtain ⟨a4, e4, _, w4⟩ := DataW.trod_int Tryd.underlying23 g4
    obtain ⟨a5, e5, _, w5⟩ := DataW.trod_int Tryd.underlying23 g5
    have hs : ∃ a len cap, c6 = .slice a len cap := by
      rcases DataW.trod_slice Tryd.underlying22 g6 with ⟨hcs, _⟩ | ⟨x, l, c, elems, rest, n, _, hcs, _⟩
      · simp at hcs; exact ⟨_, _, _, hcs⟩
      · simp at hcs; exact ⟨_, _, _, hcs⟩
    obtain ⟨a, len, cap, rfl⟩ := hs
    obtain ⟨L, hL⟩ := open_bytes_at (enc := enc) (P := Tryd.prog) (W := W) (b0 := b0) (sp := sp) (held := held) (d := y6.1) (ps := y6.2) Tryd.underlying22 Tryd.underlying5 (by kernel_rfl) rfl ⟨n6, by simpa [Value.cells] using g6⟩
    simp at e0 e1 e2 e3 e4 e5
    subst e0 e1 e2 e3 e4 e5
    obtain ⟨m0, rfl, q0⟩ := wf_u8 w0
    obtain ⟨m1, rfl, q1⟩ := wf_u32 w1
    obtain ⟨m2, rfl, q2⟩ := wf_u32 w2
    obtain ⟨m3, rfl, q3⟩ := wf_u32 w3
    obtain ⟨m4, rfl, q4⟩ := wf_u32 w4
    obtain ⟨m5, rfl, q5⟩ := wf_u32 w5
    exact ⟨⟨m0, m1, m2, m3, m4, m5, L⟩, _, rfl, ⟨q0, q1, q2, q3, q4, q5⟩, hL⟩
def laidF : List (String × DataW Unit) := [("longwire/scribe.table", Rows.laid_longwire_scribe_table), ("longwire/frame.may", Rows.laid_longwire_frame_may)]
theorem gMay : Tryd.prog.globalNamed "longwire/frame.may" = some 0 := by kernel_rfl
theorem door_metF (os : Os) (args : Array Value) : laidMetH Tryd.prog laidF ((World.doorLaid Tryd.prog 400 os).forCall (fun _ _ => 0) ⟨#[], args, []⟩).memory :=
  laidMetH_of_parts3 (fuel := 8) (laidMet_of_run' 8 (by kernel_rfl) (by kernel_rfl)) (by kernel_rfl) (by kernel_rfl)
theorem of_laidF {W : World} (h : laidMetH Tryd.prog laidF W) : Tab W ∧ TabM W := by
  have h1 : laidMet Tryd.prog laidT W := h.1
  refine ⟨of_laid (by rw [MakeChecks.laidMetH_plain _ _ _ (by kernel_rfl)]; exact h1), ?_⟩
  obtain ⟨g, t, cs, fuel, p, hg, ht, hv, hd⟩ := h.funcs (n := "longwire/frame.may") (List.mem_cons_of_mem _ (List.mem_singleton.2 rfl))
  obtain rfl := Option.some.inj (gMay.symm.trans hg)
  obtain rfl := Option.some.inj ((show (Tryd.prog.globals[0]?).map (·.type) = some 96 by kernel_rfl).symm.trans ht)
  have hd' : DataW.trod (funcToken Tryd.prog) Tryd.prog W 0 (fun _ => true) true fuel 96 cs.toList = some (.agg [.nil, .held [108, 111, 110, 103, 119, 105, 114, 101, 47, 102, 114, 97, 109, 101, 46, 98, 97, 114, 101], .held [108, 111, 110, 103, 119, 105, 114, 101, 47, 102, 114, 97, 109, 101, 46, 98, 97, 114, 101], .held [108, 111, 110, 103, 119, 105, 114, 101, 47, 102, 114, 97, 109, 101, 46, 109, 97, 121, 36, 49], .held [108, 111, 110, 103, 119, 105, 114, 101, 47, 102, 114, 97, 109, 101, 46, 109, 97, 121, 36, 50], .held [108, 111, 110, 103, 119, 105, 114, 101, 47, 102, 114, 97, 109, 101, 46, 98, 97, 114, 101]], p) := hd
  obtain ⟨ys, n, hn, hx, hl, hl2, hel⟩ := DataW.trod_array Tryd.underlying96 hd'
  rw [show Tryd.prog.cellsOf 96 = 6 by kernel_rfl] at hl
  rw [show Tryd.prog.cellsOf 95 = 1 by kernel_rfl] at hel
  have hc := fun i => World.var?_cell gMay hv i
  obtain ⟨l⟩ := cs
  match l, ys, hl, hl2 with
  | [c0, c1, c2, c3, c4, c5], [y0, y1, y2, y3, y4, y5], _, _ =>
    simp only [Prod.mk.injEq, DataW.agg.injEq, List.map_cons, List.map_nil, List.cons.injEq, and_true] at hx
    obtain ⟨⟨x0, x1, x2, x3, x4, x5⟩, _⟩ := hx
    have e1 := hel 1 (by decide); have e2 := hel 2 (by decide); have e3 := hel 3 (by decide); have e4 := hel 4 (by decide); have e5 := hel 5 (by decide)
    obtain ⟨y1a, y1b⟩ := y1; obtain ⟨y2a, y2b⟩ := y2; obtain ⟨y3a, y3b⟩ := y3; obtain ⟨y4a, y4b⟩ := y4; obtain ⟨y5a, y5b⟩ := y5
    simp only at x1 x2 x3 x4 x5
    subst x1 x2 x3 x4 x5
    obtain rfl := func_of_trod (f0 := 95) Tryd.underlying95 (by kernel_rfl) e1
    obtain rfl := func_of_trod (f0 := 95) Tryd.underlying95 (by kernel_rfl) e2
    obtain rfl := func_of_trod (f0 := 96) Tryd.underlying95 (by kernel_rfl) e3
    obtain rfl := func_of_trod (f0 := 97) Tryd.underlying95 (by kernel_rfl) e4
    obtain rfl := func_of_trod (f0 := 95) Tryd.underlying95 (by kernel_rfl) e5
    exact ⟨hc 1, hc 2, hc 3, hc 4, hc 5⟩
end Go.Proofs.YtcmipliglcakdaaDoor
