/- Arguments: a slice of strings; an array of four bytes. -/
import Derived.Test.YtkfoinphkjmlmaaOpen
import Derived.Test.YtkfoinphkjmlmaaStr
import Derived.SliceStrings
import Derived.WideKeyArr2
namespace Go.Lw
open Go Go.RowKit Go.WideShapes Go.ChangeShapes
theorem open_strs {H : Type} {enc : TypeId × Value → H} {P : Program} {W : World} {b0 : Nat} {sp : Nat → Bool} {held : Bool} {t e : TypeId} {v : Value} {d : DataW H} {ps : List MemPlace} {base : Nat} {r : Reach}
    (ht : P.underlying t = some (.slice e)) (he : P.underlying e = some .string) (hce : P.cellsOf e = 1) (hv : Value.okWide P W r base t v) (h : DataW.Trod enc P W b0 sp held t v d ps) :
    ∃ ls : List (List UInt8), Rd W 1 v ls.length (ls.map fun l => .string (BA l)) ∧ ∀ l ∈ ls, l.length ≤ maxLen := by
  obtain ⟨a, len, cap, rfl⟩ := okWide_slice ht hv
  obtain ⟨fuel, hf⟩ := h
  rcases open_strings ht he hce hf with ⟨hcs, _⟩ | ⟨x, l, c, ss, hcs, _, hl, hm, hz, _, hcell, hss⟩
  · simp [Value.cells] at hcs
    obtain ⟨rfl, rfl, rfl⟩ := hcs
    exact ⟨[], Rd.nil W 1, fun l h => by simp at h⟩
  · simp [Value.cells] at hcs
    obtain ⟨rfl, rfl, rfl⟩ := hcs
    have hlz : len ≤ ss.length := by rw [hz]; split <;> omega
    have hlen : ((ss.take len).map fun s => s.data.toList).length = len := by simp; omega
    refine ⟨(ss.take len).map fun s => s.data.toList, ?_, ?_⟩
    · rw [hlen]
      refine ⟨by simp; omega, _, cap, rfl, hl, hm, fun j u hj => ?_⟩
      rw [List.getElem?_map, List.getElem?_map, List.getElem?_take] at hj
      split at hj
      · rename_i hjl
        have hjz : j < ss.length := by omega
        rw [List.getElem?_eq_getElem hjz] at hj
        simp only [Option.map_some, Option.some.injEq] at hj
        have hc := hcell j hjz
        have hs' : x.spot = none := by
          have h0 := hcell 0 (by omega)
          have e0 : x.add 0 = x := by unfold Addr.add; rw [if_pos rfl]
          rw [e0] at h0
          exact World.cell?_spot h0
        refine ⟨x.block, x.off, by cases x; simp_all, ?_⟩
        rw [← addr_add x hs' j, hc, ← hj, ← BA_of]
        simp only [List.getD_eq_getElem?_getD, List.getElem?_eq_getElem hjz, Option.getD_some]
      · simp at hj
    · intro l hl'
      obtain ⟨s, hs, rfl⟩ := List.mem_map.1 hl'
      have := hss s (List.mem_of_mem_take hs)
      rw [BA_of s, BA_size] at this
      exact this
theorem open_arr4 {H : Type} {enc : TypeId × Value → H} {P : Program} {W : World} {b0 : Nat} {sp : Nat → Bool} {held : Bool} {k e : TypeId} {v : Value} {d : DataW H} {ps : List MemPlace} {base : Nat} {r : Reach}
    (hk : P.underlying k = some (.array 4 e)) (he : P.underlying e = some (.int .u8)) (hsize : P.cellsOf k = 4) (hce : P.cellsOf e = 1) (hv : Value.okWide P W r base k v) (h : DataW.Trod enc P W b0 sp held k v d ps) :
    ∃ a b c f : Nat, v = .agg #[.int .u8 (a : Int), .int .u8 (b : Int), .int .u8 (c : Int), .int .u8 (f : Int)] ∧ a < 256 ∧ b < 256 ∧ c < 256 ∧ f < 256 := by
  simp only [Value.okWide, hk] at hv
  obtain ⟨cs, rfl, h2, _⟩ := hv
  obtain ⟨fuel, hf⟩ := h
  cases fuel with
  | zero => simp [DataW.trod] at hf
  | succ m =>
    rw [DataW.trod_step] at hf
    unfold DataW.trodStep at hf
    simp only [hk, Value.cells] at hf
    rw [hsize] at h2
    rw [if_pos (by simpa [hsize] using h2)] at hf
    simp only [Option.map_eq_some_iff] at hf
    obtain ⟨ys, hy, _⟩ := hf
    obtain ⟨x0, x1, x2, x3, rfl⟩ : ∃ x0 x1 x2 x3, cs = #[x0, x1, x2, x3] := by
      match cs, h2 with
      | ⟨[x0, x1, x2, x3]⟩, _ => exact ⟨x0, x1, x2, x3, rfl⟩
    rw [show List.range 4 = [0, 1, 2, 3] from rfl, hce] at hy
    simp only [List.mapM_cons, List.mapM_nil, bind, Option.bind_eq_some_iff, pure] at hy
    obtain ⟨y0, hy0, _, ⟨y1, hy1, _, ⟨y2, hy2, _, ⟨y3, hy3, _⟩, _⟩, _⟩, _⟩ := hy
    have key : ∀ (x : Value) (y : DataW H × List MemPlace), DataW.trod enc P W b0 sp held m e [x] = some y → ∃ a : Nat, x = .int .u8 (a : Int) ∧ a < 256 := fun x y hx => by
      obtain ⟨n, hn, _, hw⟩ := DataW.trod_int he hx
      cases hn
      simp [Lit.wf, IntKind.min, IntKind.max, IntKind.bits, IntKind.signed] at hw
      exact ⟨n.toNat, by congr 1; omega, by omega⟩
    obtain ⟨a, rfl, ha⟩ := key x0 y0 hy0
    obtain ⟨b, rfl, hb⟩ := key x1 y1 hy1
    obtain ⟨c, rfl, hc⟩ := key x2 y2 hy2
    obtain ⟨f, rfl, hf⟩ := key x3 y3 hy3
    exact ⟨a, b, c, f, rfl, ha, hb, hc, hf⟩
end Go.Lw
