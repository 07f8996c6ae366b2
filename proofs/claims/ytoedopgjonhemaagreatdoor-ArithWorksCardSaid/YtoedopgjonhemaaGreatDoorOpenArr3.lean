/- Arguments: an array of three strings. -/
import Derived.Test.YtoedopgjonhemaaGreatDoorOpen
import Derived.Test.YtoedopgjonhemaaGreatDoorStr
import Derived.SliceStrings
import Derived.WideKeyArr2
namespace Go.Lw
open Go Go.RowKit Go.WideShapes Go.ChangeShapes
theorem open_arr3s {H : Type} {enc : TypeId × Value → H} {P : Program} {W : World} {b0 : Nat} {sp : Nat → Bool} {held : Bool} {k e : TypeId} {v : Value} {d : DataW H} {ps : List MemPlace} {base : Nat} {r : Reach}
    (hk : P.underlying k = some (.array 3 e)) (he : P.underlying e = some .string) (hsize : P.cellsOf k = 3) (hce : P.cellsOf e = 1) (hv : Value.okWide P W r base k v) (h : DataW.Trod enc P W b0 sp held k v d ps) :
    ∃ a b c : List UInt8, v = .agg #[.string (BA a), .string (BA b), .string (BA c)] ∧ a.length ≤ maxLen ∧ b.length ≤ maxLen ∧ c.length ≤ maxLen := by
  simp only [Value.okWide, hk] at hv
  obtain ⟨cs, rfl, h2, _⟩ := hv
  obtain ⟨fuel, hf⟩ := h
  cases fuel with
  | zero => simp [DataW.trod] at hf
  | succ m =>
    rw [DataW.trod_step] at hf
    unfold DataW.trodStep at hf
    simp only [hk, Value.cells] at hf
    rw [hsize] at h2
    rw [if_pos (by simpa [hsize] using h2)] at hf
    simp only [Option.map_eq_some_iff] at hf
    obtain ⟨ys, hy, _⟩ := hf
    obtain ⟨x0, x1, x2, rfl⟩ : ∃ x0 x1 x2, cs = #[x0, x1, x2] := by
      match cs, h2 with
      | ⟨[x0, x1, x2]⟩, _ => exact ⟨x0, x1, x2, rfl⟩
    rw [show List.range 3 = [0, 1, 2] from rfl, hce] at hy
    simp only [List.mapM_cons, List.mapM_nil, bind, Option.bind_eq_some_iff, pure] at hy
    obtain ⟨y0, hy0, _, ⟨y1, hy1, _, ⟨y2, hy2, _⟩, _⟩, _⟩ := hy
    have key : ∀ (x : Value) (y : DataW H × List MemPlace), DataW.trod enc P W b0 sp held m e [x] = some y → ∃ a : List UInt8, x = .string (BA a) ∧ a.length ≤ maxLen := fun x y hx => by
      obtain ⟨s, hn, _, hw⟩ := DataW.trod_string he hx
      cases hn
      exact ⟨s.data.toList, by rw [← BA_of], by rw [BA_of s, BA_size] at hw; exact hw⟩
    obtain ⟨a, rfl, ha⟩ := key x0 y0 hy0
    obtain ⟨b, rfl, hb⟩ := key x1 y1 hy1
    obtain ⟨c, rfl, hc⟩ := key x2 y2 hy2
    exact ⟨a, b, c, rfl, ha, hb, hc⟩
end Go.Lw
