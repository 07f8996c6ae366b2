/- A slice of a slice, inside a fence. -/
import Derived.Test.YtfmebmaklakckaaDoorSlice
import Derived.Test.YtfmebmaklakckaaDoorIter
namespace Go.Lw
open Go Go.RowKit
section
variable {F : Fence} {nn : Nat} {P : Program} {w : World} {ops : Array Oper} {rest : List Oper} {o : Oper} {a : Act} {Q : Exit → Act → World → Prop}
/-- x[l:] -/
theorem wpListIn_slice_l (hw : Region.wanted o (yielded ops a.tmps) = true) (t : TypeId) (x lo : Operand) (ho : o.op = .slice t x (some lo) none none)
    {e : TypeId} {size bytes : Nat} (E : ElemT P t e size bytes) (v : Value) (n : Nat) (xs : List Value) (kl : IntKind) (L : Int) (l : Nat) (hx : a.eval x = v) (hl : a.eval lo = .int kl L) (hr : Rd w size v n xs)
    (hL : L = (l : Int)) (h1 : l ≤ n)
    (hk : ∀ ad c, Rd w size (.slice ad (n - l) c) (n - l) (xs.drop (l * size)) → (∀ k, blk (.slice ad (n - l) c) k → blk v k) → wpListIn F nn P ops Q rest (a.put o.dst (.slice ad (n - l) c)) w) : wpListIn F nn P ops Q (o :: rest) a w := by
  refine wpListIn_step fun K hK => ?_
  rw [if_pos hw]
  obtain ⟨h0, ad, cap, rfl, hnc, hcm, hc⟩ := id hr
  subst hL
  have ee : P.elem t = e := by simp [Program.elem, E.und]
  have hrun := run_slice_l (P := P) w t ad n cap (elem_of E.und) kl (l : Int) (by omega) (by omega)
  rw [ee, run_sizeOf E] at hrun
  simp only [Result.andThen_ok, Int.toNat_natCast] at hrun
  unfold Oper.wpIn
  refine ⟨?_, ?_⟩
  · simp [Oper.about, ho]
  rw [Oper.semAt_plain F _ _ (by rw [ho]; intro c hc'; cases hc')]
  unfold execOp
  simp only [ho, hx, hl, Option.map_some, Option.map_none, run_sliceAt_slice (P := P) w t _ _ _ _ (elem_of E.und), hrun, Sem.run_bind, Sem.run_pure, Result.andThen_ok]
  have hrd := Rd.sliced hr l n h1 (Nat.le_refl _)
  rw [List.take_of_length_le (by rw [List.length_drop, h0, ← Nat.sub_mul]; exact Nat.le_refl _)] at hrd
  exact hK _ _ (hk _ _ hrd (fun k hb => blk_sliced hb))
end
end Go.Lw
