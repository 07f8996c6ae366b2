/- Slicing a slice, as laws of the walk, over any program: what the part reads as. -/
import Derived.Test.YtoedopgjonhemaaGreatDoorLib
namespace Go.Lw
open Go Go.RowKit
theorem Rd.sliced {w : World} {size n cap : Nat} {a : Option Addr} {xs : List Value} (h : Rd w size (.slice a n cap) n xs) (l hi : Nat) (hl : l ≤ hi) (hh : hi ≤ n) :
    Rd w size (sliced a l hi cap size) (hi - l) ((xs.drop (l * size)).take ((hi - l) * size)) := by
  obtain ⟨h0, a', c', e, h1, h2, h3⟩ := h
  cases e
  unfold Go.sliced
  refine ⟨?_, _, cap - l, rfl, by omega, by omega, fun j u hj => ?_⟩
  · rw [List.length_take, List.length_drop, h0, ← Nat.sub_mul]
    exact Nat.min_eq_left (Nat.mul_le_mul_right _ (by omega))
  · rw [List.getElem?_take] at hj
    split at hj
    · rename_i hjl
      rw [List.getElem?_drop] at hj
      obtain ⟨g, off, rfl, hc⟩ := h3 _ u hj
      have hne : cap ≠ l := by
        intro e
        have : hi - l = 0 := by omega
        rw [this] at hjl; simp at hjl
      rw [if_neg hne]
      by_cases hz : l * size = 0
      · refine ⟨g, off, ?_, ?_⟩
        · simp [Addr.add, hz]
        · rw [hz, Nat.zero_add] at hc; exact hc
      · refine ⟨g, off + l * size, ?_, ?_⟩
        · simp [Addr.add, hz]
        · rw [Nat.add_assoc]; exact hc
    · cases hj
theorem blk_sliced {a : Option Addr} {l hi cap size n c : Nat} {k : Nat} (h : blk (sliced a l hi cap size) k) : blk (.slice a n c) k := by
  unfold Go.sliced at h
  cases a with
  | none => split at h <;> exact (blk_none h).elim
  | some a =>
    have e : k = a.block := by
      split at h
      · exact blk_some h
      · have := blk_some h
        rw [this]; unfold Addr.add; split <;> rfl
    subst e; rfl
theorem run_sizeOf {P : Program} {t e : TypeId} {size bytes : Nat} (E : ElemT P t e size bytes) (w : World) : (sizeOf e).run P w = .ok size w := by
  obtain ⟨i, z, hi, _, hs, _⟩ := E.info
  simp [sizeOf, typeInfo, hi, hs]
theorem elem_of {P : Program} {t e : TypeId} (h : P.underlying t = some (.slice e)) : P.underlying t = some (.slice (P.elem t)) := by
  have : P.elem t = e := by simp [Program.elem, h]
  rw [this]; exact h
section
variable {P : Program} {w : World} {ops : Array Oper} {rest : List Oper} {o : Oper} {a : Act} {Q : Exit → Act → World → Prop}
/-- x[l:h] -/
theorem wpList_slice_lh (hw : Region.wanted o (yielded ops a.tmps) = true) (t : TypeId) (x lo hi : Operand) (ho : o.op = .slice t x (some lo) (some hi) none)
    {e : TypeId} {size bytes : Nat} (E : ElemT P t e size bytes) (v : Value) (n : Nat) (xs : List Value) (kl kh : IntKind) (L H : Int) (l h : Nat) (hx : a.eval x = v) (hl : a.eval lo = .int kl L) (hh : a.eval hi = .int kh H) (hr : Rd w size v n xs)
    (hL : L = (l : Int)) (hH : H = (h : Int)) (h1 : l ≤ h) (h2 : h ≤ n)
    (hk : ∀ ad c, Rd w size (.slice ad (h - l) c) (h - l) ((xs.drop (l * size)).take ((h - l) * size)) → (∀ k, blk (.slice ad (h - l) c) k → blk v k) → wpList P ops Q rest (a.put o.dst (.slice ad (h - l) c)) w) : wpList P ops Q (o :: rest) a w := by
  refine wpList_step fun K hK => ?_
  rw [if_pos hw]
  obtain ⟨h0, ad, cap, rfl, hnc, hcm, hc⟩ := id hr
  subst hL; subst hH
  have ee : P.elem t = e := by simp [Program.elem, E.und]
  have hrun := run_slice_lh (P := P) w t ad n cap (elem_of E.und) kl kh (l : Int) (h : Int) (by omega) (by omega) (by omega)
  rw [ee, run_sizeOf E] at hrun
  simp only [Result.andThen_ok, Int.toNat_natCast] at hrun
  unfold Oper.wp execOp
  simp only [ho, hx, hl, hh, Option.map_some, Option.map_none, run_sliceAt_slice (P := P) w t _ _ _ _ (elem_of E.und), hrun, Sem.run_bind, Sem.run_pure, Result.andThen_ok]
  exact hK _ _ (hk _ _ (Rd.sliced hr l h h1 h2) (fun k hb => blk_sliced hb))
/-- x[l:] -/
theorem wpList_slice_l (hw : Region.wanted o (yielded ops a.tmps) = true) (t : TypeId) (x lo : Operand) (ho : o.op = .slice t x (some lo) none none)
    {e : TypeId} {size bytes : Nat} (E : ElemT P t e size bytes) (v : Value) (n : Nat) (xs : List Value) (kl : IntKind) (L : Int) (l : Nat) (hx : a.eval x = v) (hl : a.eval lo = .int kl L) (hr : Rd w size v n xs)
    (hL : L = (l : Int)) (h1 : l ≤ n)
    (hk : ∀ ad c, Rd w size (.slice ad (n - l) c) (n - l) (xs.drop (l * size)) → (∀ k, blk (.slice ad (n - l) c) k → blk v k) → wpList P ops Q rest (a.put o.dst (.slice ad (n - l) c)) w) : wpList P ops Q (o :: rest) a w := by
  refine wpList_step fun K hK => ?_
  rw [if_pos hw]
  obtain ⟨h0, ad, cap, rfl, hnc, hcm, hc⟩ := id hr
  subst hL
  have ee : P.elem t = e := by simp [Program.elem, E.und]
  have hrun := run_slice_l (P := P) w t ad n cap (elem_of E.und) kl (l : Int) (by omega) (by omega)
  rw [ee, run_sizeOf E] at hrun
  simp only [Result.andThen_ok, Int.toNat_natCast] at hrun
  unfold Oper.wp execOp
  simp only [ho, hx, hl, Option.map_some, Option.map_none, run_sliceAt_slice (P := P) w t _ _ _ _ (elem_of E.und), hrun, Sem.run_bind, Sem.run_pure, Result.andThen_ok]
  have hrd := Rd.sliced hr l n h1 (Nat.le_refl _)
  rw [List.take_of_length_le (by rw [List.length_drop, h0, ← Nat.sub_mul]; exact Nat.le_refl _)] at hrd
  exact hK _ _ (hk _ _ hrd (fun k hb => blk_sliced hb))
/-- x[:h] -/
theorem wpList_slice_h (hw : Region.wanted o (yielded ops a.tmps) = true) (t : TypeId) (x hi : Operand) (ho : o.op = .slice t x none (some hi) none)
    {e : TypeId} {size bytes : Nat} (E : ElemT P t e size bytes) (v : Value) (n : Nat) (xs : List Value) (kh : IntKind) (H : Int) (h : Nat) (hx : a.eval x = v) (hh : a.eval hi = .int kh H) (hr : Rd w size v n xs)
    (hH : H = (h : Int)) (h2 : h ≤ n)
    (hk : ∀ ad c, Rd w size (.slice ad h c) h (xs.take (h * size)) → (∀ k, blk (.slice ad h c) k → blk v k) → wpList P ops Q rest (a.put o.dst (.slice ad h c)) w) : wpList P ops Q (o :: rest) a w := by
  refine wpList_step fun K hK => ?_
  rw [if_pos hw]
  obtain ⟨h0, ad, cap, rfl, hnc, hcm, hc⟩ := id hr
  subst hH
  have ee : P.elem t = e := by simp [Program.elem, E.und]
  have hrun := run_slice_h (P := P) w t ad n cap (elem_of E.und) kh (h : Int) (by omega) (by omega)
  rw [ee, run_sizeOf E] at hrun
  simp only [Result.andThen_ok, Int.toNat_natCast] at hrun
  unfold Oper.wp execOp
  simp only [ho, hx, hh, Option.map_some, Option.map_none, run_sliceAt_slice (P := P) w t _ _ _ _ (elem_of E.und), hrun, Sem.run_bind, Sem.run_pure, Result.andThen_ok]
  have hrd := Rd.sliced hr 0 h (Nat.zero_le _) h2
  simp only [Nat.zero_mul, List.drop_zero, Nat.sub_zero] at hrd
  refine hK _ _ (hk _ _ hrd (fun k hb => blk_sliced hb))
end
theorem RdB.of_drop {w : World} {v : Value} {n : Nat} {l : List UInt8} (h : Rd w 1 v (l.length - n) ((l.map bv).drop (n * 1))) : RdB w v (l.drop n) := by
  unfold RdB; rw [List.length_drop, List.map_drop]; rw [Nat.mul_one] at h; exact h
theorem RdB.of_take {w : World} {v : Value} {n : Nat} {l : List UInt8} (hn : n ≤ l.length) (h : Rd w 1 v n ((l.map bv).take (n * 1))) : RdB w v (l.take n) := by
  unfold RdB; rw [List.length_take, List.map_take, Nat.min_eq_left hn]; rw [Nat.mul_one] at h; exact h
theorem RdB.of_mid {w : World} {v : Value} {m n : Nat} {l : List UInt8} (hn : n ≤ l.length) (h : Rd w 1 v (n - m) (((l.map bv).drop (m * 1)).take ((n - m) * 1))) : RdB w v ((l.drop m).take (n - m)) := by
  unfold RdB; rw [List.length_take, List.length_drop, List.map_take, List.map_drop, Nat.min_eq_left (by omega)]; simpa using h
end Go.Lw
