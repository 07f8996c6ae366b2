/- copy into an own row; a part of an own row. Over any program. -/
import Derived.Test.YtoedopgjonhemaaGreatDoorSlice
import Derived.Laws.CopyOwn
namespace Go.Lw
open Go Go.RowKit
section
variable {P : Program} {w : World} {ops : Array Oper} {rest : List Oper} {o : Oper} {a : Act} {Q : Exit → Act → World → Prop}
/-- x[l:] of an own row of one-cell elements. -/
theorem wpList_slice_own (hw : Region.wanted o (yielded ops a.tmps) = true) (t : TypeId) (x lo : Operand) (ho : o.op = .slice t x (some lo) none none)
    {e : TypeId} {bytes : Nat} (E : ElemT P t e 1 bytes) (v : Value) (n : Nat) (xs : List Value) (kl : IntKind) (L : Int) (l : Nat) (hx : a.eval x = v) (hl : a.eval lo = .int kl L) (hr : w.ownsRow 0 e 1 v n xs)
    (hL : L = (l : Int)) (h1 : l ≤ n)
    (hk : ∀ ad c, (l < n → ∃ g, ad = some ⟨g, l, none⟩ ∧ v.ownBlock = some g) → wpList P ops Q rest (a.put o.dst (.slice ad (n - l) c)) w) : wpList P ops Q (o :: rest) a w := by
  refine wpList_step fun K hK => ?_
  rw [if_pos hw]
  obtain ⟨ad, cap, rfl, hnc, hcm, hg⟩ := own_slice hr
  subst hL
  have ee : P.elem t = e := by simp [Program.elem, E.und]
  have hrun := run_slice_l (P := P) w t ad n cap (elem_of E.und) kl (l : Int) (by omega) (by omega)
  rw [ee, run_sizeOf E] at hrun
  simp only [Result.andThen_ok, Int.toNat_natCast] at hrun
  unfold Oper.wp execOp
  simp only [ho, hx, hl, Option.map_some, Option.map_none, run_sliceAt_slice (P := P) w t _ _ _ _ (elem_of E.und), hrun, Sem.run_bind, Sem.run_pure, Result.andThen_ok]
  unfold Go.sliced
  refine hK _ _ (hk _ _ (fun hlt => ?_))
  obtain ⟨g, rfl⟩ := hg (by omega)
  refine ⟨g, ?_, rfl⟩
  have hne : cap ≠ l := by omega
  rw [if_neg hne]
  by_cases h0 : l = 0
  · subst h0; simp [Addr.add]
  · simp [Addr.add, h0]
/-- copy into a part of an own row of one-cell elements: as many cells as there are. -/
theorem wpList_copy (hgd : o.guard = none) (d s : Operand) (dT sT : TypeId) (ho : o.op = .call { callee := .builtin .copy, args := #[d, s], argTypes := #[dT, sT] })
    {e : TypeId} {bytes : Nat} (E : ElemT P dT e 1 bytes) (v : Value) (n : Nat) (xs : List Value) (hr : w.ownsRow 0 e 1 v n xs) (l : Nat) (ad : Option Addr) (c : Nat) (hd : a.eval d = .slice ad (n - l) c)
    (hp : l < n → ∃ g, ad = some ⟨g, l, none⟩ ∧ v.ownBlock = some g) (y : Value) (m : Nat) (news : List Value) (hy : a.eval s = y) (hs : Rd w 1 y m news) (h1 : ∀ u ∈ news, u.oneCell' = true) (hfit : l + m ≤ n)
    (h : ∀ w', w'.ownsRow 0 e 1 v n (xs.take l ++ (news ++ xs.drop (l + m))) → w.grownBy w' v.ownBlock → wpList P ops Q rest (a.put o.dst (goInt m)) w') : wpList P ops Q (o :: rest) a w := by
  obtain ⟨i, z, hi, _, hsz, _⟩ := E.info
  have hsize : (P.info? e).map (·.size) = some 1 := by rw [hi]; simp [hsz]
  obtain ⟨hl, sp, sc, rfl, hmc, _, hcell⟩ := hs
  rw [Nat.mul_one] at hl
  by_cases hm : m = 0
  · subst hm
    obtain rfl : news = [] := List.eq_nil_of_length_eq_zero hl
    exact wpList_copy_nothing hgd d s dT sT ho e E.und hsize _ _ _ _ _ _ hd hy (by simp) (h w (by simpa using hr) (World.grownBy.refl w _))
  · obtain ⟨g, rfl, hg⟩ := hp (by omega)
    obtain ⟨g0, off0, rfl, _⟩ := hcell 0 _ (List.getElem?_eq_getElem (by omega))
    have hsrc : ∀ j u, news[j]? = some u → w.cell? ((⟨g0, off0, none⟩ : Addr).add j) = some u := by
      intro j u hj
      obtain ⟨g', off, e', hc⟩ := hcell j u hj
      cases e'
      have e' : ((⟨g0, off0, none⟩ : Addr).add j) = ⟨g0, off0 + j, none⟩ := by unfold Addr.add; split <;> simp_all
      rw [e']; exact hc
    obtain ⟨hxl, hor⟩ := hr
    rw [Nat.mul_one] at hxl
    rcases hor with ⟨rfl, rfl⟩ | ⟨g1, cap, cur, rfl, hb, hgc, hnc, hcm, hcs, htk⟩
    · omega
    · have : g1 = g := by simpa [Value.ownBlock] using hg
      subst this
      rw [Nat.mul_one] at hcs htk
      refine wpList_copy_own hgd d s dT sT ho e E.und hsize g1 l (n - l) c ⟨g0, off0, none⟩ m sc hd hy cur e hgc news (by rw [hl]; exact (Nat.min_eq_left (by omega)).symm) hsrc (by rw [hl, hcs]; omega) h1 ?_
      rw [hl]
      refine h _ ⟨?_, .inr ⟨g1, cap, (cur.toList.take l ++ (news ++ cur.toList.drop (l + m))).toArray, rfl, hb, setRow_heap w g1 _ _ e _ hgc, hnc, hcm, ?_, ?_⟩⟩ ⟨rfl, rfl, rfl, by simp [World.setRow], fun k _ hk => setRow_other w g1 k _ (fun e => hk (by rw [e]; rfl))⟩
      · simp; omega
      · simp; omega
      · subst htk
        simp only [Nat.mul_one]
        have hcl : cur.toList.length = cap := by simpa using hcs
        rw [List.take_append, List.take_append, List.length_take, hcl, hl, Nat.min_eq_left (by omega : l ≤ cap)]
        rw [List.take_of_length_le (by rw [List.length_take]; omega : (cur.toList.take l).length ≤ n), List.take_of_length_le (by omega : news.length ≤ n - l), List.take_take, Nat.min_eq_left (by omega : l ≤ n), List.drop_take]
        congr 3
        omega
end
end Go.Lw
