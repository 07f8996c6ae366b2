/- Maps with bool keys made by the call; maps with string keys whose inserts come in any order: over any program. -/
import Derived.Test.YtoedopgjonhemaaGreatDoorMapLit
namespace Go.Lw
open Go Go.RowKit
/-! Which entries have come: a list of (operation, key, value), and the set of the operations that have come up. -/
def selD (D : Nat → Bool) (L : List (Nat × List UInt8 × Value)) : List (List UInt8 × Value) := (L.filter (fun p => D p.1)).map Prod.snd
theorem selD_none (D : Nat → Bool) (L : List (Nat × List UInt8 × Value)) (h : ∀ p ∈ L, D p.1 = false) : selD D L = [] := by
  unfold selD
  rw [List.filter_eq_nil_iff.2 (fun p hp => by rw [h p hp]; simp)]
  rfl
theorem selD_other {D D' : Nat → Bool} {L : List (Nat × List UInt8 × Value)} (h : ∀ p ∈ L, D p.1 = D' p.1) : selD D L = selD D' L := by
  unfold selD
  rw [List.filter_congr (fun p hp => h p hp)]
theorem assocS_absent : ∀ {l : List (List UInt8 × Value)} {s : List UInt8}, (∀ p ∈ l, p.1 ≠ s) → assocS l s = none
  | [], _, _ => rfl
  | p :: l, s, h => by
    unfold assocS
    rw [if_neg (h p List.mem_cons_self)]
    exact assocS_absent (fun q hq => h q (List.mem_cons_of_mem _ hq))
theorem selD_mem {D : Nat → Bool} {L : List (Nat × List UInt8 × Value)} {p : List UInt8 × Value} (h : p ∈ selD D L) : ∃ j, (j, p) ∈ L ∧ D j = true := by
  unfold selD at h
  obtain ⟨q, hq, rfl⟩ := List.mem_map.1 h
  obtain ⟨h1, h2⟩ := List.mem_filter.1 hq
  exact ⟨q.1, h1, h2⟩
/-- One more has come: the same list, but for the order. -/
theorem selD_step : ∀ {L : List (Nat × List UInt8 × Value)} {D D' : Nat → Bool} {j : Nat} {k : List UInt8} {v : Value}, (L.map (fun p => p.1)).Nodup → (L.map (fun p => p.2.1)).Nodup → (j, k, v) ∈ L → D j = false → D' j = true → (∀ i, i ≠ j → D i = D' i) →
    (∀ s, assocS ((k, v) :: selD D L) s = assocS (selD D' L) s) ∧ (selD D' L).length = (selD D L).length + 1
  | [], _, _, _, _, _, _, _, h, _, _, _ => by cases h
  | (i, k0, v0) :: L, D, D', j, k, v, n1, n2, h, hj, hj', ho => by
    rw [List.map_cons, List.nodup_cons] at n1 n2
    rcases List.mem_cons.1 h with e | h
    · cases e
      have eo : selD D L = selD D' L := selD_other fun p hp => ho _ fun e => n1.1 (List.mem_map.2 ⟨p, hp, e⟩)
      have e1 : selD D ((i, k0, v0) :: L) = selD D L := by unfold selD; rw [List.filter_cons, if_neg (by simp [hj])]
      have e2 : selD D' ((i, k0, v0) :: L) = (k0, v0) :: selD D' L := by unfold selD; rw [List.filter_cons, if_pos (by simp [hj'])]; rfl
      rw [e1, e2, eo]
      exact ⟨fun s => rfl, rfl⟩
    · obtain ⟨r1, r2⟩ := selD_step n1.2 n2.2 h hj hj' ho
      have hij : i ≠ j := fun e => n1.1 (List.mem_map.2 ⟨_, h, e.symm⟩)
      have hkk : k0 ≠ k := fun e => n2.1 (List.mem_map.2 ⟨_, h, e.symm⟩)
      cases hD : D i with
      | false =>
        have e1 : selD D ((i, k0, v0) :: L) = selD D L := by unfold selD; rw [List.filter_cons, if_neg (by simp [hD])]
        have e2 : selD D' ((i, k0, v0) :: L) = selD D' L := by unfold selD; rw [List.filter_cons, if_neg (by simp [← ho i hij, hD])]
        rw [e1, e2]; exact ⟨r1, r2⟩
      | true =>
        have e1 : selD D ((i, k0, v0) :: L) = (k0, v0) :: selD D L := by unfold selD; rw [List.filter_cons, if_pos (by simp [hD])]; rfl
        have e2 : selD D' ((i, k0, v0) :: L) = (k0, v0) :: selD D' L := by unfold selD; rw [List.filter_cons, if_pos (by simp [← ho i hij, hD])]; rfl
        rw [e1, e2]
        refine ⟨fun s => ?_, by simp [r2]⟩
        have hr := r1 s
        simp only [assocS] at hr ⊢
        by_cases hs : k = s
        · subst hs
          rw [if_pos rfl] at hr ⊢; rw [if_neg hkk]; exact hr
        · rw [if_neg hs] at hr ⊢
          by_cases h0 : k0 = s
          · rw [if_pos h0, if_pos h0]
          · rw [if_neg h0, if_neg h0]; exact hr
theorem SMap.same {W0 w : World} {P : Program} {k : TypeId} {b n : Nat} {l l' : List (List UInt8 × Value)} (h : SMap W0 w P k b n l) (e : ∀ s, assocS l s = assocS l' s) : SMap W0 w P k b n l' := by
  obtain ⟨⟨D, h1, h2⟩, h3, h4⟩ := h
  exact ⟨⟨D, h1, fun ks zd => by rw [h2, e]⟩, h3, h4⟩
theorem SMap.moreN {W0 w : World} {P : Program} {k : TypeId} {b n n' : Nat} {l : List (List UInt8 × Value)} (h : SMap W0 w P k b n l) (e : n ≤ n') : SMap W0 w P k b n' l := by
  obtain ⟨⟨D, h1, h2⟩, h3, h4⟩ := h
  exact ⟨⟨D, h1.mono e, h2⟩, h3, h4⟩
theorem SMap.grown {W0 w w' : World} {P : Program} {k : TypeId} {b n : Nat} {l : List (List UInt8 × Value)} {row : Option Nat} (h : SMap W0 w P k b n l) (hg : w.grownBy w' row) (hr : ∀ k, row = some k → W0.heap.size ≤ k) (hb : some b ≠ row) : SMap W0 w' P k b n l := by
  obtain ⟨⟨D, h1, h2⟩, h3, h4⟩ := h
  exact ⟨⟨D, h1.kept hg hb, h2⟩, h3, kept_grown h4 hg hr⟩
theorem SMap.from {W0 W1 w : World} {P : Program} {k : TypeId} {b n : Nat} {l : List (List UInt8 × Value)} (h : SMap W1 w P k b n l) (h1 : Kept (fun _ => False) W0 W1) : SMap W0 w P k b n l :=
  ⟨h.owns, Nat.le_trans h1.size h.new, h1.trans h.kept (fun _ _ h => h)⟩
/-! Maps with bool keys. -/
/-- What a map with bool keys holds: of each key, a value or none. -/
def AtB (D : DataW Value) (t f : Option Value) : Prop := ∀ (x : Bool) zd, D.atKey (.bool x) zd = ((if x then t else f).map DataW.held).getD zd
structure BMap (W0 w : World) (P : Program) (k : TypeId) (b n : Nat) (t f : Option Value) : Prop where
  owns : ∃ D : DataW Value, w.ownsMap P k RV b n D ∧ AtB D t f
  new : W0.heap.size ≤ b
  kept : Kept (fun _ => False) W0 w
theorem BMap.made (W0 w : World) (P : Program) (k : TypeId) (h : Kept (fun _ => False) W0 w) : BMap W0 (w.alloc (.map #[] 0)) P k w.heap.size 0 none none :=
  ⟨⟨_, World.ownsMap_made w P k RV, fun x _ => by cases x <;> rfl⟩, h.size, h.alloc _⟩
theorem BMap.lt {W0 w : World} {P : Program} {k : TypeId} {b n : Nat} {t f : Option Value} (h : BMap W0 w P k b n t f) : b < w.heap.size := by
  obtain ⟨⟨D, h1, h2⟩, h3, h4⟩ := h
  exact h1.lt
theorem BMap.moreN {W0 w : World} {P : Program} {k : TypeId} {b n n' : Nat} {t f : Option Value} (h : BMap W0 w P k b n t f) (e : n ≤ n') : BMap W0 w P k b n' t f := by
  obtain ⟨⟨D, h1, h2⟩, h3, h4⟩ := h
  exact ⟨⟨D, h1.mono e, h2⟩, h3, h4⟩
theorem BMap.grown {W0 w w' : World} {P : Program} {k : TypeId} {b n : Nat} {t f : Option Value} {row : Option Nat} (h : BMap W0 w P k b n t f) (hg : w.grownBy w' row) (hr : ∀ k, row = some k → W0.heap.size ≤ k) (hb : some b ≠ row) : BMap W0 w' P k b n t f := by
  obtain ⟨⟨D, h1, h2⟩, h3, h4⟩ := h
  exact ⟨⟨D, h1.kept hg hb, h2⟩, h3, kept_grown h4 hg hr⟩
theorem BMap.look {W0 w : World} {P : Program} {T K E : TypeId} {b n : Nat} {t f : Option Value} (h : BMap W0 w P K b n t f) (hK : P.underlying K = some .bool) (hT : P.underlying T = some (.map K E)) {z : Value} (hz : (zeroValue E).run P w = .ok z w) (x : Bool) (v : Value) (hv : (if x then t else f) = some v) :
    (Instr.lookup T (.map (some b)) (.bool x) false).run P w = .ok v w := by
  obtain ⟨⟨D, h1, h2⟩, h3, h4⟩ := h
  obtain ⟨u, ps, hrun, hu⟩ := h1.lookup (Maps.bool_keyed hK) hT hz (zd := .held z) (zp := []) rfl (Maps.keyOf_bool_mk hK x)
  rw [h2, hv] at hu
  cases hu
  exact hrun
section
variable {P : Program} {w : World} {ops : Array Oper} {rest : List Oper} {o : Oper} {a : Act} {Q : Exit → Act → World → Prop}
theorem wpList_insert_bool {W0 : World} (hg : o.guard = none) (m x v : Operand) (t : TypeId) (hop : o.op = Op.insert t m x v)
    (k e : TypeId) (hk : P.underlying k = some .bool) (ht : P.underlying t = some (.map k e)) (b n : Nat) (tv fv : Option Value)
    (hm : a.eval m = .map (some b)) (hown : BMap W0 w P k b n tv fv) (hn : n < maxLen) (s : Bool) (hx : a.eval x = .bool s) (val : Value) (hv : a.eval v = val)
    (h : ∀ w', BMap W0 w' P k b (n + 1) (if s then some val else tv) (if s then fv else some val) → w.grownBy w' (some b) → wpList P ops Q rest (a.put o.dst undef) w') : wpList P ops Q (o :: rest) a w := by
  refine wpList_plain hg fun K' hK' => ?_
  obtain ⟨⟨D, h1, h2⟩, h3, h4⟩ := hown
  have hkey := Maps.keyOf_bool_mk hk s
  obtain ⟨w', hrun, r1, r2⟩ := h1.update (Maps.bool_keyed hk) ht hn hkey (val := val) rfl
  have hkl : WideAt.IsKeyLit (.bool s) := (Maps.bool_keyed hk).key hkey
  have hat : AtB (D.put (.bool s) (.held val)) (if s then some val else tv) (if s then fv else some val) := fun y zd => by
    by_cases hks : y = s
    · subst hks
      rw [Maps.atKey_put_same (isMap_of h1) hkl]
      cases y <;> rfl
    · rw [Maps.atKey_put_other (by intro e; cases e; exact hks rfl), h2]
      cases y <;> cases s <;> first | rfl | exact (hks rfl).elim
  have hfin := hK' _ _ (h w' ⟨⟨_, r1, hat⟩, h3, kept_grown h4 r2 (fun k hk => by cases hk; exact h3)⟩ r2)
  unfold Oper.wp
  simp [execOp, hop, hm, hx, hv, hrun, Result.andThen]; exact hfin
end
end Go.Lw
