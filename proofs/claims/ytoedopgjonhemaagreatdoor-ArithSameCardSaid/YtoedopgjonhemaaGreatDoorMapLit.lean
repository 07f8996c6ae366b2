/- Maps with string keys that the call makes out of a literal, and ranges over: over any program. -/
import Derived.Test.YtoedopgjonhemaaGreatDoorStr
import Derived.Maps.RangeWalk
import Derived.Maps.Views
import Derived.Maps.OwnSet
namespace Go.Lw
open Go Go.RowKit
/-- How an element reads: as itself. -/
def RV (v : Value) : Option (DataW Value × List MemPlace) := some (.held v, [])
def assocS : List (List UInt8 × Value) → List UInt8 → Option Value
  | [], _ => none
  | p :: l, s => if p.1 = s then some p.2 else assocS l s
theorem assocS_mem : ∀ {l : List (List UInt8 × Value)} {s : List UInt8} {v : Value}, assocS l s = some v → (s, v) ∈ l
  | [], s, v, h => by cases h
  | p :: l, s, v, h => by
    unfold assocS at h
    split at h
    · rename_i e
      cases h
      subst e
      exact List.mem_cons_self
    · exact List.mem_cons_of_mem _ (assocS_mem h)
/-- What the datum holds: what the list says. -/
def AtL (D : DataW Value) (l : List (List UInt8 × Value)) : Prop := ∀ ks zd, D.atKey (.string ks) zd = ((assocS l ks).map DataW.held).getD zd
theorem AtL.found {D : DataW Value} {l : List (List UInt8 × Value)} (h : AtL D l) {ks : List UInt8} {v : Value} (hv : ∀ zd, D.atKey (.string ks) zd = .held v) : assocS l ks = some v := by
  have h1 := (h ks .nil).symm.trans (hv .nil)
  cases e : assocS l ks with
  | none => rw [e] at h1; cases h1
  | some u => rw [e] at h1; cases h1; rfl
/-- Block b, new since W0, is a map with string keys that holds what the list says; below W0 nothing has turned. -/
structure SMap (W0 w : World) (P : Program) (k : TypeId) (b n : Nat) (l : List (List UInt8 × Value)) : Prop where
  owns : ∃ D : DataW Value, w.ownsMap P k RV b n D ∧ AtL D l
  new : W0.heap.size ≤ b
  kept : Kept (fun _ => False) W0 w
theorem kept_grown {a w w' : World} {row : Option Nat} (h : Kept (fun _ => False) a w) (hg : w.grownBy w' row) (hr : ∀ k, row = some k → a.heap.size ≤ k) : Kept (fun _ => False) a w' :=
  h.grown hg (fun k hk hl => by have := hr k hk; omega)
theorem kept_by {w w' : World} (h : Kept (fun _ => False) w w') : w.grownBy w' none := ⟨h.os, h.tape, h.output, h.size, fun k hk _ => h.block k hk (fun h => h)⟩
theorem isMap_of {P : Program} {k : TypeId} {R : Value → Option (DataW Value × List MemPlace)} {w : World} {b n : Nat} {D : DataW Value} (h : w.ownsMap P k R b n D) : Maps.IsMap D := by
  obtain ⟨es, clock, _, _, _, hD⟩ := h
  exact ⟨_, hD⟩
theorem SMap.made (W0 w : World) (P : Program) (k : TypeId) (h : Kept (fun _ => False) W0 w) : SMap W0 (w.alloc (.map #[] 0)) P k w.heap.size 0 [] :=
  ⟨⟨_, World.ownsMap_made w P k RV, fun _ _ => rfl⟩, h.size, h.alloc _⟩
theorem SMap.keep {W0 w w' : World} {P : Program} {k : TypeId} {b n : Nat} {l : List (List UInt8 × Value)} (h : SMap W0 w P k b n l) (hk : Kept (fun _ => False) w w') : SMap W0 w' P k b n l := by
  obtain ⟨⟨D, h1, h2⟩, h3, h4⟩ := h
  exact ⟨⟨D, h1.kept (kept_by hk) (by simp), h2⟩, h3, h4.trans hk (fun _ _ h => h)⟩
theorem SMap.lt {W0 w : World} {P : Program} {k : TypeId} {b n : Nat} {l : List (List UInt8 × Value)} (h : SMap W0 w P k b n l) : b < w.heap.size := by
  obtain ⟨⟨D, h1, h2⟩, h3, h4⟩ := h
  exact h1.lt
/-- A range under way. -/
structure SRange (W0 w : World) (P : Program) (k : TypeId) (b r n : Nat) (l : List (List UInt8 × Value)) (cnt : Nat) : Prop where
  rg : ∃ D left, w.ranges P k RV b r n D left cnt ∧ AtL D l
  new : W0.heap.size ≤ b ∧ W0.heap.size ≤ r
  kept : Kept (fun _ => False) W0 w
theorem SRange.keep {W0 w w' : World} {P : Program} {k : TypeId} {b r n cnt : Nat} {l : List (List UInt8 × Value)} (h : SRange W0 w P k b r n l cnt) (hk : Kept (fun _ => False) w w') : SRange W0 w' P k b r n l cnt := by
  obtain ⟨⟨D, left, h1, h2⟩, h3, h4⟩ := h
  exact ⟨⟨D, left, h1.kept (kept_by hk) (by simp) (by simp), h2⟩, h3, h4.trans hk (fun _ _ h => h)⟩
section
variable {P : Program} {w : World} {ops : Array Oper} {rest : List Oper} {o : Oper} {a : Act} {Q : Exit → Act → World → Prop}
/-- An entry of a map literal, or a store into the map. -/
theorem wpList_insert_lit {W0 : World} (hg : o.guard = none) (m x v : Operand) (t : TypeId) (hop : o.op = Op.insert t m x v ∨ o.op = Op.mapUpdate t m x v)
    (k e : TypeId) (hk : P.underlying k = some .string) (ht : P.underlying t = some (.map k e)) (b n : Nat) (l : List (List UInt8 × Value))
    (hm : a.eval m = .map (some b)) (hown : SMap W0 w P k b n l) (hn : n < maxLen) (s : List UInt8) (hx : a.eval x = .string (BA s)) (hs : s.length ≤ maxLen) (val : Value) (hv : a.eval v = val)
    (h : ∀ w', SMap W0 w' P k b (n + 1) ((s, val) :: l) → w.grownBy w' (some b) → wpList P ops Q rest (a.put o.dst undef) w') : wpList P ops Q (o :: rest) a w := by
  refine wpList_plain hg fun K' hK' => ?_
  obtain ⟨⟨D, h1, h2⟩, h3, h4⟩ := hown
  have hkey : keyOf P k (.string (BA s)) = some (.string s) := WideMaps.keyOf_string_mk hk (by rw [BA_size]; exact hs)
  obtain ⟨w', hrun, r1, r2⟩ := h1.update (Maps.string_keyed hk) ht hn hkey (val := val) rfl
  have hkl : WideAt.IsKeyLit (.string s) := (Maps.string_keyed hk).key hkey
  have hat : AtL (D.put (.string s) (.held val)) ((s, val) :: l) := fun ks zd => by
    by_cases hks : ks = s
    · subst hks
      rw [Maps.atKey_put_same (isMap_of h1) hkl]
      simp [assocS]
    · rw [Maps.atKey_put_other (by intro e; cases e; exact hks rfl), h2]
      simp [assocS, Ne.symm hks]
  have hfin := hK' _ _ (h w' ⟨⟨_, r1, hat⟩, h3, kept_grown h4 r2 (fun k hk => by cases hk; exact h3)⟩ r2)
  unfold Oper.wp
  rcases hop with hop | hop <;> simp [execOp, hop, hm, hx, hv, hrun, Result.andThen] <;> exact hfin
theorem wpList_insert_const {W0 : World} (hg : o.guard = none) (m : Operand) (t : TypeId) (s : List UInt8) (val : Value) (hop : o.op = Op.insert t m (.const (.string (BA s))) (.const val))
    (k e : TypeId) (hk : P.underlying k = some .string) (ht : P.underlying t = some (.map k e)) (b n : Nat) (l : List (List UInt8 × Value))
    (hm : a.eval m = .map (some b)) (hown : SMap W0 w P k b n l) (hn : n < maxLen) (hs : s.length ≤ maxLen) (hd : a.put o.dst undef = a)
    (h : ∀ w', SMap W0 w' P k b (n + 1) ((s, val) :: l) → wpList P ops Q rest a w') : wpList P ops Q (o :: rest) a w :=
  wpList_insert_lit hg m _ _ t (.inl hop) k e hk ht b n l hm hown hn s rfl hs val rfl (fun w' h1 _ => by rw [hd]; exact h w' h1)
theorem wpList_range_lit {W0 : World} (hg : o.guard = none) (m : Operand) (t : TypeId) (hop : o.op = Op.range t m) (k e : TypeId) (hk : P.underlying k = some .string) (ht : P.underlying t = some (.map k e)) (b n : Nat) (l : List (List UInt8 × Value))
    (hm : a.eval m = .map (some b)) (hown : SMap W0 w P k b n l)
    (h : ∀ w' cnt, SRange W0 w' P k b w.heap.size n l cnt → Kept (fun _ => False) w w' → wpList P ops Q rest (a.put o.dst (.pointer (some ⟨w.heap.size, 0, none⟩))) w') : wpList P ops Q (o :: rest) a w := by
  obtain ⟨⟨D, h1, h2⟩, h3, h4⟩ := hown
  refine wpList_range_own w hg m t hop k e (Maps.string_keyed hk) ht RV b n D hm h1 ?_
  intro w' hr hgr _
  exact h w' _ ⟨⟨D, _, hr, h2⟩, ⟨h3, h4.size⟩, kept_grown h4 hgr (fun k hk => by cases hk)⟩ (kept_grown (Kept.refl _ _) hgr (fun k hk => by cases hk))
theorem wpList_next_lit {W0 : World} (hg : o.guard = none) (it : Operand) (hop : o.op = Op.next it false) (k : TypeId) (hk : P.underlying k = some .string) (b r n cnt : Nat) (l : List (List UInt8 × Value))
    (hit : a.eval it = .pointer (some ⟨r, 0, none⟩)) (hr : SRange W0 w P k b r n l cnt)
    (hDone : wpList P ops Q rest (a.put o.dst (.tuple #[.bool false])) w)
    (hMore : ∀ (ks : List UInt8) (v : Value) (w' : World) (cnt' : Nat), Hid (assocS l ks = some v) → SRange W0 w' P k b r n l cnt' → cnt' < cnt → Kept (fun k => k = r) w w' → (Instr.entry (.pointer (some ⟨r, 0, none⟩))).run P w' = .ok (.tuple #[.string (BA ks), v]) w' →
      wpList P ops Q rest (a.put o.dst (.tuple #[.bool true, .string (BA ks), v])) w') : wpList P ops Q (o :: rest) a w := by
  obtain ⟨⟨D, left, h1, h2⟩, h3, h4⟩ := hr
  refine wpList_next_ranges w hg it hop k (Maps.string_keyed hk) RV (fun s : List UInt8 => Value.string (BA s)) (fun v : Value => v) (fun key kl hkey => ?_) (fun v y hv => ⟨v, rfl⟩) b r n D left cnt hit h1 (fun _ _ => hDone) ?_
  · obtain ⟨s, rfl, _, _⟩ := WideMaps.string_of_keyOf hk hkey
    exact ⟨s.data.toList, by rw [← BA_of]⟩
  · intro ks v kl y w' cnt' hkey hl hy hat hr' hlt hg' hsz hen
    obtain ⟨s, hs, rfl, _⟩ := WideMaps.string_of_keyOf hk hkey
    cases hy
    have e : s.data.toList = ks := by
      cases hs; rfl
    rw [e] at hat
    exact hMore ks v w' cnt' (hid (h2.found hat)) ⟨⟨D, _, hr', h2⟩, h3, kept_grown h4 hg' (fun k hk => by cases hk; exact h3.2)⟩ hlt ⟨hg'.os, hg'.tape, hg'.output, hg'.size, fun k hk hn => hg'.block k hk (fun e => hn (by cases e; rfl))⟩ hen
end
end Go.Lw
