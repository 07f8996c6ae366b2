/- A map from uint32 to int in which each key has 1: over any program. -/
import Derived.Test.YtbmfnepbdfnlaaaIter
import Derived.Maps.OwnIn
import Derived.Maps.OwnSet
import Derived.Sort.QuietIn
import Derived.Sort.LoopGhostIn
import Derived.Sort.CutIn
namespace Go.Lw
open Go Go.RowKit
/-- Block b is a map that has 1 at each key of L, and no other key. -/
def IMap (P : Program) (K E : TypeId) (w : World) (b : Nat) (L : List Nat) : Prop :=
  ∃ (D : DataW Unit) (n : Nat), w.ownsMap P K (plainElem P E) b n D ∧ n ≤ L.length ∧ Maps.size D = L.length ∧ (∀ k : Nat, k ∈ L → D.atKey (.int .u32 (k : Int)) (.lit (.int .i64 0)) = .lit (.int .i64 1)) ∧ (∀ k : Nat, k ∉ L → Maps.has D (.int .u32 (k : Int)) = false)
theorem IMap.made (P : Program) (K E : TypeId) (w : World) : IMap P K E (w.alloc (.map #[] 0)) w.heap.size [] :=
  ⟨_, 0, World.ownsMap_made w P K _, Nat.le_refl _, rfl, fun k h => by simp at h, fun k _ => rfl⟩
theorem IMap.of_heap {P : Program} {K E : TypeId} {w w' : World} {b : Nat} {L : List Nat} (h : IMap P K E w b L) (hb : w'.heap[b]? = w.heap[b]?) : IMap P K E w' b L := by
  obtain ⟨D, n, ⟨es, clock, h1, h2⟩, r⟩ := h
  exact ⟨D, n, ⟨es, clock, hb.trans h1, h2⟩, r⟩
theorem IMap.lt {P : Program} {K E : TypeId} {w : World} {b : Nat} {L : List Nat} (h : IMap P K E w b L) : b < w.heap.size := by
  obtain ⟨D, n, h1, _⟩ := h
  exact h1.lt
theorem IMap.kept {P : Program} {K E : TypeId} {S : Nat → Prop} {w w' : World} {b : Nat} {L : List Nat} (h : IMap P K E w b L) (hk : Kept S w w') (hb : ¬ S b) : IMap P K E w' b L :=
  h.of_heap (hk.block b h.lt hb)
theorem u32_wf {k : Nat} (h : k < 4294967296) : (Lit.int .u32 (k : Int)).wf = true := WalkArith.wf_u32 (by omega)
section
variable {P : Program} {K E T : TypeId} {w : World} {b : Nat} {L : List Nat}
theorem IMap.look (h : IMap P K E w b L) (hK : P.underlying K = some (.int .u32)) (hE : P.underlying E = some (.int .i64)) (hT : P.underlying T = some (.map K E)) (hz : (zeroValue E).run P w = .ok (.int .i64 0) w) {k : Nat} (hk : k < 4294967296) :
    (Instr.lookup T (.map (some b)) (.int .u32 (k : Int)) false).run P w = .ok (.int .i64 (if k ∈ L then 1 else 0)) w := by
  obtain ⟨D, n, h1, h2, h3, h4, h5⟩ := h
  obtain ⟨c, hrun, hat, _⟩ := h1.lookup_int (Maps.int_keyed hK) hT hE hz (Maps.keyOf_int_mk hK (u32_wf hk))
  rw [hrun]
  by_cases e : k ∈ L
  · rw [h4 k e] at hat
    cases hat
    rw [if_pos e]
  · rw [Maps.atKey_of_not_has (h5 k e)] at hat
    cases hat
    rw [if_neg e]
theorem IMap.store (h : IMap P K E w b L) (hK : P.underlying K = some (.int .u32)) (hE : P.underlying E = some (.int .i64)) (hT : P.underlying T = some (.map K E)) {k : Nat} (hk : k < 4294967296) (hkL : k ∉ L) (hL : L.length < maxLen) :
    ∃ w', (Instr.mapUpdate T (.map (some b)) (.int .u32 (k : Int)) (.int .i64 1)).run P w = .ok () w' ∧ IMap P K E w' b (L ++ [k]) ∧ w.grownBy w' (some b) := by
  obtain ⟨D, n, h1, h2, h3, h4, h5⟩ := h
  have hkey := Maps.keyOf_int_mk hK (u32_wf hk)
  obtain ⟨w', hrun, r1, r2⟩ := h1.update (Maps.int_keyed hK) hT (by omega) hkey (plainElem_int hE (WalkArith.wf_i64 (n := 1) (by decide)))
  have hkl : WideAt.IsKeyLit (.int .u32 (k : Int)) := (Maps.int_keyed hK).key hkey
  refine ⟨w', hrun, ⟨_, _, r1, by simp; omega, ?_, fun j hj => ?_, fun j hj => ?_⟩, r2⟩
  · rw [Maps.size_put (h1.tidy (Maps.int_keyed hK)), h5 k hkL, h3]; simp
  · rcases List.mem_append.1 hj with hj | hj
    · rw [Maps.atKey_put_other (by intro e; cases e; exact hkL hj), h4 j hj]
    · rw [List.mem_singleton.1 hj, Maps.atKey_put_same h1.isMap hkl]
  · have h6 : j ∉ L := fun h => hj (List.mem_append_left _ h)
    rw [Maps.has_put_other (by intro e; cases e; exact hj (by simp)), h5 j h6]
theorem IMap.len (h : IMap P K E w b L) (hT : P.underlying T = some (.map K E)) (ty : TypeId) : (Builtin.len_ #[T] ty #[.map (some b)]).run P w = .ok (.int .i64 (L.length : Int)) w := by
  obtain ⟨D, n, h1, h2, h3, _⟩ := h
  rw [h1.len hT ty, h3]
variable {ops : Array Oper} {rest : List Oper} {o : Oper} {a : Act} {Q : Exit → Act → World → Prop} {F : Fence} {nF : Nat}
/-- 'm[k]' within a range's round. -/
theorem wpListIn_ilook (hg : o.guard = none) (m x : Operand) (hop : o.op = Op.lookup T m x false) (hK : P.underlying K = some (.int .u32)) (hE : P.underlying E = some (.int .i64)) (hT : P.underlying T = some (.map K E)) (hz : (zeroValue E).run P w = .ok (.int .i64 0) w)
    (hm : a.eval m = .map (some b)) (h : IMap P K E w b L) (k : Nat) (hx : a.eval x = .int .u32 (k : Int)) (hk : k < 4294967296) (hkL : k ∉ L)
    (hQ : wpListIn F nF P ops Q rest (a.put o.dst (.int .i64 0)) w) : wpListIn F nF P ops Q (o :: rest) a w := by
  refine wpListIn_plain hg fun K' hK' => ?_
  have hrun := h.look (T := T) hK hE hT hz hk
  rw [if_neg hkL] at hrun
  unfold Oper.wpIn
  refine ⟨by simp [Oper.about, hop], ?_⟩
  rw [Oper.semAt_plain F _ _ (by rw [hop]; intro c hc'; cases hc')]
  simp [execOp, hop, hm, hx, hrun, Result.andThen]
  exact hK' _ _ hQ
/-- 'm[k] = 1' within a range's round. -/
theorem wpListIn_istore (hg : o.guard = none) (m x v : Operand) (hop : o.op = Op.mapUpdate T m x v) (hK : P.underlying K = some (.int .u32)) (hE : P.underlying E = some (.int .i64)) (hT : P.underlying T = some (.map K E))
    (hm : a.eval m = .map (some b)) (h : IMap P K E w b L) (k : Nat) (hx : a.eval x = .int .u32 (k : Int)) (hv : a.eval v = .int .i64 1) (hk : k < 4294967296) (hkL : k ∉ L) (hL : L.length < maxLen)
    (hQ : ∀ w', IMap P K E w' b (L ++ [k]) → w.grownBy w' (some b) → wpListIn F nF P ops Q rest (a.put o.dst undef) w') : wpListIn F nF P ops Q (o :: rest) a w := by
  refine wpListIn_plain hg fun K' hK' => ?_
  obtain ⟨w', hrun, r1, r2⟩ := h.store (T := T) hK hE hT hk hkL hL
  unfold Oper.wpIn
  refine ⟨by simp [Oper.about, hop], ?_⟩
  rw [Oper.semAt_plain F _ _ (by rw [hop]; intro c hc'; cases hc')]
  simp [execOp, hop, hm, hx, hv, hrun, Result.andThen]
  exact hK' _ _ (hQ w' r1 r2)
end
end Go.Lw
