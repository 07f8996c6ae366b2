/- append(s, make([]byte, n)...): zeros appended. Over any program. -/
import Derived.Test.YtfmebmaklakckaaDoorLib
namespace Go.Lw
set_option linter.unusedSimpArgs false
open Go Go.RowKit
section
variable {P : Program}
def zeroStr (m : Nat) : ByteArray := ⟨(List.replicate m 0).toArray⟩
theorem zeroStr_size (m : Nat) : (zeroStr m).size = m := by show (List.replicate m (0 : UInt8)).toArray.size = m; simp
theorem z1 (m : Nat) : List.take m (List.map (fun b => Value.int .u8 (b.toNat : Int)) (zeroStr m).data.toList) = List.replicate m (.int .u8 0) := by simp [zeroStr]
theorem z2 (m : Nat) : (Builtin.zeroCells (Value.int .u8 0).cells m) = (List.replicate m (Value.int .u8 0)).toArray := by
  apply Array.ext
  · simp [Builtin.zeroCells, Value.cells]
  · intro i h1 h2
    simp [Builtin.zeroCells, Value.cells, Nat.mod_one]
theorem z3 (m : Nat) : (Array.map (fun b => Value.int .u8 (b.toNat : Int)) (zeroStr m).data).extract 0 m = (List.replicate m (Value.int .u8 0)).toArray := by
  apply Array.ext'
  simp [zeroStr]
theorem run_append_zeros (w : World) {t u ti e : TypeId} {i : TypeInfo} (ht : P.underlying t = some (.slice e)) (hu : P.underlying u = some .string) (hti : P.underlying ti = some (.int .i64)) (hi : P.info? e = some i) (hz : i.zero = some (.int .u8 0)) (hsize : i.size = 1) (hby : i.bytes = 1) (ty : TypeId)
    (b : Option Addr) (n c m : Nat) (hb : n + m ≤ 140737488355328) :
    (Builtin.append_ #[t, ti] ty #[.slice b n c, .int .i64 (m : Int)]).run P w = (Builtin.append_ #[t, u] ty #[.slice b n c, .string (zeroStr m)]).run P w := by
  have hw : IntKind.i64.wrap (m : Int) = (m : Int) := by rw [IntKind.wrap_i64]; omega
  have hl : ¬ (m : Int) < 0 := by omega
  have hl2 : ¬ ((281474976710656 : Int) < (m : Int)) := by omega
  have h63' : ¬ (9223372036854775807 < ((n : Int) + (m : Int))) := by omega
  have ha : ∀ w, Sem.run P (asIntOf (.int .i64 (m : Int))) w = .ok (.i64, (m : Int)) w := fun _ => rfl
  by_cases hn : n + m ≤ c
  · simp [Builtin.append_, run_underlying ht, run_underlying hu, run_underlying hti, sizeOf, typeInfo, zeroValue, hi, hz, Builtin.lenOf, hn, asInt, ha, hw, hl, hl2, hby, hsize, zeroStr_size, Builtin.firstCells]
    rw [z1, z2]
    split
    · subst m; rfl
    · rfl
  · have h48 : ¬ (281474976710656 < Builtin.nextslicecap (n + m) c * i.bytes) := by
      have := growslice_fits (need := n + m) (old := c) (bytes := i.bytes) (by omega) (by rw [hby]; omega)
      omega
    rw [hby, Nat.mul_one] at h48
    simp [Builtin.append_, run_underlying ht, run_underlying hu, run_underlying hti, sizeOf, typeInfo, zeroValue, hi, hz, Builtin.lenOf, hn, h63', h48, Question.forced, newRow, asInt, ha, hw, hl, hl2, hby, hsize, zeroStr_size, Builtin.firstCells]
    congr 1
    funext a w'
    simp only [z3, z2]
    split
    · subst m; simp
    · rfl
/-- append of zeros. -/
theorem wpList_appz {w : World} {ops : Array Oper} {rest : List Oper} {o : Oper} {a : Act} {Q : Exit → Act → World → Prop} (hw : Region.wanted o (yielded ops a.tmps) = true) (sl x : Operand) (t ti : TypeId)
    (ho : o.op = .call { callee := .builtin .append, args := #[sl, x], argTypes := #[t, ti] })
    {e u : TypeId} {i : TypeInfo} (ht : P.underlying t = some (.slice e)) (hu : P.underlying u = some .string) (hti : P.underlying ti = some (.int .i64)) (hi : P.info? e = some i) (hz : i.zero = some (.int .u8 0)) (hsize : i.size = 1) (hby : i.bytes = 1)
    (v : Value) (n : Nat) (xs : List Value) (hs : a.eval sl = v) (hown : w.ownsRow 0 e 1 v n xs) (m : Nat) (hx : a.eval x = .int .i64 (m : Int)) (hbytes : n + m ≤ 140737488355328)
    (h : ∀ ad cap w', w'.ownsRow 0 e 1 (.slice ad (n + m) cap) (n + m) (xs ++ List.replicate m (.int .u8 0)) → w.grownBy w' v.ownBlock → Fresh w v (.slice ad (n + m) cap) → wpList P ops Q rest (a.put o.dst (.slice ad (n + m) cap)) w') : wpList P ops Q (o :: rest) a w := by
  refine wpList_step fun K hK => ?_
  rw [if_pos hw]
  obtain ⟨v', w', hrun, h2, h3, h4⟩ := run_apps (P := P) w ht hu hi hz hsize hby o.type v n xs hown (zeroStr m) (by rw [zeroStr_size]; exact hbytes)
  obtain ⟨b, c, rfl, _, _, _⟩ := own_slice hown
  rw [← run_append_zeros w ht hu hti hi hz hsize hby o.type b n c m hbytes] at hrun
  have hz0 : (zeroStr m).data.toList.map bv = List.replicate m (.int .u8 0) := by simp [zeroStr, bv]
  rw [zeroStr_size, hz0] at h2
  obtain ⟨ad, cap, rfl, _, _, _⟩ := own_slice h2
  unfold Oper.wp execOp
  simp only [ho, resolve, invoke, builtin, Sem.run_bind, Sem.run_pure, Result.andThen_ok, List.map_toArray, List.map_cons, List.map_nil, hs, hx, hrun]
  exact hK _ _ (h _ _ w' h2 h3 h4)
end
end Go.Lw
