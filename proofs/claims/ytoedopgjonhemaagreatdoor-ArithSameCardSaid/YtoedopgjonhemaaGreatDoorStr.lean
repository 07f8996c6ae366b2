/- Strings as lists of bytes, over any program. -/
import Derived.Test.YtoedopgjonhemaaGreatDoorLib
import Derived.RegionTactic
import Derived.Deep.QuietTactic
import Derived.BigQuiet
import Derived.Laws.Tables
import Derived.Laws.CopyRow
namespace Go.Lw
open Go Go.RowKit
/-- A list of bytes as a string. -/
def BA (l : List UInt8) : ByteArray := ⟨l.toArray⟩
theorem BA_of (s : ByteArray) : s = BA s.data.toList := by unfold BA; cases s; simp
theorem BA_size (l : List UInt8) : (BA l).size = l.length := by unfold BA; simp [ByteArray.size]
theorem BA_list (l : List UInt8) : (BA l).data.toList = l := rfl
theorem BA_inj {a b : List UInt8} (h : BA a = BA b) : a = b := by
  have := congrArg (fun s => s.data.toList) h
  simpa [BA_list] using this
theorem BA_get {l : List UInt8} {k : Nat} {c : UInt8} (h : l[k]? = some c) : ∀ hk, (BA l)[k]'hk = c := by
  intro hk
  have hl : k < l.length := by rw [BA_size] at hk; exact hk
  rw [List.getElem?_eq_getElem hl] at h
  have := Option.some.inj h
  rw [← this]; rfl
theorem BA_extract (l : List UInt8) (a b : Nat) : (BA l).extract a b = BA ((l.take b).drop a) := by
  apply ByteArray.ext
  show ((BA l).extract a b).data = _
  rw [ByteArray.data_extract]
  unfold BA
  apply Array.ext'
  simp [List.drop_take]
theorem BA_tail (l : List UInt8) (k n : Nat) (hn : n = l.length) : (BA l).extract k n = BA (l.drop k) := by
  rw [BA_extract, hn, List.take_length]
theorem BA_head (l : List UInt8) (n : Nat) : (BA l).extract 0 n = BA (l.take n) := by
  rw [BA_extract, List.drop_zero]
theorem BA_append (a b : List UInt8) : BA a ++ BA b = BA (a ++ b) := by
  apply ByteArray.ext
  show (BA a ++ BA b).data = _
  rw [ByteArray.data_append]
  unfold BA
  simp
theorem BA_beq (a b : List UInt8) : (BA a == BA b) = (a == b) := by
  show (a.toArray == b.toArray) = (a == b)
  simp
theorem BA_toList (l : List UInt8) : (BA l).toList = l := by rw [ByteArray.toList_eq]; rfl
theorem BA_nil : BA [] = ⟨#[]⟩ := rfl
theorem BA_ne_nil {l : List UInt8} (h : l ≠ []) : (BA l == (⟨#[]⟩ : ByteArray)) = false := by
  rw [← BA_nil, BA_beq]
  cases l <;> simp_all
/-- A whole row stored where it lies already. -/
theorem store_own_row {P : Program} (w : World) (Z : Array Value) (T : TypeId) (g : Nat) (hg : g = w.heap.size) (h1 : ∀ v ∈ Z.toList, v.oneCell' = true) : (storeCells ⟨g, 0, none⟩ Z.toList).run P (w.alloc (.cells Z T)) = .ok () (w.alloc (.cells Z T)) := by
  subst hg
  have hb := heap_alloc w (.cells Z T)
  have h := run_storeCells_from (P := P) w.heap.size T Z.toList 0 Z (w.alloc (.cells Z T)) hb (by simp) h1
  rw [h]
  simp only [List.take_zero, List.nil_append, Array.toArray_toList]
  rw [setRow_self _ _ _ _ _ hb]
/-- 'string(b)' of bytes, as a list. -/
theorem wpList_strBA {P : Program} {w : World} {ops : Array Oper} {rest : List Oper} {o : Oper} {a : Act} {Q : Exit → Act → World → Prop} (hw : Region.wanted o (yielded ops a.tmps) = true) (src dst : TypeId) (x : Operand)
    (ho : o.op = .convert src dst x) (v : Value) (l : List UInt8) (hx : a.eval x = v) (hr : RdB w v l) {e : TypeId} (hs : P.underlying src = some (.slice e)) (he : P.underlying e = some (.int .u8)) (hd : P.underlying dst = some .string)
    (h : wpList P ops Q rest (a.put o.dst (.string (BA l))) w) : wpList P ops Q (o :: rest) a w := wpList_str hw src dst x ho v l hx hr hs he hd h
/-- append at a step of a region that draws its order (for go_region_held3, go_region_law). -/
theorem step_app {P : Program} {w : World} {ops : Array Oper} {o : Oper} {a : Act} {K : Act → World → Prop} {Q : Exit → Act → World → Prop} {E0 : Prop} (hgd : o.guard = none) (s x : Operand) (t : TypeId)
    (ho : o.op = .call { callee := .builtin .append, args := #[s, x], argTypes := #[t, t] })
    {e : TypeId} {size bytes : Nat} (E : ElemT P t e size bytes) (v : Value) (n : Nat) (xs : List Value) (hs : a.eval s = v) (hown : w.ownsRow 0 e size v n xs)
    (y : Value) (m : Nat) (news : List Value) (hx : a.eval x = y) (hr : Rd w size y m news) (h1 : ∀ u ∈ news, u.oneCell' = true)
    (h63 : n + m ≤ maxLen) (hbytes : (n + m) * bytes ≤ 140737488355328)
    (h : ∀ ad cap w', w'.ownsRow 0 e size (.slice ad (n + m) cap) (n + m) (xs ++ news) → w.grownBy w' v.ownBlock → Fresh w v (.slice ad (n + m) cap) → K (a.put o.dst (.slice ad (n + m) cap)) w') :
    if Region.wanted o (yielded ops a.tmps) = true then Oper.wp P o a w K Q else E0 := by
  have hw : Region.wanted o (yielded ops a.tmps) = true := by simp [Region.wanted, hgd]
  rw [if_pos hw]
  obtain ⟨v', w', hrun, h2, h3, h4⟩ := run_app (P := P) w E o.type v n xs hown y m news hr h1 h63 hbytes
  obtain ⟨ad, cap, rfl⟩ : ∃ ad cap, v' = .slice ad (n + m) cap := by
    rcases h2.2 with ⟨hv, hn⟩ | ⟨g, cap, _, hv, _⟩
    · exact ⟨none, 0, by rw [hv, hn]⟩
    · exact ⟨_, _, hv⟩
  unfold Oper.wp execOp
  simp only [ho, resolve, invoke, builtin, Sem.run_bind, Sem.run_pure, Result.andThen_ok, List.map_toArray, List.map_cons, List.map_nil, hs, hx, hrun]
  exact h _ _ w' h2 h3 h4
theorem Rd.lit' (w : World) (cs : List Value) (e : TypeId) (size g n : Nat) (hg : g = w.heap.size) (hl : cs.length = n * size) (hm : n ≤ maxLen) {W : World} (hW : W.heap = (w.alloc (.cells cs.toArray e)).heap) : Rd W size (.slice (some ⟨g, 0, none⟩) n n) n cs := by
  have h := Rd.lit w cs e size g n hg hl hm
  exact h.of_cells (fun g off j u _ hc => by simpa [World.cell?, hW] using hc)
theorem kept_drewN' (w : World) (n : Nat) : Kept (fun _ => False) w (w.drewN n) := ⟨rfl, rfl, rfl, Nat.le_refl _, fun _ _ _ => rfl⟩
end Go.Lw
