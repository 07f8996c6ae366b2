/- Arguments, opened: over any program. -/
import Derived.Test.YtifcgeanippepaaDoorLib
import Derived.ProofKit
import Derived.OpenShut
import Derived.Test.YtifcgeanippepaaDoorM25
namespace Go.Lw
open Go Go.RowKit Go.WideShapes Go.ChangeShapes
theorem addr_add (a : Addr) (h : a.spot = none) (i : Nat) : a.add i = ⟨a.block, a.off + i, none⟩ := by
  cases a with
  | mk b o s => subst h; unfold Addr.add; split <;> simp_all
theorem open_bytes {H : Type} {enc : TypeId × Value → H} {P : Program} {W : World} {b0 : Nat} {sp : Nat → Bool} {held : Bool} {t e : TypeId} {v : Value} {d : DataW H} {ps : List MemPlace} {base : Nat} {r : Reach}
    (ht : P.underlying t = some (.slice e)) (he : P.underlying e = some (.int .u8)) (hce : P.cellsOf e = 1) (hv : Value.okWide P W r base t v) (h : DataW.Trod enc P W b0 sp held t v d ps) : ∃ l, RdB W v l := by
  obtain ⟨a, len, cap, rfl⟩ := okWide_slice ht hv
  obtain ⟨fuel, hf⟩ := h
  rcases open_ints ht he hce hf with ⟨hcs, _⟩ | ⟨x, l, c, zs, hcs, _, hl, hm, hz, _, hcell, hwz⟩
  · simp [Value.cells] at hcs
    obtain ⟨rfl, rfl, rfl⟩ := hcs
    exact ⟨[], RdB.nil W⟩
  · simp [Value.cells] at hcs
    obtain ⟨rfl, rfl, rfl⟩ := hcs
    have hlz : len ≤ zs.length := by rw [hz]; split <;> omega
    have hlen : ((zs.take len).map fun n => UInt8.ofNat n.toNat).length = len := by simp; omega
    refine ⟨(zs.take len).map fun n => UInt8.ofNat n.toNat, ?_⟩
    unfold RdB
    rw [hlen]
    refine ⟨by simp; omega, _, cap, rfl, hl, hm, fun j u hj => ?_⟩
    rw [List.getElem?_map, List.getElem?_map, List.getElem?_take] at hj
    split at hj
    · rename_i hjl
      have hjz : j < zs.length := by omega
      rw [List.getElem?_eq_getElem hjz] at hj
      simp only [Option.map_some, Option.some.injEq] at hj
      have hc := hcell j hjz
      have hs' : x.spot = none := by
        have h0 := hcell 0 (by omega)
        have e0 : x.add 0 = x := by unfold Addr.add; rw [if_pos rfl]
        rw [e0] at h0
        exact World.cell?_spot h0
      refine ⟨x.block, x.off, by cases x; simp_all, ?_⟩
      rw [← addr_add x hs' j, hc, ← hj]
      have hw := hwz _ (List.getElem_mem hjz)
      simp only [List.getD_eq_getElem?_getD, List.getElem?_eq_getElem hjz, Option.getD_some]
      have hb : 0 ≤ zs[j] ∧ zs[j] < 256 := by
        simp [Lit.wf, IntKind.min, IntKind.max, IntKind.bits, IntKind.signed] at hw
        omega
      unfold bv
      simp only [UInt8.toNat_ofNat']
      congr 2
      omega
    · simp at hj
/-- A slice of whatever elements: what each element is gives what the slice is. -/
theorem open_slice_at {H : Type} {enc : TypeId × Value → H} {P : Program} {W : World} {b0 : Nat} {sp : Nat → Bool} {held : Bool} {t e : TypeId} {v : Value} {d : DataW H} {ps : List MemPlace} {size : Nat}
    {α : Type} (toCells : α → List Value) (Good : α → Prop)
    (ht : P.underlying t = some (.slice e)) (hce : P.cellsOf e = size) (hpos : 0 < size)
    (helem : ∀ fuel cs x, DataW.trod enc P W b0 sp held fuel e cs = some x → ∃ y, cs = toCells y ∧ (toCells y).length = size ∧ Good y)
    (hv : ∃ a len cap, v = .slice a len cap) (h : DataW.Trod enc P W b0 sp held t v d ps) : ∃ ys : List α, Rd W size v ys.length (ys.flatMap toCells) ∧ ∀ y ∈ ys, (toCells y).length = size ∧ Good y := by
  obtain ⟨a, len, cap, rfl⟩ := hv
  obtain ⟨fuel, hf⟩ := h
  rcases DataW.trod_slice ht hf with ⟨hcs, _⟩ | ⟨x, l, c, elems, rest, n, _, hcs, _, hb, hl, hm, hlen, hel, _, _⟩
  · simp [Value.cells] at hcs
    obtain ⟨rfl, rfl, rfl⟩ := hcs
    exact ⟨[], Rd.nil W size, by simp⟩
  · simp [Value.cells] at hcs
    obtain ⟨rfl, rfl, rfl⟩ := hcs
    have each : ∀ i, i < len → ∃ y, (toCells y).length = size ∧ Good y ∧ ∀ j u, (toCells y)[j]? = some u → W.cell? ((x.add (i * size)).add j) = some u := by
      intro i hi
      have h1 := hel i hi
      rw [List.getElem?_eq_getElem (by omega : i < elems.length), hce] at h1
      obtain ⟨cs, hcs, htr⟩ := Option.bind_eq_some_iff.1 h1
      obtain ⟨y, rfl, hy1, hy2⟩ := helem _ _ _ htr
      refine ⟨y, hy1, hy2, fun j u hj => ?_⟩
      have := World.cells?_some hcs
      have hjl : j < size := by
        rcases Nat.lt_or_ge j size with h | h
        · exact h
        · rw [List.getElem?_eq_none (by omega)] at hj; cases hj
      rw [this.2.2 j hjl]; exact hj
    have build : ∀ k, k ≤ len → ∃ ys : List α, ys.length = k ∧ (∀ y ∈ ys, (toCells y).length = size ∧ Good y) ∧ ∀ i y, ys[i]? = some y → ∀ j u, (toCells y)[j]? = some u → W.cell? ((x.add (i * size)).add j) = some u := by
      intro k
      induction k with
      | zero => exact fun _ => ⟨[], rfl, by simp, by simp⟩
      | succ k ih =>
        intro hk
        obtain ⟨ys, h1, h2, h3⟩ := ih (by omega)
        obtain ⟨y, hy1, hy2, hy3⟩ := each k (by omega)
        refine ⟨ys ++ [y], by simp [h1], fun z hz => ?_, fun i z hz => ?_⟩
        · rcases List.mem_append.1 hz with h | h
          · exact h2 z h
          · obtain rfl := List.mem_singleton.1 h
            exact ⟨hy1, hy2⟩
        · rw [List.getElem?_append] at hz
          split at hz
          · exact h3 i z hz
          · have : i = k := by
              rcases Nat.lt_or_ge (i - ys.length) 1 with h | h
              · omega
              · rw [List.getElem?_eq_none (by simpa using h)] at hz; cases hz
            subst this
            simp [h1] at hz
            subst hz
            exact hy3
    obtain ⟨ys, rfl, hys, hcells⟩ := build len (Nat.le_refl _)
    refine ⟨ys, ⟨?_, _, cap, rfl, hl, hm, ?_⟩, hys⟩
    · have key : ∀ zs : List α, (∀ y ∈ zs, (toCells y).length = size) → (zs.flatMap toCells).length = zs.length * size := by
        intro zs
        induction zs with
        | nil => intro _; simp
        | cons y zs ih =>
          intro hz
          rw [List.flatMap_cons, List.length_append, ih (fun z hz' => hz z (List.mem_cons_of_mem _ hz')), hz y (List.mem_cons_self ..), List.length_cons, Nat.succ_mul, Nat.add_comm]
      exact key ys fun y hy => (hys y hy).1
    · intro q u hq
      have key : ∀ (zs : List α), (∀ y ∈ zs, (toCells y).length = size) → ∀ q u, (zs.flatMap toCells)[q]? = some u → ∃ y, zs[q / size]? = some y ∧ (toCells y)[q % size]? = some u := by
        intro zs
        induction zs with
        | nil => intro _ q u h; simp at h
        | cons z zs ih =>
          intro hz q u h
          have hzl := hz z (List.mem_cons_self ..)
          rw [List.flatMap_cons, List.getElem?_append] at h
          split at h
          · rename_i hlt
            refine ⟨z, ?_, ?_⟩
            · rw [Nat.div_eq_of_lt (by omega)]; rfl
            · rw [Nat.mod_eq_of_lt (by omega)]; exact h
          · rename_i hge
            rw [hzl] at hge h
            obtain ⟨y, hy1, hy2⟩ := ih (fun y hy => hz y (List.mem_cons_of_mem _ hy)) _ _ h
            refine ⟨y, ?_, ?_⟩
            · have : q / size = (q - size) / size + 1 := by
                rw [← Nat.add_div_right _ hpos]; congr 1; omega
              rw [this]; exact hy1
            · rw [Nat.mod_eq_sub_mod (by omega)]; exact hy2
      obtain ⟨y, hy1, hy2⟩ := key ys (fun y hy => (hys y hy).1) q u hq
      have hc := hcells _ y hy1 _ u hy2
      have hlt : q / size < ys.length := by
        rcases Nat.lt_or_ge (q / size) ys.length with h | h
        · exact h
        · rw [List.getElem?_eq_none h] at hy1; cases hy1
      have hs : x.spot = none := by
        have h0 : 0 < ys.length := Nat.lt_of_le_of_lt (Nat.zero_le _) hlt
        obtain ⟨y0, hy0⟩ : ∃ y0, ys[0]? = some y0 := ⟨_, List.getElem?_eq_getElem h0⟩
        have hl0 := (hys y0 (List.mem_of_getElem? hy0)).1
        have hc0 := hcells 0 y0 hy0 0 _ (List.getElem?_eq_getElem (by omega))
        have e0 : (x.add (0 * size)).add 0 = x := by rw [Nat.zero_mul]; unfold Addr.add; simp
        rw [e0] at hc0
        exact World.cell?_spot hc0
      refine ⟨x.block, x.off, by cases x; simp_all, ?_⟩
      have e1 : (x.add (q / size * size)).add (q % size) = ⟨x.block, x.off + q, none⟩ := by
        rw [addr_add x hs, addr_add _ rfl]
        have := Nat.div_add_mod' q size
        simp only [Addr.mk.injEq, true_and, and_true]
        omega
      rw [e1] at hc
      exact hc
theorem open_slice_of {H : Type} {enc : TypeId × Value → H} {P : Program} {W : World} {b0 : Nat} {sp : Nat → Bool} {held : Bool} {t e : TypeId} {v : Value} {d : DataW H} {ps : List MemPlace} {base size : Nat} {r : Reach}
    {α : Type} (toCells : α → List Value) (Good : α → Prop)
    (ht : P.underlying t = some (.slice e)) (hce : P.cellsOf e = size) (hpos : 0 < size)
    (helem : ∀ fuel cs x, DataW.trod enc P W b0 sp held fuel e cs = some x → ∃ y, cs = toCells y ∧ (toCells y).length = size ∧ Good y)
    (hv : Value.okWide P W r base t v) (h : DataW.Trod enc P W b0 sp held t v d ps) : ∃ ys : List α, Rd W size v ys.length (ys.flatMap toCells) ∧ ∀ y ∈ ys, (toCells y).length = size ∧ Good y :=
  open_slice_at toCells Good ht hce hpos helem (okWide_slice ht hv) h
/-- A struct's field reads by itself. -/
theorem trod_field {H : Type} {enc : TypeId × Value → H} {P : Program} {W : World} {b0 : Nat} {sp : Nat → Bool} {held : Bool} {fuel : Nat} {t : TypeId} {cs : List Value} {x : DataW H × List MemPlace} {fs : Array Field}
    (ht : P.underlying t = some (.struct fs)) (h : DataW.trod enc P W b0 sp held fuel t cs = some x) (i : Nat) (ty off : Nat) (c : Nat) (hf : (fs[i]?).map (fun f => (f.type, f.offset)) = some (ty, off)) (hc : P.cellsOf ty = c) :
    ∃ n y, DataW.trod enc P W b0 sp held n ty ((cs.drop off).take c) = some y := by
  obtain ⟨xs, n, _, _, hl, hx, hfs⟩ := DataW.trod_struct ht h
  cases hfi : fs[i]? with
  | none => rw [hfi] at hf; cases hf
  | some f =>
    rw [hfi] at hf
    cases hf
    have := hfs i f hfi
    have hlt : i < fs.size := by
      rcases Nat.lt_or_ge i fs.size with h | h
      · exact h
      · rw [Array.getElem?_eq_none h] at hfi; cases hfi
    rw [List.getElem?_eq_getElem (by omega), hc] at this
    exact ⟨n, _, this⟩
theorem trod_struct_len {H : Type} {enc : TypeId × Value → H} {P : Program} {W : World} {b0 : Nat} {sp : Nat → Bool} {held : Bool} {fuel : Nat} {t : TypeId} {cs : List Value} {x : DataW H × List MemPlace} {fs : Array Field}
    (ht : P.underlying t = some (.struct fs)) (h : DataW.trod enc P W b0 sp held fuel t cs = some x) : cs.length = P.cellsOf t := by
  obtain ⟨xs, n, _, _, hl, _⟩ := DataW.trod_struct ht h
  exact hl
theorem wf_i64 {n : Int} (h : (Lit.int .i64 n).wf = true) : -9223372036854775808 ≤ n ∧ n ≤ 9223372036854775807 := by
  simp [Lit.wf, IntKind.min, IntKind.max, IntKind.bits, IntKind.signed] at h; omega
theorem wf_u64 {n : Int} (h : (Lit.int .u64 n).wf = true) : ∃ m : Nat, n = (m : Int) ∧ m < 18446744073709551616 := by
  simp [Lit.wf, IntKind.min, IntKind.max, IntKind.bits, IntKind.signed] at h; exact ⟨n.toNat, by omega, by omega⟩
theorem wf_u32 {n : Int} (h : (Lit.int .u32 n).wf = true) : ∃ m : Nat, n = (m : Int) ∧ m < 4294967296 := by
  simp [Lit.wf, IntKind.min, IntKind.max, IntKind.bits, IntKind.signed] at h; exact ⟨n.toNat, by omega, by omega⟩
theorem wf_u16 {n : Int} (h : (Lit.int .u16 n).wf = true) : ∃ m : Nat, n = (m : Int) ∧ m < 65536 := by
  simp [Lit.wf, IntKind.min, IntKind.max, IntKind.bits, IntKind.signed] at h; exact ⟨n.toNat, by omega, by omega⟩
theorem wf_u8 {n : Int} (h : (Lit.int .u8 n).wf = true) : ∃ m : Nat, n = (m : Int) ∧ m < 256 := by
  simp [Lit.wf, IntKind.min, IntKind.max, IntKind.bits, IntKind.signed] at h; exact ⟨n.toNat, by omega, by omega⟩
section
variable {H : Type} {enc : TypeId × Value → H} {P : Program} {W : World} {b0 : Nat} {sp : Nat → Bool} {held : Bool} {t : TypeId} {v : Value} {d : DataW H} {ps : List MemPlace} {base : Nat} {r : Reach}
theorem open_u64 (ht : P.underlying t = some (.int .u64)) (hv : Value.okWide P W r base t v) (h : DataW.Trod enc P W b0 sp held t v d ps) : ∃ m : Nat, v = .int .u64 (m : Int) ∧ m < 18446744073709551616 := by
  obtain ⟨a, rfl, _, _, wa⟩ := open_int ht hv h
  obtain ⟨m, rfl, hm⟩ := wf_u64 wa
  exact ⟨m, rfl, hm⟩
theorem open_u32 (ht : P.underlying t = some (.int .u32)) (hv : Value.okWide P W r base t v) (h : DataW.Trod enc P W b0 sp held t v d ps) : ∃ m : Nat, v = .int .u32 (m : Int) ∧ m < 4294967296 := by
  obtain ⟨a, rfl, _, _, wa⟩ := open_int ht hv h
  obtain ⟨m, rfl, hm⟩ := wf_u32 wa
  exact ⟨m, rfl, hm⟩
theorem open_u16 (ht : P.underlying t = some (.int .u16)) (hv : Value.okWide P W r base t v) (h : DataW.Trod enc P W b0 sp held t v d ps) : ∃ m : Nat, v = .int .u16 (m : Int) ∧ m < 65536 := by
  obtain ⟨a, rfl, _, _, wa⟩ := open_int ht hv h
  obtain ⟨m, rfl, hm⟩ := wf_u16 wa
  exact ⟨m, rfl, hm⟩
theorem open_u8 (ht : P.underlying t = some (.int .u8)) (hv : Value.okWide P W r base t v) (h : DataW.Trod enc P W b0 sp held t v d ps) : ∃ m : Nat, v = .int .u8 (m : Int) ∧ m < 256 := by
  obtain ⟨a, rfl, _, _, wa⟩ := open_int ht hv h
  obtain ⟨m, rfl, hm⟩ := wf_u8 wa
  exact ⟨m, rfl, hm⟩
theorem open_i64 (ht : P.underlying t = some (.int .i64)) (hv : Value.okWide P W r base t v) (h : DataW.Trod enc P W b0 sp held t v d ps) : ∃ m : Int, v = .int .i64 m ∧ -9223372036854775808 ≤ m ∧ m ≤ 9223372036854775807 := by
  obtain ⟨a, rfl, _, _, wa⟩ := open_int ht hv h
  exact ⟨a, rfl, wf_i64 wa⟩
end
end Go.Lw
/- An argument that is a word, opened. -/
namespace Go.Lw
open Go Go.RowKit Go.WideShapes Go.ChangeShapes
theorem open_slice_fuel {H : Type} {enc : TypeId × Value → H} {P : Program} {W : World} {b0 : Nat} {sp : Nat → Bool} {held : Bool} {t e : TypeId} {size : Nat}
    {α : Type} (toCells : α → List Value) (Good : α → Prop)
    (ht : P.underlying t = some (.slice e)) (hce : P.cellsOf e = size) (hpos : 0 < size)
    {fuel : Nat} (helem : ∀ n, n < fuel → ∀ cs x, DataW.trod enc P W b0 sp held n e cs = some x → ∃ y, cs = toCells y ∧ (toCells y).length = size ∧ Good y)
    {a : Option Addr} {len cap : Nat} {xx : DataW H × List MemPlace} (hf : DataW.trod enc P W b0 sp held fuel t [.slice a len cap] = some xx) : ∃ ys : List α, Rd W size (.slice a len cap) ys.length (ys.flatMap toCells) ∧ ∀ y ∈ ys, (toCells y).length = size ∧ Good y := by
  rcases DataW.trod_slice ht hf with ⟨hcs, _⟩ | ⟨x, l, c, elems, rest, n, hfn, hcs, _, hb, hl, hm, hlen, hel, _, _⟩
  · simp at hcs
    obtain ⟨rfl, rfl, rfl⟩ := hcs
    exact ⟨[], Rd.nil W size, by simp⟩
  · simp at hcs
    obtain ⟨rfl, rfl, rfl⟩ := hcs
    have each : ∀ i, i < len → ∃ y, (toCells y).length = size ∧ Good y ∧ ∀ j u, (toCells y)[j]? = some u → W.cell? ((x.add (i * size)).add j) = some u := by
      intro i hi
      have h1 := hel i hi
      rw [List.getElem?_eq_getElem (by omega : i < elems.length), hce] at h1
      obtain ⟨cs, hcs, htr⟩ := Option.bind_eq_some_iff.1 h1
      obtain ⟨y, rfl, hy1, hy2⟩ := helem n (by omega) _ _ htr
      refine ⟨y, hy1, hy2, fun j u hj => ?_⟩
      have := World.cells?_some hcs
      have hjl : j < size := by
        rcases Nat.lt_or_ge j size with h | h
        · exact h
        · rw [List.getElem?_eq_none (by omega)] at hj; cases hj
      rw [this.2.2 j hjl]; exact hj
    have build : ∀ k, k ≤ len → ∃ ys : List α, ys.length = k ∧ (∀ y ∈ ys, (toCells y).length = size ∧ Good y) ∧ ∀ i y, ys[i]? = some y → ∀ j u, (toCells y)[j]? = some u → W.cell? ((x.add (i * size)).add j) = some u := by
      intro k
      induction k with
      | zero => exact fun _ => ⟨[], rfl, by simp, by simp⟩
      | succ k ih =>
        intro hk
        obtain ⟨ys, h1, h2, h3⟩ := ih (by omega)
        obtain ⟨y, hy1, hy2, hy3⟩ := each k (by omega)
        refine ⟨ys ++ [y], by simp [h1], fun z hz => ?_, fun i z hz => ?_⟩
        · rcases List.mem_append.1 hz with h | h
          · exact h2 z h
          · obtain rfl := List.mem_singleton.1 h
            exact ⟨hy1, hy2⟩
        · rw [List.getElem?_append] at hz
          split at hz
          · exact h3 i z hz
          · have : i = k := by
              rcases Nat.lt_or_ge (i - ys.length) 1 with h | h
              · omega
              · rw [List.getElem?_eq_none (by simpa using h)] at hz; cases hz
            subst this
            simp [h1] at hz
            subst hz
            exact hy3
    obtain ⟨ys, rfl, hys, hcells⟩ := build len (Nat.le_refl _)
    refine ⟨ys, ⟨?_, _, cap, rfl, hl, hm, ?_⟩, hys⟩
    · have key : ∀ zs : List α, (∀ y ∈ zs, (toCells y).length = size) → (zs.flatMap toCells).length = zs.length * size := by
        intro zs
        induction zs with
        | nil => intro _; simp
        | cons y zs ih =>
          intro hz
          rw [List.flatMap_cons, List.length_append, ih (fun z hz' => hz z (List.mem_cons_of_mem _ hz')), hz y (List.mem_cons_self ..), List.length_cons, Nat.succ_mul, Nat.add_comm]
      exact key ys fun y hy => (hys y hy).1
    · intro q u hq
      have key : ∀ (zs : List α), (∀ y ∈ zs, (toCells y).length = size) → ∀ q u, (zs.flatMap toCells)[q]? = some u → ∃ y, zs[q / size]? = some y ∧ (toCells y)[q % size]? = some u := by
        intro zs
        induction zs with
        | nil => intro _ q u h; simp at h
        | cons z zs ih =>
          intro hz q u h
          have hzl := hz z (List.mem_cons_self ..)
          rw [List.flatMap_cons, List.getElem?_append] at h
          split at h
          · rename_i hlt
            refine ⟨z, ?_, ?_⟩
            · rw [Nat.div_eq_of_lt (by omega)]; rfl
            · rw [Nat.mod_eq_of_lt (by omega)]; exact h
          · rename_i hge
            rw [hzl] at hge h
            obtain ⟨y, hy1, hy2⟩ := ih (fun y hy => hz y (List.mem_cons_of_mem _ hy)) _ _ h
            refine ⟨y, ?_, ?_⟩
            · have : q / size = (q - size) / size + 1 := by
                rw [← Nat.add_div_right _ hpos]; congr 1; omega
              rw [this]; exact hy1
            · rw [Nat.mod_eq_sub_mod (by omega)]; exact hy2
      obtain ⟨y, hy1, hy2⟩ := key ys (fun y hy => (hys y hy).1) q u hq
      have hc := hcells _ y hy1 _ u hy2
      have hlt : q / size < ys.length := by
        rcases Nat.lt_or_ge (q / size) ys.length with h | h
        · exact h
        · rw [List.getElem?_eq_none h] at hy1; cases hy1
      have hs : x.spot = none := by
        have h0 : 0 < ys.length := Nat.lt_of_le_of_lt (Nat.zero_le _) hlt
        obtain ⟨y0, hy0⟩ : ∃ y0, ys[0]? = some y0 := ⟨_, List.getElem?_eq_getElem h0⟩
        have hl0 := (hys y0 (List.mem_of_getElem? hy0)).1
        have hc0 := hcells 0 y0 hy0 0 _ (List.getElem?_eq_getElem (by omega))
        have e0 : (x.add (0 * size)).add 0 = x := by rw [Nat.zero_mul]; unfold Addr.add; simp
        rw [e0] at hc0
        exact World.cell?_spot hc0
      refine ⟨x.block, x.off, by cases x; simp_all, ?_⟩
      have e1 : (x.add (q / size * size)).add (q % size) = ⟨x.block, x.off + q, none⟩ := by
        rw [addr_add x hs, addr_add _ rfl]
        have := Nat.div_add_mod' q size
        simp only [Addr.mk.injEq, true_and, and_true]
        omega
      rw [e1] at hc
      exact hc
theorem trod_fields {H : Type} {enc : TypeId × Value → H} {P : Program} {W : World} {b0 : Nat} {sp : Nat → Bool} {held : Bool} {fuel : Nat} {t : TypeId} {cs : List Value} {x : DataW H × List MemPlace} {fs : Array Field}
    (ht : P.underlying t = some (.struct fs)) (h : DataW.trod enc P W b0 sp held fuel t cs = some x) :
    ∃ m, fuel = m + 1 ∧ cs.length = P.cellsOf t ∧ ∀ (i : Nat) (ty off : Nat) (c : Nat), (fs[i]?).map (fun f => (f.type, f.offset)) = some (ty, off) → P.cellsOf ty = c → ∃ y, DataW.trod enc P W b0 sp held m ty ((cs.drop off).take c) = some y := by
  obtain ⟨xs, n, hn, _, hl, hx, hfs⟩ := DataW.trod_struct ht h
  refine ⟨n, hn, hl, fun i ty off c hf hc => ?_⟩
  cases hfi : fs[i]? with
  | none => rw [hfi] at hf; cases hf
  | some f =>
    rw [hfi] at hf
    cases hf
    have := hfs i f hfi
    have hlt : i < fs.size := by
      rcases Nat.lt_or_ge i fs.size with h | h
      · exact h
      · rw [Array.getElem?_eq_none h] at hfi; cases hfi
    rw [List.getElem?_eq_getElem (by omega), hc] at this
    exact ⟨_, this⟩
end Go.Lw
namespace Go.Proofs.YtifcgeanippepaaDoor
open Go Go.RowKit Go.Lw Go.WideShapes Go.ChangeShapes
set_option maxRecDepth 100000 in
theorem word_fuel {H : Type} {enc : TypeId × Value → H} {W : World} {b0 : Nat} {sp : Nat → Bool} {held : Bool} : ∀ (fuel : Nat) (cs : List Value) (x : DataW H × List MemPlace), DataW.trod enc Tryd.prog W b0 sp held fuel 42 cs = some x →
    ∃ v l, cs = [v] ∧ WIn W v l ∧ TxOk l := by
  intro fuel
  induction fuel using Nat.strongRecOn with
  | _ fuel ih =>
    intro cs x h
    have hs : ∃ a len cap, cs = [.slice a len cap] := by
      rcases DataW.trod_slice Tryd.underlying42 h with ⟨hcs, _⟩ | ⟨x, l, c, elems, rest, n, _, hcs, _⟩
      · exact ⟨_, _, _, hcs⟩
      · exact ⟨_, _, _, hcs⟩
    obtain ⟨a, len, cap, rfl⟩ := hs
    have helem : ∀ n, n < fuel → ∀ cs x, DataW.trod enc Tryd.prog W b0 sp held n 46 cs = some x → ∃ y : Prt × Value, cs = PC y ∧ (PC y).length = 4 ∧ (WIn W y.2 y.1.orw ∧ y.1.text.length ≤ maxLen ∧ TxOk y.1.orw) := by
      intro n hn cs x hx
      obtain ⟨m, rfl, hl, get⟩ := trod_fields Tryd.underlying46 hx
      rw [show Tryd.prog.cellsOf 46 = 4 by kernel_rfl] at hl
      match cs, hl with
      | [c0, c1, c2, c3], _ =>
        obtain ⟨y0, g0⟩ := get 0 3 0 1 rfl (by kernel_rfl)
        obtain ⟨y1, g1⟩ := get 1 9 1 1 rfl (by kernel_rfl)
        obtain ⟨y2, g2⟩ := get 2 42 2 1 rfl (by kernel_rfl)
        obtain ⟨y3, g3⟩ := get 3 4 3 1 rfl (by kernel_rfl)
        obtain ⟨a0, e0, _, w0⟩ := DataW.trod_int Tryd.underlying3 g0
        obtain ⟨a1, e1, _, w1⟩ := DataW.trod_string Tryd.underlying9 g1
        obtain ⟨a3, e3, _⟩ := DataW.trod_bool Tryd.underlying4 g3
        obtain ⟨v2, l2, e2, hw2, ht2⟩ := ih m (by omega) _ _ g2
        simp at e0 e1 e2 e3
        subst e0 e1 e2 e3
        refine ⟨(.mk a0 a1.data.toList l2 a3, c2), ?_, rfl, hw2, ?_, ht2⟩
        · show [Value.int .i64 a0, .string a1, c2, .bool a3] = [.int .i64 a0, .string (BA a1.data.toList), c2, .bool a3]
          rw [← BA_of]
        · show a1.data.toList.length ≤ maxLen
          have := BA_of a1
          rw [this, BA_size] at w1
          exact w1
    obtain ⟨ys, h1, h2⟩ := open_slice_fuel (size := 4) PC (fun y => WIn W y.2 y.1.orw ∧ y.1.text.length ≤ maxLen ∧ TxOk y.1.orw) Tryd.underlying42 (by kernel_rfl) (by decide) helem h
    refine ⟨_, ys.map Prod.fst, rfl, .mk _ ys h1 (fun y hy => (h2 y hy).2.1), .mk _ (fun p hp => ?_) (fun p hp => ?_)⟩
    · obtain ⟨y, hy, rfl⟩ := List.mem_map.1 hp
      exact (h2 y hy).2.2.1
    · obtain ⟨y, hy, rfl⟩ := List.mem_map.1 hp
      exact (h2 y hy).2.2.2
set_option maxRecDepth 100000 in
theorem open_word {H : Type} {enc : TypeId × Value → H} {W : World} {b0 : Nat} {sp : Nat → Bool} {held : Bool} {v : Value} {d : DataW H} {ps : List MemPlace} {base : Nat} {r : Reach}
    (hv : Value.okWide Tryd.prog W r base 42 v) (h : DataW.Trod enc Tryd.prog W b0 sp held 42 v d ps) : ∃ l, WIn W v l ∧ TxOk l := by
  obtain ⟨a, len, cap, rfl⟩ := okWide_slice Tryd.underlying42 hv
  obtain ⟨fuel, hf⟩ := h
  obtain ⟨v, l, e, h1, h2⟩ := word_fuel fuel _ _ (by simpa [Value.cells] using hf)
  cases e
  exact ⟨l, h1, h2⟩
end Go.Proofs.YtifcgeanippepaaDoor
