/- The Arith statements' listed variables: what they give the walks. -/
import Derived.Test.YtoedopgjonhemaaGreatDoorArithDoor
import Derived.LaidMore
import Derived.SliceStrings
import Derived.WideKeyElems2
namespace Go.Proofs.YtoedopgjonhemaaGreatDoor
open Go Go.RowKit Go.Lw Go.WideShapes Go.ChangeShapes
set_option linter.unusedVariables false
set_option maxRecDepth 100000
theorem chunk1 {α : Type} (l : List α) (i : Nat) (v : α) (h : l[i]? = some v) : (l.drop (i * 1)).take 1 = [v] := by
  rw [Nat.mul_one]
  obtain ⟨hi, e⟩ := List.getElem?_eq_some_iff.1 h
  rw [List.drop_eq_getElem_cons hi, List.take_succ_cons, List.take_zero, e]
def litS (s : List UInt8) : DataW Unit := .lit (.string s)
/-- An array of strings that reads as known strings. -/
theorem strs_of {enc : TypeId × Value → Unit} {w : World} {base : Nat} {sp : Nat → Bool} {held : Bool} {fuel : Nat} {cs : List Value} {p : List MemPlace} {T : TypeId} {n : Nat} (ls : List (List UInt8))
    (ht : Tryz.prog.underlying T = some (.array n 9)) (hc : Tryz.prog.cellsOf T = n) (hl : ls.length = n) (h : DataW.trod enc Tryz.prog w base sp held fuel T cs = some (.agg (ls.map litS), p)) : cs = ls.map sV := by
  obtain ⟨xs, m, rfl, hx, hl2, hn, hel⟩ := DataW.trod_array ht h
  rw [hc] at hl2
  simp only [Prod.mk.injEq, DataW.agg.injEq] at hx
  refine chunks 1 n cs _ (by omega) (by rw [List.length_map]; omega) fun i hi => ?_
  have h1 := hel i hi
  rw [show Tryz.prog.cellsOf 9 = 1 by kernel_rfl] at h1
  obtain ⟨x, hxi⟩ : ∃ x, xs[i]? = some x := ⟨_, List.getElem?_eq_getElem (by rw [hn]; exact hi)⟩
  obtain ⟨s, hs⟩ : ∃ s, ls[i]? = some s := ⟨_, List.getElem?_eq_getElem (by rw [hl]; exact hi)⟩
  rw [hxi] at h1
  have h2 : (ls.map litS)[i]? = some x.1 := by rw [hx.1, List.getElem?_map, hxi]; rfl
  rw [List.getElem?_map, hs] at h2
  obtain ⟨x1, x2⟩ := x
  cases Option.some.inj h2
  obtain ⟨s1, e1, r1, _⟩ := DataW.trod_string Tryz.underlying9 h1
  rw [e1, chunk1 _ i (sV s) (by rw [List.getElem?_map, hs]; rfl)]
  simp only [Prod.mk.injEq, DataW.lit.injEq, Lit.string.injEq] at r1
  rw [BA_of s1, ← r1.1]; rfl
theorem gSigns : Tryz.prog.globalNamed "longwire/arith.signs" = some 0 := by kernel_rfl
theorem tSigns : (Tryz.prog.globals[0]?).map (·.type) = some 100 := by kernel_rfl
theorem gRows : Tryz.prog.globalNamed "longwire/arith.rows" = some 2 := by kernel_rfl
theorem tRows : (Tryz.prog.globals[2]?).map (·.type) = some 129 := by kernel_rfl
theorem gRange : Tryz.prog.globalNamed "strconv.ErrRange" = some 4 := by kernel_rfl
theorem tRange : (Tryz.prog.globals[4]?).map (·.type) = some 119 := by kernel_rfl
theorem gDoes : Tryz.prog.globalNamed "longwire/arith.does" = some 1 := by kernel_rfl
theorem tDoes : (Tryz.prog.globals[1]?).map (·.type) = some 123 := by kernel_rfl
theorem gPow : Tryz.prog.globalNamed "internal/strconv.uint64pow10" = some 8 := by kernel_rfl
theorem tPow : (Tryz.prog.globals[8]?).map (·.type) = some 204 := by kernel_rfl
theorem laid_signs : (Rows.laid_longwire_arith_signs : DataW Unit) = .agg (signsL.map litS) := rfl
theorem laid_rows : (Rows.laid_longwire_arith_rows : DataW Unit) = .agg (rowsL.map fun r => .slice (r.map litS) []) := rfl
theorem signs_laid {W : World} {cs : Array Value} (hv : W.var? Tryz.prog "longwire/arith.signs" = some cs) (hc : cs.toList = signsL.map sV) : ∃ (t : TypeId) (fr : Nat × Nat), W.heap[0]? = some (.cells signsC t fr) := by
  unfold World.var? at hv
  rw [gSigns] at hv
  simp only [Option.bind_some] at hv
  have e : cs = signsC := Array.toList_inj.1 (hc.trans rfl)
  subst e
  split at hv
  · rename_i c t fr heq
    cases hv
    exact ⟨t, fr, heq⟩
  · cases hv
/-- A slice of strings that reads as known strings. -/
theorem row_of {enc : TypeId × Value → Unit} {w : World} {base : Nat} {sp : Nat → Bool} {held : Bool} {fuel : Nat} {cs : List Value} {p : List MemPlace} (ls : List (List UInt8)) (h0 : ls ≠ [])
    (h : DataW.trod enc Tryz.prog w base sp held fuel 30 cs = some (.slice (ls.map litS) [], p)) : ∃ (b off c : Nat), cs = [.slice (some ⟨b, off, none⟩) ls.length c] ∧ b < w.heap.size ∧ ∀ j, j < ls.length → w.cell? ⟨b, off + j, none⟩ = some (.string (BA (ls.getD j []))) := by
  rcases open_strings Tryz.underlying30 Tryz.underlying9 (by kernel_rfl) h with ⟨hcs, hx⟩ | ⟨x, l, c, ss, hcs, _, hl, hm, hz, hx, hcell, hss⟩
  · cases hx
  · simp only [Prod.mk.injEq, DataW.slice.injEq] at hx
    obtain ⟨⟨e1, e2⟩, _⟩ := hx
    have hlz : l ≤ ss.length := by rw [hz]; split <;> omega
    have hln : l = ls.length := by
      have := congrArg List.length e1
      simp only [strs, List.length_map, List.length_take] at this
      omega
    have hj : ∀ j, j < ls.length → ss.getD j ByteArray.empty = BA (ls.getD j []) := by
      intro j hj
      have h1 := congrArg (fun q => q[j]?) e1
      simp only [strs, List.getElem?_map, List.getElem?_take] at h1
      rw [if_pos (by omega), List.getElem?_eq_getElem hj, List.getElem?_eq_getElem (show j < ss.length by omega)] at h1
      simp only [Option.map_some, Option.some.injEq, litS, DataW.lit.injEq, Lit.string.injEq] at h1
      rw [List.getD_eq_getElem?_getD, List.getElem?_eq_getElem (show j < ss.length by omega), List.getD_eq_getElem?_getD, List.getElem?_eq_getElem hj]
      simp only [Option.getD_some]
      rw [h1, ← BA_of]
    have hpos : 0 < ss.length := by have := List.length_pos_iff.2 h0; omega
    have hc0 := hcell 0 hpos
    have e0 : x.add 0 = x := by unfold Addr.add; rw [if_pos rfl]
    rw [e0] at hc0
    have hs' : x.spot = none := World.cell?_spot hc0
    refine ⟨x.block, x.off, c, ?_, ?_, fun j hjl => ?_⟩
    · rw [hcs, hln]; obtain ⟨b1, o1, s1⟩ := x; simp only at hs'; subst hs'; rfl
    · obtain ⟨b1, o1, s1⟩ := x
      simp only at hs'; subst hs'
      rcases Nat.lt_or_ge b1 w.heap.size with h | h
      · exact h
      · exfalso
        simp [World.cell?, Array.getElem?_eq_none h] at hc0
    · have h1 := hcell j (by omega)
      have e9 : x.add j = ⟨x.block, x.off + j, none⟩ := by
        obtain ⟨b1, o1, s1⟩ := x
        simp only at hs'; subst hs'
        unfold Addr.add; split <;> simp_all
      rw [e9] at h1
      rw [h1, hj j hjl]
/-- An interface's cell. -/
theorem iface_of {enc : TypeId × Value → Unit} {w : World} {base : Nat} {sp : Nat → Bool} {held : Bool} {fuel : Nat} {cs : List Value} {x : DataW Unit × List MemPlace}
    (h : DataW.trod enc Tryz.prog w base sp held fuel 119 cs = some x) : (cs = [.nilIface] ∧ x = (.nil, [])) ∨ ∃ u v, cs = [.iface u v] := by
  cases fuel with
  | zero => simp [DataW.trod] at h
  | succ n =>
    rw [DataW.trod_step] at h
    unfold DataW.trodStep at h
    simp only [Tryz.underlying119] at h
    match cs, h with
    | [.nilIface], h => left; simp at h; exact ⟨rfl, h.symm⟩
    | [.iface u v], _ => exact .inr ⟨u, v, rfl⟩
theorem cells_one {P : Program} {T : TypeId} {ps rs : Array TypeId} {va : Bool} (ht : P.underlying T = some (.func ps rs va)) {v : Value} (h : v.formed P T = true) : v.cells.toList = [v] := by
  cases v with
  | agg cs => simp [Value.formed, ht] at h
  | _ => rfl
def doesM : DataW (List UInt8) := .map [(.string [33, 61], .held [108, 111, 110, 103, 119, 105, 114, 101, 47, 97, 114, 105, 116, 104, 46, 100, 111, 101, 115, 36, 53]), (.string [37], .held [108, 111, 110, 103, 119, 105, 114, 101, 47, 97, 114, 105, 116, 104, 46, 100, 111, 101, 115, 36, 49, 54]), (.string [38], .held [108, 111, 110, 103, 119, 105, 114, 101, 47, 97, 114, 105, 116, 104, 46, 100, 111, 101, 115, 36, 51]), (.string [42], .held [108, 111, 110, 103, 119, 105, 114, 101, 47, 97, 114, 105, 116, 104, 46, 100, 111, 101, 115, 36, 49, 52]), (.string [43], .held [108, 111, 110, 103, 119, 105, 114, 101, 47, 97, 114, 105, 116, 104, 46, 100, 111, 101, 115, 36, 49, 50]), (.string [45], .held [108, 111, 110, 103, 119, 105, 114, 101, 47, 97, 114, 105, 116, 104, 46, 100, 111, 101, 115, 36, 49, 51]), (.string [47], .held [108, 111, 110, 103, 119, 105, 114, 101, 47, 97, 114, 105, 116, 104, 46, 100, 111, 101, 115, 36, 49, 53]), (.string [60], .held [108, 111, 110, 103, 119, 105, 114, 101, 47, 97, 114, 105, 116, 104, 46, 100, 111, 101, 115, 36, 54]), (.string [60, 60], .held [108, 111, 110, 103, 119, 105, 114, 101, 47, 97, 114, 105, 116, 104, 46, 100, 111, 101, 115, 36, 49, 48]), (.string [60, 61], .held [108, 111, 110, 103, 119, 105, 114, 101, 47, 97, 114, 105, 116, 104, 46, 100, 111, 101, 115, 36, 55]), (.string [61, 61], .held [108, 111, 110, 103, 119, 105, 114, 101, 47, 97, 114, 105, 116, 104, 46, 100, 111, 101, 115, 36, 52]), (.string [62], .held [108, 111, 110, 103, 119, 105, 114, 101, 47, 97, 114, 105, 116, 104, 46, 100, 111, 101, 115, 36, 56]), (.string [62, 61], .held [108, 111, 110, 103, 119, 105, 114, 101, 47, 97, 114, 105, 116, 104, 46, 100, 111, 101, 115, 36, 57]), (.string [62, 62], .held [108, 111, 110, 103, 119, 105, 114, 101, 47, 97, 114, 105, 116, 104, 46, 100, 111, 101, 115, 36, 49, 49]), (.string [94], .held [108, 111, 110, 103, 119, 105, 114, 101, 47, 97, 114, 105, 116, 104, 46, 100, 111, 101, 115, 36, 50]), (.string [124], .held [108, 111, 110, 103, 119, 105, 114, 101, 47, 97, 114, 105, 116, 104, 46, 100, 111, 101, 115, 36, 49])]
theorem doesM_eq : ((Rows.laid_longwire_arith_does : DataW Unit).funcsIn?.getD .nil).funcsOut = doesM := by kernel_rfl
theorem does_at {g : List UInt8} (hg : g ∈ twoL) : ∃ (c : UInt8) (r : List UInt8), (∀ zd, doesM.atKey (.string g) zd = .held (c :: r)) ∧ ((List.range Tryz.prog.funcs.size).filter fun f => (Tryz.prog.funcs[f]?).any (·.name.toUTF8.data.toList == c :: r)) = [doesF g] := by
  simp only [twoL, List.mem_cons, List.not_mem_nil, or_false] at hg
  rcases hg with rfl | rfl | rfl | rfl | rfl | rfl | rfl | rfl | rfl | rfl | rfl | rfl | rfl | rfl | rfl | rfl
  · exact ⟨108, [111, 110, 103, 119, 105, 114, 101, 47, 97, 114, 105, 116, 104, 46, 100, 111, 101, 115, 36, 49], fun _ => by kernel_rfl, by kernel_rfl⟩
  · exact ⟨108, [111, 110, 103, 119, 105, 114, 101, 47, 97, 114, 105, 116, 104, 46, 100, 111, 101, 115, 36, 50], fun _ => by kernel_rfl, by kernel_rfl⟩
  · exact ⟨108, [111, 110, 103, 119, 105, 114, 101, 47, 97, 114, 105, 116, 104, 46, 100, 111, 101, 115, 36, 51], fun _ => by kernel_rfl, by kernel_rfl⟩
  · exact ⟨108, [111, 110, 103, 119, 105, 114, 101, 47, 97, 114, 105, 116, 104, 46, 100, 111, 101, 115, 36, 52], fun _ => by kernel_rfl, by kernel_rfl⟩
  · exact ⟨108, [111, 110, 103, 119, 105, 114, 101, 47, 97, 114, 105, 116, 104, 46, 100, 111, 101, 115, 36, 53], fun _ => by kernel_rfl, by kernel_rfl⟩
  · exact ⟨108, [111, 110, 103, 119, 105, 114, 101, 47, 97, 114, 105, 116, 104, 46, 100, 111, 101, 115, 36, 54], fun _ => by kernel_rfl, by kernel_rfl⟩
  · exact ⟨108, [111, 110, 103, 119, 105, 114, 101, 47, 97, 114, 105, 116, 104, 46, 100, 111, 101, 115, 36, 55], fun _ => by kernel_rfl, by kernel_rfl⟩
  · exact ⟨108, [111, 110, 103, 119, 105, 114, 101, 47, 97, 114, 105, 116, 104, 46, 100, 111, 101, 115, 36, 56], fun _ => by kernel_rfl, by kernel_rfl⟩
  · exact ⟨108, [111, 110, 103, 119, 105, 114, 101, 47, 97, 114, 105, 116, 104, 46, 100, 111, 101, 115, 36, 57], fun _ => by kernel_rfl, by kernel_rfl⟩
  · exact ⟨108, [111, 110, 103, 119, 105, 114, 101, 47, 97, 114, 105, 116, 104, 46, 100, 111, 101, 115, 36, 49, 48], fun _ => by kernel_rfl, by kernel_rfl⟩
  · exact ⟨108, [111, 110, 103, 119, 105, 114, 101, 47, 97, 114, 105, 116, 104, 46, 100, 111, 101, 115, 36, 49, 49], fun _ => by kernel_rfl, by kernel_rfl⟩
  · exact ⟨108, [111, 110, 103, 119, 105, 114, 101, 47, 97, 114, 105, 116, 104, 46, 100, 111, 101, 115, 36, 49, 50], fun _ => by kernel_rfl, by kernel_rfl⟩
  · exact ⟨108, [111, 110, 103, 119, 105, 114, 101, 47, 97, 114, 105, 116, 104, 46, 100, 111, 101, 115, 36, 49, 51], fun _ => by kernel_rfl, by kernel_rfl⟩
  · exact ⟨108, [111, 110, 103, 119, 105, 114, 101, 47, 97, 114, 105, 116, 104, 46, 100, 111, 101, 115, 36, 49, 52], fun _ => by kernel_rfl, by kernel_rfl⟩
  · exact ⟨108, [111, 110, 103, 119, 105, 114, 101, 47, 97, 114, 105, 116, 104, 46, 100, 111, 101, 115, 36, 49, 53], fun _ => by kernel_rfl, by kernel_rfl⟩
  · exact ⟨108, [111, 110, 103, 119, 105, 114, 101, 47, 97, 114, 105, 116, 104, 46, 100, 111, 101, 115, 36, 49, 54], fun _ => by kernel_rfl, by kernel_rfl⟩
/-- The table of functions. -/
theorem does_laid {W : World} {n : Nat} {cs : Array Value} {p : List MemPlace} (hv : W.var? Tryz.prog "longwire/arith.does" = some cs)
    (h : DataW.trod (funcToken Tryz.prog) Tryz.prog W 0 (fun _ => true) true n 123 cs.toList = some ((Rows.laid_longwire_arith_does : DataW Unit).funcsIn?.getD .nil |>.funcsOut, p)) :
    ∃ b, W.cell? ⟨1, 0, none⟩ = some (.map (some b)) ∧ b < W.heap.size ∧ LkAt 123 (.map (some b)) (· ∈ twoL) doesV W := by
  rcases Go.WideElems.open_map Tryz.underlying123 h with ⟨hcs, hx⟩ | ⟨b, es, clock, m, rfl, hcs, hb, _, F, hx⟩
  · rw [doesM_eq] at hx; cases hx
  · rw [doesM_eq] at hx
    have hx2 : doesM = .map ((es.toList.map (Go.WideElems.rg Tryz.prog 9 (Go.WideElems.elemAt (funcToken Tryz.prog) Tryz.prog W 0 (fun _ => true) true m 122))).foldr DataW.insert []) := congrArg Prod.fst hx
    have hlt : b < W.heap.size := heap_lt hb
    refine ⟨b, ?_, hlt, ⟨fun w' hw s hs hl => ?_, fun b' e => by cases e; exact hlt⟩⟩
    · have := World.var?_cell gDoes hv 0
      rw [this]
      have : cs = #[.map (some b)] := Array.toList_inj.1 hcs
      rw [this]; rfl
    · have hb' : w'.heap[b]? = some (.map es clock) := (hw b rfl).trans hb
      have hz : (zeroValue 122).run Tryz.prog w' = .ok .nilFunc w' := rfl
      have hkey : keyOf Tryz.prog 9 (.string (BA s)) = some (.string s) := WideMaps.keyOf_string_mk Tryz.underlying9 (by rw [BA_size]; exact hl)
      obtain ⟨c, r, hat, hone⟩ := does_at hs
      rcases Go.WideElems.fit_lookup (WideMaps.string_law Tryz.underlying9) Tryz.underlying123 hz hb' F hkey with ⟨_, h2⟩ | ⟨v, y, hrun, hy, h2, _⟩
      · exfalso
        have h3 := hat .nil
        rw [hx2, h2 .nil] at h3
        cases h3
      · have h3 := hat .nil
        rw [hx2, h2 .nil] at h3
        unfold Go.WideElems.elemAt at hy
        split at hy
        · rename_i hf
          rw [cells_one Tryz.underlying122 hf] at hy
          obtain ⟨y1, y2⟩ := y
          simp only at h3
          subst h3
          have hv := func_of_trod (f0 := doesF s) Tryz.underlying122 hone hy
          rw [hrun, hv]; rfl
        · cases hy
theorem cell_lt {w : World} {g i : Nat} {v : Value} (h : w.cell? ⟨g, i, none⟩ = some v) : g < w.heap.size := by
  rcases Nat.lt_or_ge g w.heap.size with h1 | h1
  · exact h1
  · exfalso
    simp [World.cell?, Array.getElem?_eq_none h1] at h
theorem rows_laid {W : World} {fuel : Nat} {cs : Array Value} {p : List MemPlace} {enc : TypeId × Value → Unit} {base : Nat} {sp : Nat → Bool} {held : Bool} (hv : W.var? Tryz.prog "longwire/arith.rows" = some cs)
    (h : DataW.trod enc Tryz.prog W base sp held fuel 129 cs.toList = some (Rows.laid_longwire_arith_rows, p)) :
    ∀ k, k < 10 → ∃ (b off c : Nat), W.cell? ⟨2, k, none⟩ = some (.slice (some ⟨b, off, none⟩) (rowsL.getD k []).length c) ∧ b < W.heap.size ∧ ∀ j, j < (rowsL.getD k []).length → W.cell? ⟨b, off + j, none⟩ = some (.string (BA ((rowsL.getD k []).getD j []))) := by
  obtain ⟨xs, m, rfl, hx, hl2, hn, hel⟩ := DataW.trod_array Tryz.underlying129 h
  rw [laid_rows] at hx
  simp only [Prod.mk.injEq, DataW.agg.injEq] at hx
  intro k hk
  have h1 := hel k hk
  rw [show Tryz.prog.cellsOf 30 = 1 by kernel_rfl] at h1
  obtain ⟨x, hxi⟩ : ∃ x, xs[k]? = some x := ⟨_, List.getElem?_eq_getElem (by rw [hn]; exact hk)⟩
  rw [hxi] at h1
  have hr : rowsL[k]? = some (rowsL.getD k []) := by
    rw [List.getD_eq_getElem?_getD, List.getElem?_eq_getElem (show k < rowsL.length from hk)]; rfl
  have h2 : (rowsL.map fun r => (DataW.slice (r.map litS) [] : DataW Unit))[k]? = some x.1 := by rw [hx.1, List.getElem?_map, hxi]; rfl
  rw [List.getElem?_map, hr] at h2
  obtain ⟨x1, x2⟩ := x
  cases Option.some.inj h2
  have hne : rowsL.getD k [] ≠ [] := by
    have key : rowsL.all (fun r => !r.isEmpty) = true := by decide +kernel
    have := List.all_eq_true.1 key _ (List.mem_of_getElem? hr)
    intro e
    rw [e] at this; cases this
  obtain ⟨b, off, c, e1, e2, e3⟩ := row_of (rowsL.getD k []) hne h1
  refine ⟨b, off, c, ?_, e2, e3⟩
  rw [World.var?_cell gRows hv k]
  have hkl : k < cs.toList.length := by
    have := hl2
    rw [show Tryz.prog.cellsOf 129 = 10 by kernel_rfl] at this
    omega
  rw [chunk1 _ k _ (List.getElem?_eq_getElem hkl)] at e1
  have e4 : cs.toList[k]? = some (.slice (some ⟨b, off, none⟩) (rowsL.getD k []).length c) := by
    rw [List.getElem?_eq_getElem hkl]; simp only [List.cons.injEq, and_true] at e1; rw [e1]
  simpa using e4
def laidA9 : List (String × DataW Unit) := [("math/bits.deBruijn32tab", Rows.laid_math_bits_deBruijn32tab), ("math/bits.deBruijn64tab", Rows.laid_math_bits_deBruijn64tab), ("internal/strconv.uint64pow10", Rows.laid_internal_strconv_uint64pow10), ("unicode/utf8.acceptRanges", Rows.laid_unicode_utf8_acceptRanges), ("strconv.ErrRange", Rows.laid_strconv_ErrRange), ("strconv.ErrSyntax", Rows.laid_strconv_ErrSyntax), ("longwire/arith.signs", Rows.laid_longwire_arith_signs), ("longwire/arith.rows", Rows.laid_longwire_arith_rows), ("unicode/utf8.first", Rows.laid_unicode_utf8_first)]
theorem pow_tab : (Rows.laid_internal_strconv_uint64pow10 : DataW Unit) = Lib.tabData .u64 Lib.pow10Tab := by kernel_rfl
/-- What the listed variables give. -/
theorem env_ofA {W : World} (h : laidMetH Tryz.prog laidA W) (hs : W.ShapedOpen Tryz.prog) : (∃ dv, DEnv W.heap.size dv W) ∧ Lib.TabIs Tryz.prog W "internal/strconv.uint64pow10" .u64 Lib.pow10Tab := by
  have h1 : laidMet Tryz.prog laidA9 W := h.1
  obtain ⟨gd, td, csd, fd, pd, hgd, htd, hvd, hdd⟩ := h.funcs (n := "longwire/arith.does") (d := (Rows.laid_longwire_arith_does : DataW Unit).funcsIn?.getD .nil) (by
    refine List.mem_cons_of_mem _ (List.mem_cons_of_mem _ (List.mem_cons_of_mem _ (List.mem_cons_of_mem _ (List.mem_cons_of_mem _ (List.mem_cons_of_mem _ (List.mem_cons_of_mem _ (List.mem_cons_of_mem _ (List.mem_cons_self ..))))))))
    )
  obtain rfl := Option.some.inj (gDoes.symm.trans hgd)
  obtain rfl := Option.some.inj (tDoes.symm.trans htd)
  obtain ⟨bd, hd1, hd2, hd3⟩ := does_laid hvd hdd
  obtain ⟨ps, ⟨_, _, _, _, _, _, _, _, _, _, ⟨_, _, _, _, _, _, _, _, _, _, ⟨g3, t3, cs3, f3, p3, q3, hg3, ht3, hv3, hd3', ⟨_, _, _, _, _, _, _, _, _, _, ⟨g5, t5, cs5, f5, p5, q5, hg5, ht5, hv5, hd5, ⟨_, _, _, _, _, _, _, _, _, _, ⟨g7, t7, cs7, f7, p7, q7, hg7, ht7, hv7, hd7, ⟨g8, t8, cs8, f8, p8, q8, hg8, ht8, hv8, hd8, _, _⟩, _⟩, _⟩, _⟩, _⟩, _⟩, _⟩, _⟩, _⟩ := h1
  obtain rfl := Option.some.inj (gPow.symm.trans hg3)
  obtain rfl := Option.some.inj (tPow.symm.trans ht3)
  obtain rfl := Option.some.inj (gRange.symm.trans hg5)
  obtain rfl := Option.some.inj (tRange.symm.trans ht5)
  obtain rfl := Option.some.inj (gSigns.symm.trans hg7)
  obtain rfl := Option.some.inj (tSigns.symm.trans ht7)
  obtain rfl := Option.some.inj (gRows.symm.trans hg8)
  obtain rfl := Option.some.inj (tRows.symm.trans ht8)
  have r1 := signs_laid hv7 (strs_of signsL Tryz.underlying100 (by kernel_rfl) rfl hd7)
  have r2 := rows_laid hv8 hd8
  obtain ⟨mx, r4⟩ := maxLen_of hs
  have r3 : ∃ te pe, W.cell? ⟨4, 0, none⟩ = some (.iface te pe) := by
    rcases iface_of hd5 with ⟨_, h⟩ | ⟨u, v, h⟩
    · cases h
    · refine ⟨u, v, ?_⟩
      rw [World.var?_cell gRange hv5 0]
      have : cs5 = #[.iface u v] := Array.toList_inj.1 h
      rw [this]; rfl
  refine ⟨⟨.map (some bd), ?_⟩, ?_⟩
  · refine ⟨⟨r1, r2, r3, ⟨mx, r4⟩, ⟨?_, ?_, ?_, ?_⟩, Nat.le_refl _⟩, hd1, cell_lt hd1, hd3, fun b e => by cases e; exact hd2⟩
    · obtain ⟨t, fr, e⟩ := r1; exact heap_lt e
    · obtain ⟨b, off, c, e, _⟩ := r2 0 (by decide); exact cell_lt e
    · obtain ⟨te, pe, e⟩ := r3; exact cell_lt e
    · exact cell_lt r4
  · unfold Lib.TabIs
    rw [pow_tab] at hd3'
    rw [hv3, ← Lib.cells_of_tab Tryz.underlying204 Tryz.underlying124 (by kernel_rfl) (by kernel_rfl) hd3']
end Go.Proofs.YtoedopgjonhemaaGreatDoor
