/- Of the proof of TopBooks: StA, JA, Late. -/
import Derived.Test.YtgegjjnfcnalfaaGreatDoorG05
import Derived.Test.YtgegjjnfcnalfaaGreatDoorG03
import Derived.Test.YtgegjjnfcnalfaaGreatDoorG12
import Derived.Shelf.SlMaps.Clone
import Derived.Maps.OwnSet
import Derived.Test.YtgegjjnfcnalfaaGreatDoorG11
namespace Go.Proofs.YtgegjjnfcnalfaaGreatDoor
open Go Go.RowKit Go.Lw
set_option maxRecDepth 100000
set_option linter.unusedVariables false
set_option linter.unusedSimpArgs false
attribute [local go_sem] BA_toList
abbrev MapAt (w : World) (b : Nat) (D : DataW Value) : Prop := w.ownsMap Tryz.prog 9 RV b 1 D
abbrev dE : DataW Value := .map []
def vV (t : List UInt8) : Value := .agg #[.string (BA t), .bool false]
def dV : Option (List UInt8) → DataW Value
  | none => .map []
  | some t => .map [(.string [118], .held (vV t))]
theorem MapAt.kept {S : Nat → Prop} {w w' : World} {b : Nat} {D : DataW Value} (h : MapAt w b D) (k : Kept S w w') (hb : ¬ S b) : MapAt w' b D := by
  have hlt := h.lt
  obtain ⟨es, clock, h1, h2, h3, h4⟩ := h
  exact ⟨es, clock, (k.block b hlt hb).trans h1, h2, h3, h4⟩
abbrev treeO (m : Nat) : Obj := .cells #[.map (some m), .string ⟨#[47]⟩] 138 (0, 0)
abbrev stateO (st : Int) (ft m : Nat) : Obj := .cells #[.int .i64 st, .pointer (some ⟨ft, 0, none⟩), .map (some m)] 91 (0, 0)
structure TrAt (w : World) (F : Nat → Prop) (ft : Nat) : Prop where
  mem : ∃ m, w.heap[ft]? = some (treeO m) ∧ MapAt w m dE ∧ F ft ∧ F m ∧ m ≠ ft
structure StAt (w : World) (F : Nat → Prop) (g : Nat) (st : Int) (o : Option (List UInt8)) : Prop where
  mem : ∃ ft m, w.heap[g]? = some (stateO st ft m) ∧ TrAt w (fun b => F b ∧ b ≠ g ∧ b ≠ m) ft ∧ MapAt w m (dV o) ∧ F g ∧ F m ∧ m ≠ g
theorem TrAt.kept {S F : Nat → Prop} {w w' : World} {ft : Nat} (h : TrAt w F ft) (k : Kept S w w') (hS : ∀ b, F b → ¬ S b) : TrAt w' F ft := by
  obtain ⟨m, h1, h2, h3, h4, h5⟩ := h.mem
  exact ⟨m, k.heap h1 (hS _ h3), h2.kept k (hS _ h4), h3, h4, h5⟩
theorem TrAt.mono {F G : Nat → Prop} {w : World} {ft : Nat} (h : TrAt w F ft) (hF : ∀ b, b < w.heap.size → F b → G b) : TrAt w G ft := by
  obtain ⟨m, h1, h2, h3, h4, h5⟩ := h.mem
  exact ⟨m, h1, h2, hF _ (heap_lt h1) h3, hF _ h2.lt h4, h5⟩
theorem StAt.kept {S F : Nat → Prop} {w w' : World} {g : Nat} {st : Int} {o : Option (List UInt8)} (h : StAt w F g st o) (k : Kept S w w') (hS : ∀ b, F b → ¬ S b) : StAt w' F g st o := by
  obtain ⟨ft, m, h1, h2, h3, h4, h5, h6⟩ := h.mem
  exact ⟨ft, m, k.heap h1 (hS _ h4), h2.kept k (fun b hb => hS b hb.1), h3.kept k (hS _ h5), h4, h5, h6⟩
theorem StAt.mono {F G : Nat → Prop} {w : World} {g : Nat} {st : Int} {o : Option (List UInt8)} (h : StAt w F g st o) (hF : ∀ b, b < w.heap.size → F b → G b) : StAt w G g st o := by
  obtain ⟨ft, m, h1, h2, h3, h4, h5, h6⟩ := h.mem
  exact ⟨ft, m, h1, h2.mono (fun b hb h => ⟨hF b hb h.1, h.2⟩), h3, hF _ (heap_lt h1) h4, hF _ h3.lt h5, h6⟩
theorem map_made (w : World) : MapAt (w.alloc (.map #[] 0)) w.heap.size dE := (World.ownsMap_made w Tryz.prog 9 RV).mono (by decide)
set_option maxHeartbeats 4000000 in
theorem tnew_any (w : World) : Calls Tryz.prog 55 #[] w fun e w' => ∃ ft, e = .returned (.pointer (some ⟨ft, 0, none⟩)) ∧ TrAt w' (fun b => w.heap.size ≤ b) ft ∧ Kept (fun _ => False) w w' := by
  have hmm := @run_makeMap Tryz.prog
  go_enter Tryz.func55, Tryz.ntmps55
  go_wp2_with fail
  go_ret
  have k : Kept (fun _ => False) (w.alloc (.map #[] 0)) ((w.alloc (.map #[] 0)).alloc (.cells #[.map (some w.heap.size), .string ⟨#[47]⟩] 138)) := (Kept.refl _ _).alloc _
  refine ⟨_, rfl, ⟨w.heap.size, ?_, (map_made w).kept k (fun h => h), Nat.le_succ _, Nat.le_refl _, Nat.ne_of_lt (Nat.lt_succ_self _)⟩, ((Kept.refl _ w).alloc _).trans k (fun _ _ h => h)⟩
  have := heap_alloc (w.alloc (.map #[] 0)) (.cells #[.map (some w.heap.size), .string ⟨#[47]⟩] 138)
  rw [World.size_alloc] at this
  exact this
set_option maxHeartbeats 4000000 in
theorem tnone_any (w : World) (F : Nat → Prop) (ft : Nat) (h : TrAt w F ft) : Calls Tryz.prog 84 #[.pointer (some ⟨ft, 0, none⟩)] w fun e w' => e = .returned (.bool false) ∧ w = w' := by
  obtain ⟨m, h1, -⟩ := h.mem
  have c0 := heap_cell h1 0
  have heq := fun w p => run_eql_map_nil_sl (P := Tryz.prog) w 136 _ _ p Tryz.underlying136
  clear h h1
  go_enter Tryz.func84, Tryz.ntmps84
  go_wp2_with fail
  go_ret
  exact ⟨rfl, rfl⟩
set_option maxHeartbeats 4000000 in
theorem snone_any (w : World) (F : Nat → Prop) (g : Nat) (st : Int) (o : Option (List UInt8)) (h : StAt w F g st o) : Calls Tryz.prog 38 #[.pointer (some ⟨g, 0, none⟩)] w fun e w' => e = .returned (.bool false) ∧ w = w' := by
  obtain ⟨ft, m, h1, -⟩ := h.mem
  have c2 := heap_cell h1 2
  have heq := fun w p => run_eql_map_nil_sl (P := Tryz.prog) w 89 _ _ p Tryz.underlying89
  clear h h1
  go_enter Tryz.func38, Tryz.ntmps38
  go_wp2_with fail
  go_ret
  exact ⟨rfl, rfl⟩
set_option maxHeartbeats 4000000 in
theorem snew_any (w : World) : Calls Tryz.prog 24 #[] w fun e w' => ∃ g, e = .returned (.pointer (some ⟨g, 0, none⟩)) ∧ StAt w' (fun b => w.heap.size ≤ b) g 0 none ∧ Kept (fun _ => False) w w' := by
  have hmm := @run_makeMap Tryz.prog
  go_enter Tryz.func24, Tryz.ntmps24
  go_wp2_with fail
  refine (tnew_any w).mono ?_
  rintro e w1 ⟨ft, rfl, ht, k1⟩
  have HT := Lw.hid ht; have K1 := Lw.hid k1
  clear ht k1
  go_wp2_with fail
  go_ret
  have k2 : Kept (fun _ => False) w1 (w1.alloc (.map #[] 0)) := (Kept.refl _ _).alloc _
  have k3 : Kept (fun _ => False) (w1.alloc (.map #[] 0)) ((w1.alloc (.map #[] 0)).alloc (.cells #[.int .i64 0, .pointer (some ⟨ft, 0, none⟩), .map (some w1.heap.size)] 91)) := (Kept.refl _ _).alloc _
  have hz := K1.out.size
  refine ⟨_, rfl, ⟨ft, w1.heap.size, ?_, ((HT.out.mono (fun b hb h => ⟨h, by omega, by omega⟩)).kept k2 (fun _ _ h => h)).kept k3 (fun _ _ h => h), (map_made w1).kept k3 (fun h => h), by omega, hz, Nat.ne_of_lt (Nat.lt_succ_self _)⟩, (K1.out.trans k2 (fun _ _ h => h)).trans k3 (fun _ _ h => h)⟩
  have := heap_alloc (w1.alloc (.map #[] 0)) (.cells #[.int .i64 0, .pointer (some ⟨ft, 0, none⟩), .map (some w1.heap.size)] 91)
  rw [World.size_alloc] at this
  exact this
set_option maxHeartbeats 4000000 in
theorem mclone1_any (w : World) (b : Nat) (D : DataW Value) (h : MapAt w b D) : Calls Tryz.prog 99 #[.map (some b)] w fun e w' => e = .returned (.map (some w.heap.size)) ∧ MapAt w' w.heap.size D ∧ Kept (fun _ => False) w w' := by
  obtain ⟨es, clock, hb, h2, h3, h4⟩ := h
  have heq := fun w => run_eql_map_nil_sl (P := Tryz.prog) w 136 _ _ (some b) Tryz.underlying136
  have hcl := run_maps_clone_sl (P := Tryz.prog) w 136 hb
  have hta := fun (v : Value) (w : World) => run_typeAssert_map_sl (P := Tryz.prog) w 136 20 _ _ v Tryz.underlying136
  go_enter Tryz.func99, Tryz.ntmps99
  go_wp2_with fail
  rw [run_callFunc_extern Tryz.func100 (by kernel_rfl) (by kernel_rfl) (by kernel_rfl) (e := Extern.MapsClone.clone) (by kernel_rfl), hcl]
  simp only [Result.andThen]
  rw [Oper.upon_value]
  go_wp2_with fail
  go_ret
  exact ⟨rfl, ⟨es, clock, heap_alloc w _, h2, h3, h4⟩, (Kept.refl _ w).alloc _⟩
set_option maxHeartbeats 4000000 in
theorem mclone2_any (w : World) (b : Nat) (D : DataW Value) (h : MapAt w b D) : Calls Tryz.prog 80 #[.map (some b)] w fun e w' => e = .returned (.map (some w.heap.size)) ∧ MapAt w' w.heap.size D ∧ Kept (fun _ => False) w w' := by
  obtain ⟨es, clock, hb, h2, h3, h4⟩ := h
  have heq := fun w => run_eql_map_nil_sl (P := Tryz.prog) w 89 _ _ (some b) Tryz.underlying89
  have hcl := run_maps_clone_sl (P := Tryz.prog) w 89 hb
  have hta := fun (v : Value) (w : World) => run_typeAssert_map_sl (P := Tryz.prog) w 89 20 _ _ v Tryz.underlying89
  go_enter Tryz.func80, Tryz.ntmps80
  go_wp2_with fail
  rw [run_callFunc_extern Tryz.func100 (by kernel_rfl) (by kernel_rfl) (by kernel_rfl) (e := Extern.MapsClone.clone) (by kernel_rfl), hcl]
  simp only [Result.andThen]
  rw [Oper.upon_value]
  go_wp2_with fail
  go_ret
  exact ⟨rfl, ⟨es, clock, heap_alloc w _, h2, h3, h4⟩, (Kept.refl _ w).alloc _⟩
structure Cmd where
  id : Nat
  text : List UInt8
  out : List UInt8
  err : List UInt8
  sig : Int
  status : Int
  over : Bool
  cut : Bool
  deriving DecidableEq
def Cmd.cells (c : Cmd) : List Value := [.int .u32 (c.id : Int), .string (BA c.text), .string (BA c.out), .string (BA c.err), .int .i64 c.sig, .int .i64 c.status, .bool c.over, .bool c.cut]
structure Mk where
  a : Nat
  b : Nat
  c : Nat
  deriving DecidableEq
structure Jr where
  cs : List Cmd
  st : Int
  v : Option (List UInt8)
  mark : Mk
def jz : Jr := ⟨[], 0, none, ⟨0, 0, 0⟩⟩
theorem cc_len (cs : List Cmd) : (cs.flatMap Cmd.cells).length = cs.length * 8 := flatMap_length Cmd.cells 8 cs (fun _ _ => rfl)
theorem cc_get (cs : List Cmd) (k : Nat) (hk : k < cs.length) (j : Nat) (hj : j < 8) : (cs.flatMap Cmd.cells)[k * 8 + j]? = (cs[k]).cells[j]? := flatMap_get Cmd.cells 8 cs (fun _ _ => rfl) k hk j hj
theorem cc_last (cs : List Cmd) (c : Cmd) (j : Nat) (hj : j < 8) : ((cs ++ [c]).flatMap Cmd.cells)[cs.length * 8 + j]? = c.cells[j]? := by
  have h := cc_get (cs ++ [c]) cs.length (by simp) j hj
  rw [h]; simp
theorem cc_set (cs : List Cmd) (x y : Cmd) (j : Nat) (hj : j < 8) (u : Value) (h : x.cells.set j u = y.cells) : ((cs ++ [x]).flatMap Cmd.cells).set (cs.length * 8 + j) u = (cs ++ [y]).flatMap Cmd.cells := by
  rw [List.flatMap_append, List.flatMap_append, ← cc_len, List.set_append, if_neg (by omega), Nat.add_sub_cancel_left]
  simp [h]
abbrev jbox (BL : Nat) (va : Value) (sp : Nat) (m : Mk) : Obj := .cells #[.pointer (some ⟨BL, 0, none⟩), va, .pointer (some ⟨sp, 0, none⟩), .int .u32 (m.a : Int), .int .u32 (m.b : Int), .int .u32 (m.c : Int)] 65 (0, 0)
structure JAt (w : World) (F : Nat → Prop) (j BL : Nat) (va : Value) (sp : Nat) (J : Jr) : Prop where
  box : w.heap[j]? = some (jbox BL va sp J.mark)
  row : w.ownsRow 0 54 8 va J.cs.length (J.cs.flatMap Cmd.cells)
  st : StAt w (fun b => F b ∧ b ≠ j ∧ ¬ blk va b) sp J.st J.v
  fj : F j
  fr : ∀ k, blk va k → F k ∧ k ≠ j
theorem JAt.kept {S F : Nat → Prop} {w w' : World} {j BL sp : Nat} {va : Value} {J : Jr} (h : JAt w F j BL va sp J) (k : Kept S w w') (hS : ∀ b, F b → ¬ S b) : JAt w' F j BL va sp J :=
  ⟨k.heap h.box (hS _ h.fj), own_kept k h.row (fun b hb => hS b (h.fr b hb).1), h.st.kept k (fun b hb => hS b hb.1), h.fj, h.fr⟩
theorem JAt.mono {F G : Nat → Prop} {w : World} {j BL sp : Nat} {va : Value} {J : Jr} (h : JAt w F j BL va sp J) (hF : ∀ b, b < w.heap.size → F b → G b) : JAt w G j BL va sp J :=
  ⟨h.box, h.row, h.st.mono (fun b hb h => ⟨hF b hb h.1, h.2⟩), hF _ (heap_lt h.box) h.fj, fun k hk => ⟨hF k (own_lt h.row k hk) (h.fr k hk).1, (h.fr k hk).2⟩⟩
set_option maxHeartbeats 4000000 in
theorem jnone_any (w : World) (j BL sp : Nat) (va : Value) (m : Mk) (h : w.heap[j]? = some (jbox BL va sp m)) : Calls Tryz.prog 36 #[.pointer (some ⟨j, 0, none⟩)] w fun e w' => e = .returned (.bool false) ∧ w = w' := by
  have c0 := heap_cell h 0
  clear h
  go_enter Tryz.func36, Tryz.ntmps36
  go_wp2_with fail
  go_ret
  exact ⟨rfl, rfl⟩
set_option maxHeartbeats 4000000 in
theorem jlast_any (w : World) (F : Nat → Prop) (j BL sp : Nat) (va : Value) (J : Jr) (h : JAt w F j BL va sp J) : Calls Tryz.prog 31 #[.pointer (some ⟨j, 0, none⟩)] w fun e w' => e = .returned (.int .u32 ((J.cs.length % 4294967296 : Nat) : Int)) ∧ w = w' := by
  have hb := h.box
  obtain ⟨n, hn⟩ : ∃ n, J.cs.length = n := ⟨_, rfl⟩
  obtain ⟨ad, cap, rfl, _, _, _⟩ := own_slice (hn ▸ h.row)
  have HB := Lw.hid hb
  have c1 := heap_cell hb 1
  rw [hn]
  clear h hb hn
  go_enter Tryz.func31, Tryz.ntmps31
  go_wp2_with fail
  refine (jnone_any w j BL sp _ J.mark HB.out).mono ?_
  rintro e _ ⟨rfl, rfl⟩
  go_wp2_with fail
  go_ret
  exact ⟨by simp, rfl⟩
set_option maxHeartbeats 4000000 in
theorem jmarked_any (w : World) (F : Nat → Prop) (j BL sp : Nat) (va : Value) (J : Jr) (h : JAt w F j BL va sp J) : Calls Tryz.prog 11 #[.pointer (some ⟨j, 0, none⟩)] w fun e w' => e = .returned (.agg #[.int .u32 (J.mark.a : Int), .int .u32 (J.mark.b : Int), .int .u32 (J.mark.c : Int)]) ∧ Kept (fun _ => False) w w' := by
  have hb := h.box
  have HB := Lw.hid hb
  obtain ⟨m, hm⟩ : ∃ m, J.mark = m := ⟨_, rfl⟩
  rw [hm] at hb HB ⊢
  have c3 := heap_cell hb 3; have c4 := heap_cell hb 4; have c5 := heap_cell hb 5
  clear h hb hm
  go_enter Tryz.func11, Tryz.ntmps11
  go_wp2_with fail
  have HB1 := Lw.hid (((Kept.refl (fun _ => False) w).alloc (.cells #[.int .u32 0, .int .u32 0, .int .u32 0] 42)).heap HB.out (fun h => h))
  have k1 : Kept (fun _ => False) w (w.alloc (.cells #[.int .u32 0, .int .u32 0, .int .u32 0] 42)) := (Kept.refl _ w).alloc _
  have d3 := k1.cell c3 (fun h => h); have d4 := k1.cell c4 (fun h => h); have d5 := k1.cell c5 (fun h => h)
  refine (jnone_any _ j BL sp _ m HB1.out).mono ?_
  rintro e _ ⟨rfl, rfl⟩
  go_wp2_with fail
  have hn := heap_alloc w (.cells #[.int .u32 (m.a : Int), .int .u32 (m.b : Int), .int .u32 (m.c : Int)] 42)
  have n0 := heap_cell hn 0; have n1 := heap_cell hn 1; have n2 := heap_cell hn 2
  simp only [List.getElem?_toArray, List.getElem?_cons_zero, List.getElem?_cons_succ] at n0 n1 n2
  exact bodyPost_ret (v := .agg #[.int .u32 (m.a : Int), .int .u32 (m.b : Int), .int .u32 (m.c : Int)]) (by simp [results, Tryz.results11, go_sem, n0, n1, n2]) rfl ⟨rfl, (Kept.refl _ w).alloc _⟩
def Jr.opn (J : Jr) : Option Cmd := match J.cs.getLast? with
  | some c => if c.over then none else some c
  | none => none
theorem Jr.opn_yes {J : Jr} {c : Cmd} (h : J.opn = some c) : ∃ cs, J.cs = cs ++ [c] ∧ c.over = false := by
  unfold Jr.opn at h
  cases hl : J.cs.getLast? with
  | none => rw [hl] at h; cases h
  | some d =>
    rw [hl] at h
    dsimp only at h
    by_cases ho : d.over = true
    · rw [if_pos ho] at h; cases h
    · rw [if_neg ho] at h
      obtain rfl := Option.some.inj h
      obtain ⟨ys, hy⟩ := List.getLast?_eq_some_iff.1 hl
      exact ⟨ys, hy, by simpa using ho⟩
theorem Jr.opn_no {J : Jr} (h : J.opn = none) : J.cs = [] ∨ ∃ cs c, J.cs = cs ++ [c] ∧ c.over = true := by
  unfold Jr.opn at h
  cases hl : J.cs.getLast? with
  | none => exact .inl (List.getLast?_eq_none_iff.1 hl)
  | some d =>
    rw [hl] at h
    dsimp only at h
    obtain ⟨ys, hy⟩ := List.getLast?_eq_some_iff.1 hl
    by_cases ho : d.over = true
    · exact .inr ⟨ys, d, hy, ho⟩
    · rw [if_neg ho] at h; cases h
theorem JAt.cell {w : World} {F : Nat → Prop} {j BL sp : Nat} {va : Value} {J : Jr} (h : JAt w F j BL va sp J) {cs : List Cmd} {c : Cmd} (hc : J.cs = cs ++ [c]) :
    ∃ b cap, va = .slice (some ⟨b, 0, none⟩) (cs.length + 1) cap ∧ cs.length + 1 ≤ cap ∧ cap ≤ maxLen ∧ ∀ i, i < 8 → w.cell? ⟨b, cs.length * 8 + i, none⟩ = c.cells[i]? := by
  have hr := h.row
  have hl : J.cs.length = cs.length + 1 := by rw [hc]; simp
  rw [hl] at hr
  obtain ⟨ad, cap, rfl, h1, h2, h3⟩ := own_slice hr
  obtain ⟨b, rfl⟩ := h3 (by omega)
  refine ⟨b, cap, rfl, h1, h2, fun i hi => ?_⟩
  rw [hr.cellAt _ (by omega), hc, cc_last cs c i hi]
set_option maxHeartbeats 4000000 in
theorem jopen_yes (w : World) (F : Nat → Prop) (j BL sp : Nat) (va : Value) (J : Jr) (h : JAt w F j BL va sp J) (cs : List Cmd) (c : Cmd) (hc : J.cs = cs ++ [c]) (ho : c.over = false) (b cap : Nat) (hv : va = .slice (some ⟨b, 0, none⟩) (cs.length + 1) cap) :
    Calls Tryz.prog 29 #[.pointer (some ⟨j, 0, none⟩)] w fun e w' => e = .returned (.pointer (some ⟨b, cs.length * 8, none⟩)) ∧ w = w' := by
  have hb := h.box
  obtain ⟨b', cap', hv', h1, h2, h3⟩ := h.cell hc
  rw [hv] at hv'
  simp only [Value.slice.injEq, Option.some.injEq, Addr.mk.injEq, and_true, true_and] at hv'
  obtain ⟨rfl, rfl⟩ := hv'
  subst hv
  have c1 := heap_cell hb 1
  have c6 := h3 6 (by decide)
  simp only [Cmd.cells, List.getElem?_cons_zero, List.getElem?_cons_succ, ho] at c6
  obtain ⟨k, hk⟩ : ∃ k, cs.length = k := ⟨_, rfl⟩
  rw [hk] at c1 c6 h1 ⊢
  unfold maxLen at h2
  have g1 : decide ((0 : Int) ≤ (k : Int)) = true := by simp
  have i0 : (0 : Int) ≤ (k : Int) := by omega
  have i1 : (k : Int) < ((k + 1 : Nat) : Int) := by omega
  clear h hb hc ho h3 hk
  go_enter Tryz.func29, Tryz.ntmps29
  go_wp2_with fail
  go_ret
  exact ⟨by simp, rfl⟩
end Go.Proofs.YtgegjjnfcnalfaaGreatDoor
namespace Go.Lw
open Go Go.RowKit
section
variable {P : Program} {Q : Exit → Act → World → Prop}
end
end Go.Lw
