/- package word: dollar. -/
import Derived.Test.YtifcgeanippepaaDoorWord3M
namespace Go.Proofs.YtifcgeanippepaaDoor
open Go Go.RowKit Go.Lw
set_option maxRecDepth 100000
set_option linter.unusedVariables false
set_option linter.unusedSimpArgs false
attribute [local go_sem] BA_toList
/-- What the package variables hold: lex's, and what ends each level. -/
structure WEnv (w : World) : Prop where
  lex : LEnv w
  ends : ∃ (t : TypeId) (fr : Nat × Nat), w.heap[1]? = some (.cells #[.string ⟨#[]⟩, .string ⟨#[34]⟩, .string ⟨#[125]⟩] t fr)
theorem WEnv.kept {S : Nat → Prop} {w w' : World} (h : WEnv w) (k : Kept S w w') (h1 : ¬ S 0) (h2 : ¬ S 2) (h3 : ¬ S 1) : WEnv w' := by
  obtain ⟨⟨ho, m, hm⟩, t, fr, he⟩ := h
  exact ⟨⟨ho.kept k h1, m, k.cell hm h2⟩, t, fr, k.heap he h3⟩
theorem WEnv.apart {w : World} (h : WEnv w) : 0 < w.heap.size ∧ 2 < w.heap.size ∧ 1 < w.heap.size := by
  obtain ⟨⟨⟨t, fr, ho⟩, m, hm⟩, t', fr', he⟩ := h
  exact ⟨heap_lt ho, World.block_lt_of_cell? w ⟨2, 0, none⟩ hm, heap_lt he⟩
theorem WEnv.ne {w : World} (h : WEnv w) {g : Nat} {st : Rst} (hr : RdrAt w g st) : 0 ≠ g ∧ 2 ≠ g ∧ 1 ≠ g := by
  obtain ⟨⟨⟨t, fr, ho⟩, m, hm⟩, t', fr', he⟩ := h
  refine ⟨fun e => ?_, fun e => ?_, fun e => ?_⟩
  · rw [e] at ho
    have := ho.symm.trans hr
    simp only [Option.some.injEq, Obj.cells.injEq] at this
    have h9 : opsC.size = 2 := congrArg Array.size this.1
    exact absurd h9 (by decide)
  · rw [e, hr.cells.1.1] at hm; cases hm
  · rw [e] at he
    have := he.symm.trans hr
    simp at this
theorem WEnv.kept1 {w w' : World} (h : WEnv w) {g : Nat} {st : Rst} (hr : RdrAt w g st) (k : K1 g w w') : WEnv w' :=
  h.kept k (h.ne hr).1 (h.ne hr).2.1 (h.ne hr).2.2
/-- What reading a word leaves behind. -/
def WordPost (w : World) (g : Nat) (lv : Lv) (q : Bool) (st : Rst) (x : Ending) (w' : World) : Prop :=
  ∃ v, x = .returned v ∧ RdrAt w' g (wordW lv q [] st).2 ∧ WAt w' (fun b => w.heap.size ≤ b) v (wordW lv q [] st).1 ∧ K1 g w w'
/-- The contract of word, for texts of at most N bytes. -/
def CWord (N : Nat) : Prop := ∀ (lv : Lv) (q : Bool) (w : World) (g : Nat) (s : List UInt8), s.length ≤ N → RdrAt w g ⟨s, false⟩ → WEnv w →
  Calls Tryd.prog 53 #[.pointer (some ⟨g, 0, none⟩), .int .i64 lv.num, .bool q] w (WordPost w g lv q ⟨s, false⟩)
def DollarPost (w : World) (g : Nat) (q : Bool) (r : List UInt8) (x : Ending) (w' : World) : Prop :=
  ∃ o, x = .returned (PV (dollarR (wordW .brc q []) q r).1 o) ∧ RdrAt w' g (dollarR (wordW .brc q []) q r).2 ∧ WAt w' (fun b => w.heap.size ≤ b) o (dollarR (wordW .brc q []) q r).1.orw ∧ K1 g w w'
/-- A part's block. -/
def PAt (w : World) (b : Nat) (k : Int) (t : List UInt8) (o : Value) (q : Bool) : Prop := w.heap[b]? = some (.cells #[.int .i64 k, .string (BA t), o, .bool q] 46 (0, 0))
theorem PAt.cells {w : World} {b : Nat} {k : Int} {t : List UInt8} {o : Value} {q : Bool} (h : PAt w b k t o q) :
    (w.cell? ⟨b, 0, none⟩ = some (.int .i64 k) ∧ w.cell? ⟨b, 1, none⟩ = some (.string (BA t)) ∧ w.cell? ⟨b, 2, none⟩ = some o ∧ w.cell? ⟨b, 3, none⟩ = some (.bool q)) ∧
    (w.frozen? ⟨b, 0, none⟩ = false ∧ w.frozen? ⟨b, 1, none⟩ = false ∧ w.frozen? ⟨b, 2, none⟩ = false ∧ w.frozen? ⟨b, 3, none⟩ = false) :=
  ⟨⟨heap_cell h 0, heap_cell h 1, heap_cell h 2, heap_cell h 3⟩, heap_free h 0, heap_free h 1, heap_free h 2, heap_free h 3⟩
theorem PAt.setK {w : World} {b : Nat} {k : Int} {t : List UInt8} {o : Value} {q : Bool} (h : PAt w b k t o q) (k' : Int) : PAt (w.setCell ⟨b, 0, none⟩ (.int .i64 k')) b k' t o q := heap_set h 0 _
theorem PAt.setT {w : World} {b : Nat} {k : Int} {t : List UInt8} {o : Value} {q : Bool} (h : PAt w b k t o q) (t' : List UInt8) : PAt (w.setCell ⟨b, 1, none⟩ (.string (BA t'))) b k t' o q := heap_set h 1 _
theorem PAt.setO {w : World} {b : Nat} {k : Int} {t : List UInt8} {o : Value} {q : Bool} (h : PAt w b k t o q) (o' : Value) : PAt (w.setCell ⟨b, 2, none⟩ o') b k t o' q := heap_set h 2 _
/-- Where dollar stands: the reader, the part that is being made (block rb + 1), the result's cells (block rb). -/
structure DlAt (w0 w : World) (g rb : Nat) (st : Rst) (k : Int) (t : List UInt8) (o : Value) (q : Bool) : Prop where
  rdr : RdrAt w g st
  par : PAt w (rb + 1) k t o q
  res : PAt w rb 0 [] (.slice none 0 0) false
  kept : K1 g w0 w
  lo : w0.heap.size = rb
  lt : g < rb
theorem DlAt.call {w0 w w' : World} {g rb : Nat} {st st' : Rst} {k : Int} {t : List UInt8} {o : Value} {q : Bool} (h : DlAt w0 w g rb st k t o q) (hr : RdrAt w' g st') (kk : K1 g w w') : DlAt w0 w' g rb st' k t o q :=
  ⟨hr, kk.heap h.par (fun e => by have e' : rb + 1 = g := e; have := h.lt; omega), kk.heap h.res (fun e => by have e' : rb = g := e; have := h.lt; omega), h.kept.then kk, h.lo, h.lt⟩
theorem DlAt.set {w0 w : World} {g rb : Nat} {st : Rst} {k k' : Int} {t t' : List UInt8} {o o' : Value} {q : Bool} (h : DlAt w0 w g rb st k t o q) (i : Nat) (u : Value) (hp : PAt (w.setCell ⟨rb + 1, i, none⟩ u) (rb + 1) k' t' o' q) : DlAt w0 (w.setCell ⟨rb + 1, i, none⟩ u) g rb st k' t' o' q := by
  have hne : ∀ j, j ≠ rb + 1 → (w.setCell ⟨rb + 1, i, none⟩ u).heap[j]? = w.heap[j]? := fun j hj => Below.heap_setCell _ _ _ _ hj
  refine ⟨(hne g (by have := h.lt; omega)).trans h.rdr, hp, (hne rb (by omega)).trans h.res, Kept.set h.kept (rb + 1) i (fun hl => by have := h.lo; omega) u, h.lo, h.lt⟩
theorem DlAt.setK {w0 w : World} {g rb : Nat} {st : Rst} {k : Int} {t : List UInt8} {o : Value} {q : Bool} (h : DlAt w0 w g rb st k t o q) (k' : Int) : DlAt w0 (w.setCell ⟨rb + 1, 0, none⟩ (.int .i64 k')) g rb st k' t o q := h.set 0 _ (h.par.setK k')
theorem DlAt.setT {w0 w : World} {g rb : Nat} {st : Rst} {k : Int} {t : List UInt8} {o : Value} {q : Bool} (h : DlAt w0 w g rb st k t o q) (t' : List UInt8) : DlAt w0 (w.setCell ⟨rb + 1, 1, none⟩ (.string (BA t'))) g rb st k t' o q := h.set 1 _ (h.par.setT t')
theorem DlAt.setO {w0 w : World} {g rb : Nat} {st : Rst} {k : Int} {t : List UInt8} {o : Value} {q : Bool} (h : DlAt w0 w g rb st k t o q) (o' : Value) : DlAt w0 (w.setCell ⟨rb + 1, 2, none⟩ o') g rb st k t o' q := h.set 2 _ (h.par.setO o')
theorem DlAt.setBad {w0 w : World} {g rb : Nat} {s : List UInt8} {b : Bool} {k : Int} {t : List UInt8} {o : Value} {q : Bool} (h : DlAt w0 w g rb ⟨s, b⟩ k t o q) (c : Bool) : DlAt w0 (w.setCell ⟨g, 1, none⟩ (.bool c)) g rb ⟨s, c⟩ k t o q :=
  h.call (h.rdr.bad' c) (K1.set (K1.refl g w) _)
/-- The result's cells, written. -/
theorem DlAt.out {w0 w : World} {g rb : Nat} {st : Rst} {k : Int} {t : List UInt8} {o : Value} {q : Bool} (h : DlAt w0 w g rb st k t o q) {w' : World} (hw : w' = (((w.setCell ⟨rb, 0, none⟩ (.int .i64 k)).setCell ⟨rb, 1, none⟩ (.string (BA t))).setCell ⟨rb, 2, none⟩ o).setCell ⟨rb, 3, none⟩ (.bool q)) :
    PAt w' rb k t o q ∧ RdrAt w' g st ∧ K1 g w0 w' ∧ Kept (fun b => b = rb) w w' := by
  subst hw
  have hne : ∀ (W : World) i u, (W.setCell ⟨rb, i, none⟩ u).heap[g]? = W.heap[g]? := fun W i u => Below.heap_setCell _ _ _ _ (fun e => by have e' : g = rb := e; have := h.lt; omega)
  have hr : rb < w0.heap.size → rb = g := fun hl => by have := h.lo; omega
  refine ⟨?_, ?_, ?_, ?_⟩
  · exact heap_set (heap_set (heap_set (heap_set h.res 0 _) 1 _) 2 _) 3 _
  · exact (hne _ _ _).trans ((hne _ _ _).trans ((hne _ _ _).trans ((hne _ _ _).trans h.rdr)))
  · exact Kept.set (S := fun b => b = g) (Kept.set (S := fun b => b = g) (Kept.set (S := fun b => b = g) (Kept.set (S := fun b => b = g) h.kept rb 0 hr _) rb 1 hr _) rb 2 hr _) rb 3 hr _
  · exact Kept.set (S := fun b => b = rb) (Kept.set (S := fun b => b = rb) (Kept.set (S := fun b => b = rb) (Kept.set (S := fun b => b = rb) (Kept.refl _ w) rb 0 (fun _ => rfl) _) rb 1 (fun _ => rfl) _) rb 2 (fun _ => rfl) _) rb 3 (fun _ => rfl) _
theorem take_ne {r p : List UInt8} (h : r.take p.length ≠ p) : (r.take p.length == p) = false := beq_eq_false_iff_ne.2 h
theorem dl_end {w0 w w' : World} {g rb : Nat} {st : Rst} {k : Int} {t r : List UInt8} {o : Value} {q : Bool} {l : List Prt} (h : DlAt w0 w g rb st k t o q) (hd : dollarR (wordW .brc q []) q r = (.mk k t l q, st)) (ho : WAt w (fun b => rb + 1 < b) o l)
    (hw : w' = (((w.setCell ⟨rb, 0, none⟩ (.int .i64 k)).setCell ⟨rb, 1, none⟩ (.string (BA t))).setCell ⟨rb, 2, none⟩ o).setCell ⟨rb, 3, none⟩ (.bool q)) : PAt w' rb k t o q ∧ DollarPost w0 g q r (.returned (PV (.mk k t l q) o)) w' := by
  obtain ⟨h1, h2, h3, h4⟩ := h.out hw
  refine ⟨h1, o, by rw [hd], by rw [hd]; exact h2, ?_, h3⟩
  rw [hd]
  exact (ho.kept h4 (fun b hb e => by have e' : b = rb := e; omega)).mono (fun b _ hb => by have := h.lo; omega)
set_option maxHeartbeats 16000000 in
theorem dollar_status (q : Bool) (w : World) (g : Nat) (r : List UInt8) (h : RdrAt w g ⟨r, false⟩) (hr9 : r.length ≤ 100000) (h1 : r.take 2 ≠ [40, 40]) (h2 : r.take 1 ≠ [123]) (h3 : r.take 1 = [63]) :
    Calls Tryd.prog 89 #[.pointer (some ⟨g, 0, none⟩), .bool q] w (DollarPost w g q r) := by
  have hd : dollarR (wordW .brc q []) q r = (.mk 4 [] [] q, ⟨r.drop 1, false⟩) := by unfold dollarR; rw [if_neg h1, if_neg h2, if_pos h3]
  have HDR := Lw.hid hd
  have hgl := h.lt
  have hD : DlAt w ((w.alloc (.cells #[.int .i64 0, .string ⟨#[]⟩, .slice none 0 0, .bool false] 46)).alloc (.cells #[.int .i64 0, .string ⟨#[]⟩, .slice none 0 0, .bool q] 46)) g w.heap.size ⟨r, false⟩ 0 [] (.slice none 0 0) q :=
    ⟨h.kept (((Kept.refl (fun _ => False) w).alloc _).alloc _) (fun h => h), by have := heap_alloc (w.alloc (.cells #[.int .i64 0, .string ⟨#[]⟩, .slice none 0 0, .bool false] 46)) (.cells #[.int .i64 0, .string ⟨#[]⟩, .slice none 0 0, .bool q] 46); rw [World.size_alloc] at this; exact this,
      (Below.heap_alloc _ _ _ (by simp)).trans (heap_alloc w _), ((K1.refl g w).alloc _).alloc _, rfl, hgl⟩
  obtain ⟨rb, hrb⟩ : ∃ rb, w.heap.size = rb := ⟨_, rfl⟩
  clear h
  go_enter Tryd.func89, Tryd.ntmps89
  go_wp2_with fail
  generalize (w.alloc (.cells #[.int .i64 0, .string ⟨#[]⟩, .slice none 0 0, .bool false] 46)).alloc (.cells #[.int .i64 0, .string ⟨#[]⟩, .slice none 0 0, .bool q] 46) = w2 at hD ⊢
  rw [hrb] at hD hgl
  have HD2 := Lw.hid hD
  clear hD
  refine (starts_any _ g r [40, 40] false HD2.out.rdr (by omega) (by decide) false (take_ne (p := [40, 40]) h1)).mono ?_
  rintro x w3 ⟨rfl, hr, kk⟩
  have HD3 : Hid (DlAt w w3 g rb ⟨r, false⟩ 0 [] (.slice none 0 0) q) := Lw.hid (HD2.out.call hr kk)
  clear hr kk
  obtain ⟨⟨p0, p1, p2, p3⟩, pf0, pf1, pf2, pf3⟩ := HD3.out.par.cells
  obtain ⟨⟨q0, q1, q2, q3⟩, qf0, qf1, qf2, qf3⟩ := HD3.out.res.cells
  obtain ⟨⟨g0, g1⟩, gf0, gf1⟩ := HD3.out.rdr.cells
  go_wp2_with fail
  refine (starts_any _ g r [123] false HD3.out.rdr (by omega) (by decide) false (take_ne (p := [123]) h2)).mono ?_
  rintro x w4 ⟨rfl, hr, kk⟩
  have HD4 : Hid (DlAt w w4 g rb ⟨r, false⟩ 0 [] (.slice none 0 0) q) := Lw.hid (HD3.out.call hr kk)
  clear hr kk
  clear p0 p1 p2 p3 pf0 pf1 pf2 pf3 q0 q1 q2 q3 qf0 qf1 qf2 qf3 g0 g1 gf0 gf1
  obtain ⟨⟨p0, p1, p2, p3⟩, pf0, pf1, pf2, pf3⟩ := HD4.out.par.cells
  obtain ⟨⟨q0, q1, q2, q3⟩, qf0, qf1, qf2, qf3⟩ := HD4.out.res.cells
  obtain ⟨⟨g0, g1⟩, gf0, gf1⟩ := HD4.out.rdr.cells
  go_wp2_with fail
  refine (starts_any _ g r [63] false HD4.out.rdr (by omega) (by decide) true (by simp [h3])).mono ?_
  rintro x w5 ⟨rfl, hr, kk⟩
  have HD5 : Hid (DlAt w w5 g rb ⟨(r.drop 1), false⟩ 0 [] (.slice none 0 0) q) := Lw.hid (HD4.out.call hr kk)
  clear hr kk
  clear p0 p1 p2 p3 pf0 pf1 pf2 pf3 q0 q1 q2 q3 qf0 qf1 qf2 qf3 g0 g1 gf0 gf1
  obtain ⟨⟨p0, p1, p2, p3⟩, pf0, pf1, pf2, pf3⟩ := HD5.out.par.cells
  obtain ⟨⟨q0, q1, q2, q3⟩, qf0, qf1, qf2, qf3⟩ := HD5.out.res.cells
  obtain ⟨⟨g0, g1⟩, gf0, gf1⟩ := HD5.out.rdr.cells
  go_wp2_with fail
  have hend := dl_end (r := r) (w' := _) (HD5.out.setK 4) HDR.out (WAt.nil _ _) rfl
  obtain ⟨⟨e0, e1, e2, e3⟩, _⟩ := hend.1.cells
  refine bodyPost_ret (v := PV _ (.slice none 0 0)) (by simp [results, go_sem, e0, e1, e2, e3, PV, Prt.kind, Prt.text, Prt.quoted]) rfl hend.2
set_option maxHeartbeats 16000000 in
theorem dollar_arith (q : Bool) (w : World) (g : Nat) (r : List UInt8) (h : RdrAt w g ⟨r, false⟩) (hr9 : r.length ≤ 100000) (h1 : r.take 2 = [40, 40]) :
    Calls Tryd.prog 89 #[.pointer (some ⟨g, 0, none⟩), .bool q] w (DollarPost w g q r) := by
  have hgl := h.lt
  have hD : DlAt w ((w.alloc (.cells #[.int .i64 0, .string ⟨#[]⟩, .slice none 0 0, .bool false] 46)).alloc (.cells #[.int .i64 0, .string ⟨#[]⟩, .slice none 0 0, .bool q] 46)) g w.heap.size ⟨r, false⟩ 0 [] (.slice none 0 0) q :=
    ⟨h.kept (((Kept.refl (fun _ => False) w).alloc _).alloc _) (fun h => h), by have := heap_alloc (w.alloc (.cells #[.int .i64 0, .string ⟨#[]⟩, .slice none 0 0, .bool false] 46)) (.cells #[.int .i64 0, .string ⟨#[]⟩, .slice none 0 0, .bool q] 46); rw [World.size_alloc] at this; exact this,
      (Below.heap_alloc _ _ _ (by simp)).trans (heap_alloc w _), ((K1.refl g w).alloc _).alloc _, rfl, hgl⟩
  obtain ⟨rb, hrb⟩ : ∃ rb, w.heap.size = rb := ⟨_, rfl⟩
  clear h
  go_enter Tryd.func89, Tryd.ntmps89
  go_wp2_with fail
  generalize (w.alloc (.cells #[.int .i64 0, .string ⟨#[]⟩, .slice none 0 0, .bool false] 46)).alloc (.cells #[.int .i64 0, .string ⟨#[]⟩, .slice none 0 0, .bool q] 46) = w2 at hD ⊢
  rw [hrb] at hD hgl
  have HD2 := Lw.hid hD
  clear hD
  refine (starts_any _ g r [40, 40] false HD2.out.rdr (by omega) (by decide) true (by simp [h1])).mono ?_
  rintro x w3 ⟨rfl, hr, kk⟩
  have HD3 : Hid (DlAt w w3 g rb ⟨(r.drop 2), false⟩ 0 [] (.slice none 0 0) q) := Lw.hid (HD2.out.call hr kk)
  clear hr kk
  obtain ⟨⟨p0, p1, p2, p3⟩, pf0, pf1, pf2, pf3⟩ := HD3.out.par.cells
  obtain ⟨⟨q0, q1, q2, q3⟩, qf0, qf1, qf2, qf3⟩ := HD3.out.res.cells
  obtain ⟨⟨g0, g1⟩, gf0, gf1⟩ := HD3.out.rdr.cells
  go_wp2_with fail
  have hl2 : (r.drop 2).length ≤ 1000000 := by rw [List.length_drop]; omega
  refine (rarith_any _ g (r.drop 2) false HD3.out.rdr hl2).mono ?_
  rintro x w4 ⟨hpost, kk⟩
  unfold ArithPost at hpost
  cases ha : arithW 0 (r.drop 2) with
  | some y =>
    have hd : dollarR (wordW .brc q []) q r = (.mk 5 y.1 [] q, ⟨y.2, false⟩) := by unfold dollarR; rw [if_pos h1, ha]
    have HDR := Lw.hid hd
    rw [ha] at hpost
    obtain ⟨rfl, hr⟩ := hpost
    have HD4 : Hid (DlAt w w4 g rb ⟨y.2, false⟩ 0 [] (.slice none 0 0) q) := Lw.hid (HD3.out.call hr kk)
    clear hr kk ha hd
    clear p0 p1 p2 p3 pf0 pf1 pf2 pf3 q0 q1 q2 q3 qf0 qf1 qf2 qf3 g0 g1 gf0 gf1
    obtain ⟨⟨p0, p1, p2, p3⟩, pf0, pf1, pf2, pf3⟩ := HD4.out.par.cells
    obtain ⟨⟨q0, q1, q2, q3⟩, qf0, qf1, qf2, qf3⟩ := HD4.out.res.cells
    obtain ⟨⟨g0, g1⟩, gf0, gf1⟩ := HD4.out.rdr.cells
    go_wp2_with fail
    have hend := dl_end (r := r) (w' := _) ((HD4.out.setK 5).setT y.1) HDR.out (WAt.nil _ _) rfl
    obtain ⟨⟨e0, e1, e2, e3⟩, _⟩ := hend.1.cells
    refine bodyPost_ret (v := PV _ (.slice none 0 0)) (by simp [results, go_sem, e0, e1, e2, e3, PV, Prt.kind, Prt.text, Prt.quoted]) rfl hend.2
  | none =>
    have hd : dollarR (wordW .brc q []) q r = (.mk 5 [] [] q, ⟨r.drop 2, true⟩) := by unfold dollarR; rw [if_pos h1, ha]
    have HDR := Lw.hid hd
    rw [ha] at hpost
    obtain ⟨rfl, hr⟩ := hpost
    have HD4 : Hid (DlAt w w4 g rb ⟨r.drop 2, true⟩ 0 [] (.slice none 0 0) q) := Lw.hid (HD3.out.call hr kk)
    clear hr kk ha hd
    clear p0 p1 p2 p3 pf0 pf1 pf2 pf3 q0 q1 q2 q3 qf0 qf1 qf2 qf3 g0 g1 gf0 gf1
    obtain ⟨⟨p0, p1, p2, p3⟩, pf0, pf1, pf2, pf3⟩ := HD4.out.par.cells
    obtain ⟨⟨q0, q1, q2, q3⟩, qf0, qf1, qf2, qf3⟩ := HD4.out.res.cells
    obtain ⟨⟨g0, g1⟩, gf0, gf1⟩ := HD4.out.rdr.cells
    go_wp2_with fail
    have hend := dl_end (r := r) (w' := _) ((HD4.out.setK 5).setT []) HDR.out (WAt.nil _ _) rfl
    obtain ⟨⟨e0, e1, e2, e3⟩, _⟩ := hend.1.cells
    refine bodyPost_ret (v := PV _ (.slice none 0 0)) (by simp [results, go_sem, e0, e1, e2, e3, PV, Prt.kind, Prt.text, Prt.quoted]) rfl hend.2
set_option maxHeartbeats 16000000 in
theorem dollar_plain (q : Bool) (w : World) (g : Nat) (r : List UInt8) (h : RdrAt w g ⟨r, false⟩) (hr9 : r.length ≤ 100000) (h1 : r.take 2 ≠ [40, 40]) (h2 : r.take 1 ≠ [123]) (h3 : r.take 1 ≠ [63]) (h4 : nameT r = []) :
    Calls Tryd.prog 89 #[.pointer (some ⟨g, 0, none⟩), .bool q] w (DollarPost w g q r) := by
  have hd : dollarR (wordW .brc q []) q r = (.mk 1 [36] [] q, ⟨r, false⟩) := by unfold dollarR; rw [if_neg h1, if_neg h2, if_neg h3, if_pos h4]
  have HDR := Lw.hid hd
  have hb0 : ([] : List UInt8).isEmpty = true := rfl
  have hgl := h.lt
  have hD : DlAt w ((w.alloc (.cells #[.int .i64 0, .string ⟨#[]⟩, .slice none 0 0, .bool false] 46)).alloc (.cells #[.int .i64 0, .string ⟨#[]⟩, .slice none 0 0, .bool q] 46)) g w.heap.size ⟨r, false⟩ 0 [] (.slice none 0 0) q :=
    ⟨h.kept (((Kept.refl (fun _ => False) w).alloc _).alloc _) (fun h => h), by have := heap_alloc (w.alloc (.cells #[.int .i64 0, .string ⟨#[]⟩, .slice none 0 0, .bool false] 46)) (.cells #[.int .i64 0, .string ⟨#[]⟩, .slice none 0 0, .bool q] 46); rw [World.size_alloc] at this; exact this,
      (Below.heap_alloc _ _ _ (by simp)).trans (heap_alloc w _), ((K1.refl g w).alloc _).alloc _, rfl, hgl⟩
  obtain ⟨rb, hrb⟩ : ∃ rb, w.heap.size = rb := ⟨_, rfl⟩
  clear h
  go_enter Tryd.func89, Tryd.ntmps89
  go_wp2_with fail
  generalize (w.alloc (.cells #[.int .i64 0, .string ⟨#[]⟩, .slice none 0 0, .bool false] 46)).alloc (.cells #[.int .i64 0, .string ⟨#[]⟩, .slice none 0 0, .bool q] 46) = w2 at hD ⊢
  rw [hrb] at hD hgl
  have HD2 := Lw.hid hD
  clear hD
  refine (starts_any _ g r [40, 40] false HD2.out.rdr (by omega) (by decide) false (take_ne (p := [40, 40]) h1)).mono ?_
  rintro x w3 ⟨rfl, hr, kk⟩
  have HD3 : Hid (DlAt w w3 g rb ⟨r, false⟩ 0 [] (.slice none 0 0) q) := Lw.hid (HD2.out.call hr kk)
  clear hr kk
  obtain ⟨⟨p0, p1, p2, p3⟩, pf0, pf1, pf2, pf3⟩ := HD3.out.par.cells
  obtain ⟨⟨q0, q1, q2, q3⟩, qf0, qf1, qf2, qf3⟩ := HD3.out.res.cells
  obtain ⟨⟨g0, g1⟩, gf0, gf1⟩ := HD3.out.rdr.cells
  go_wp2_with fail
  refine (starts_any _ g r [123] false HD3.out.rdr (by omega) (by decide) false (take_ne (p := [123]) h2)).mono ?_
  rintro x w4 ⟨rfl, hr, kk⟩
  have HD4 : Hid (DlAt w w4 g rb ⟨r, false⟩ 0 [] (.slice none 0 0) q) := Lw.hid (HD3.out.call hr kk)
  clear hr kk
  clear p0 p1 p2 p3 pf0 pf1 pf2 pf3 q0 q1 q2 q3 qf0 qf1 qf2 qf3 g0 g1 gf0 gf1
  obtain ⟨⟨p0, p1, p2, p3⟩, pf0, pf1, pf2, pf3⟩ := HD4.out.par.cells
  obtain ⟨⟨q0, q1, q2, q3⟩, qf0, qf1, qf2, qf3⟩ := HD4.out.res.cells
  obtain ⟨⟨g0, g1⟩, gf0, gf1⟩ := HD4.out.rdr.cells
  go_wp2_with fail
  refine (starts_any _ g r [63] false HD4.out.rdr (by omega) (by decide) false (take_ne (p := [63]) h3)).mono ?_
  rintro x w5 ⟨rfl, hr, kk⟩
  have HD5 : Hid (DlAt w w5 g rb ⟨r, false⟩ 0 [] (.slice none 0 0) q) := Lw.hid (HD4.out.call hr kk)
  clear hr kk
  clear p0 p1 p2 p3 pf0 pf1 pf2 pf3 q0 q1 q2 q3 qf0 qf1 qf2 qf3 g0 g1 gf0 gf1
  obtain ⟨⟨p0, p1, p2, p3⟩, pf0, pf1, pf2, pf3⟩ := HD5.out.par.cells
  obtain ⟨⟨q0, q1, q2, q3⟩, qf0, qf1, qf2, qf3⟩ := HD5.out.res.cells
  obtain ⟨⟨g0, g1⟩, gf0, gf1⟩ := HD5.out.rdr.cells
  go_wp2_with fail
  have hnm := rname_any _ g r false HD5.out.rdr (by omega)
  rw [h4] at hnm
  refine hnm.mono ?_
  rintro x w6 ⟨rfl, hr, kk⟩
  clear hnm
  have HD6 : Hid (DlAt w w6 g rb ⟨r, false⟩ 0 [] (.slice none 0 0) q) := Lw.hid (HD5.out.call hr kk)
  clear hr kk
  clear p0 p1 p2 p3 pf0 pf1 pf2 pf3 q0 q1 q2 q3 qf0 qf1 qf2 qf3 g0 g1 gf0 gf1
  obtain ⟨⟨p0, p1, p2, p3⟩, pf0, pf1, pf2, pf3⟩ := HD6.out.par.cells
  obtain ⟨⟨q0, q1, q2, q3⟩, qf0, qf1, qf2, qf3⟩ := HD6.out.res.cells
  obtain ⟨⟨g0, g1⟩, gf0, gf1⟩ := HD6.out.rdr.cells
  have d0 := ((HD6.out.setK 2).setT []).par.cells.1.1
  have d1 := (((HD6.out.setK 2).setT []).setK 1).par.cells.1.2.1
  go_wp2_with fail
  simp only [show (⟨#[36]⟩ : ByteArray) = BA [36] from rfl]
  have hend := dl_end (r := r) (w' := _) ((((HD6.out.setK 2).setT []).setK 1).setT [36]) HDR.out (WAt.nil _ _) rfl
  obtain ⟨⟨e0, e1, e2, e3⟩, _⟩ := hend.1.cells
  refine bodyPost_ret (v := PV _ (.slice none 0 0)) (by simp [results, go_sem, e0, e1, e2, e3, PV, Prt.kind, Prt.text, Prt.quoted]) rfl hend.2
set_option maxHeartbeats 16000000 in
theorem dollar_name (q : Bool) (w : World) (g : Nat) (r : List UInt8) (h : RdrAt w g ⟨r, false⟩) (hr9 : r.length ≤ 100000) (h1 : r.take 2 ≠ [40, 40]) (h2 : r.take 1 ≠ [123]) (h3 : r.take 1 ≠ [63]) (h4 : nameT r ≠ []) :
    Calls Tryd.prog 89 #[.pointer (some ⟨g, 0, none⟩), .bool q] w (DollarPost w g q r) := by
  have hd : dollarR (wordW .brc q []) q r = (.mk 2 (nameT r) [] q, ⟨r.drop (nameT r).length, false⟩) := by unfold dollarR; rw [if_neg h1, if_neg h2, if_neg h3, if_neg h4]
  have HDR := Lw.hid hd
  have hb0 : (nameT r).isEmpty = false := by simpa using h4
  have hgl := h.lt
  have hD : DlAt w ((w.alloc (.cells #[.int .i64 0, .string ⟨#[]⟩, .slice none 0 0, .bool false] 46)).alloc (.cells #[.int .i64 0, .string ⟨#[]⟩, .slice none 0 0, .bool q] 46)) g w.heap.size ⟨r, false⟩ 0 [] (.slice none 0 0) q :=
    ⟨h.kept (((Kept.refl (fun _ => False) w).alloc _).alloc _) (fun h => h), by have := heap_alloc (w.alloc (.cells #[.int .i64 0, .string ⟨#[]⟩, .slice none 0 0, .bool false] 46)) (.cells #[.int .i64 0, .string ⟨#[]⟩, .slice none 0 0, .bool q] 46); rw [World.size_alloc] at this; exact this,
      (Below.heap_alloc _ _ _ (by simp)).trans (heap_alloc w _), ((K1.refl g w).alloc _).alloc _, rfl, hgl⟩
  obtain ⟨rb, hrb⟩ : ∃ rb, w.heap.size = rb := ⟨_, rfl⟩
  clear h
  go_enter Tryd.func89, Tryd.ntmps89
  go_wp2_with fail
  generalize (w.alloc (.cells #[.int .i64 0, .string ⟨#[]⟩, .slice none 0 0, .bool false] 46)).alloc (.cells #[.int .i64 0, .string ⟨#[]⟩, .slice none 0 0, .bool q] 46) = w2 at hD ⊢
  rw [hrb] at hD hgl
  have HD2 := Lw.hid hD
  clear hD
  refine (starts_any _ g r [40, 40] false HD2.out.rdr (by omega) (by decide) false (take_ne (p := [40, 40]) h1)).mono ?_
  rintro x w3 ⟨rfl, hr, kk⟩
  have HD3 : Hid (DlAt w w3 g rb ⟨r, false⟩ 0 [] (.slice none 0 0) q) := Lw.hid (HD2.out.call hr kk)
  clear hr kk
  obtain ⟨⟨p0, p1, p2, p3⟩, pf0, pf1, pf2, pf3⟩ := HD3.out.par.cells
  obtain ⟨⟨q0, q1, q2, q3⟩, qf0, qf1, qf2, qf3⟩ := HD3.out.res.cells
  obtain ⟨⟨g0, g1⟩, gf0, gf1⟩ := HD3.out.rdr.cells
  go_wp2_with fail
  refine (starts_any _ g r [123] false HD3.out.rdr (by omega) (by decide) false (take_ne (p := [123]) h2)).mono ?_
  rintro x w4 ⟨rfl, hr, kk⟩
  have HD4 : Hid (DlAt w w4 g rb ⟨r, false⟩ 0 [] (.slice none 0 0) q) := Lw.hid (HD3.out.call hr kk)
  clear hr kk
  clear p0 p1 p2 p3 pf0 pf1 pf2 pf3 q0 q1 q2 q3 qf0 qf1 qf2 qf3 g0 g1 gf0 gf1
  obtain ⟨⟨p0, p1, p2, p3⟩, pf0, pf1, pf2, pf3⟩ := HD4.out.par.cells
  obtain ⟨⟨q0, q1, q2, q3⟩, qf0, qf1, qf2, qf3⟩ := HD4.out.res.cells
  obtain ⟨⟨g0, g1⟩, gf0, gf1⟩ := HD4.out.rdr.cells
  go_wp2_with fail
  refine (starts_any _ g r [63] false HD4.out.rdr (by omega) (by decide) false (take_ne (p := [63]) h3)).mono ?_
  rintro x w5 ⟨rfl, hr, kk⟩
  have HD5 : Hid (DlAt w w5 g rb ⟨r, false⟩ 0 [] (.slice none 0 0) q) := Lw.hid (HD4.out.call hr kk)
  clear hr kk
  clear p0 p1 p2 p3 pf0 pf1 pf2 pf3 q0 q1 q2 q3 qf0 qf1 qf2 qf3 g0 g1 gf0 gf1
  obtain ⟨⟨p0, p1, p2, p3⟩, pf0, pf1, pf2, pf3⟩ := HD5.out.par.cells
  obtain ⟨⟨q0, q1, q2, q3⟩, qf0, qf1, qf2, qf3⟩ := HD5.out.res.cells
  obtain ⟨⟨g0, g1⟩, gf0, gf1⟩ := HD5.out.rdr.cells
  go_wp2_with fail
  refine (rname_any _ g r false HD5.out.rdr (by omega)).mono ?_
  rintro x w6 ⟨rfl, hr, kk⟩
  have HD6 : Hid (DlAt w w6 g rb ⟨r.drop (nameT r).length, false⟩ 0 [] (.slice none 0 0) q) := Lw.hid (HD5.out.call hr kk)
  clear hr kk
  clear p0 p1 p2 p3 pf0 pf1 pf2 pf3 q0 q1 q2 q3 qf0 qf1 qf2 qf3 g0 g1 gf0 gf1
  obtain ⟨⟨p0, p1, p2, p3⟩, pf0, pf1, pf2, pf3⟩ := HD6.out.par.cells
  obtain ⟨⟨q0, q1, q2, q3⟩, qf0, qf1, qf2, qf3⟩ := HD6.out.res.cells
  obtain ⟨⟨g0, g1⟩, gf0, gf1⟩ := HD6.out.rdr.cells
  go_wp2_with fail
  have hend := dl_end (r := r) (w' := _) ((HD6.out.setK 2).setT (nameT r)) HDR.out (WAt.nil _ _) rfl
  obtain ⟨⟨e0, e1, e2, e3⟩, _⟩ := hend.1.cells
  refine bodyPost_ret (v := PV _ (.slice none 0 0)) (by simp [results, go_sem, e0, e1, e2, e3, PV, Prt.kind, Prt.text, Prt.quoted]) rfl hend.2
set_option maxHeartbeats 16000000 in
theorem dollar_noname (q : Bool) (w : World) (g : Nat) (r : List UInt8) (h : RdrAt w g ⟨r, false⟩) (hr9 : r.length ≤ 100000) (h1 : r.take 2 ≠ [40, 40]) (h2 : r.take 1 = [123]) (h4 : nameT (r.drop 1) = []) :
    Calls Tryd.prog 89 #[.pointer (some ⟨g, 0, none⟩), .bool q] w (DollarPost w g q r) := by
  have hd : dollarR (wordW .brc q []) q r = (.mk 2 [] [] q, ⟨r.drop 1, true⟩) := by unfold dollarR; rw [if_neg h1, if_pos h2, if_pos h4]
  have HDR := Lw.hid hd
  have hb0 : ([] : List UInt8).isEmpty = true := rfl
  have hl1 : (r.drop 1).length ≤ 1000000 := by rw [List.length_drop]; omega
  have hgl := h.lt
  have hD : DlAt w ((w.alloc (.cells #[.int .i64 0, .string ⟨#[]⟩, .slice none 0 0, .bool false] 46)).alloc (.cells #[.int .i64 0, .string ⟨#[]⟩, .slice none 0 0, .bool q] 46)) g w.heap.size ⟨r, false⟩ 0 [] (.slice none 0 0) q :=
    ⟨h.kept (((Kept.refl (fun _ => False) w).alloc _).alloc _) (fun h => h), by have := heap_alloc (w.alloc (.cells #[.int .i64 0, .string ⟨#[]⟩, .slice none 0 0, .bool false] 46)) (.cells #[.int .i64 0, .string ⟨#[]⟩, .slice none 0 0, .bool q] 46); rw [World.size_alloc] at this; exact this,
      (Below.heap_alloc _ _ _ (by simp)).trans (heap_alloc w _), ((K1.refl g w).alloc _).alloc _, rfl, hgl⟩
  obtain ⟨rb, hrb⟩ : ∃ rb, w.heap.size = rb := ⟨_, rfl⟩
  clear h
  go_enter Tryd.func89, Tryd.ntmps89
  go_wp2_with fail
  generalize (w.alloc (.cells #[.int .i64 0, .string ⟨#[]⟩, .slice none 0 0, .bool false] 46)).alloc (.cells #[.int .i64 0, .string ⟨#[]⟩, .slice none 0 0, .bool q] 46) = w2 at hD ⊢
  rw [hrb] at hD hgl
  have HD2 := Lw.hid hD
  clear hD
  refine (starts_any _ g r [40, 40] false HD2.out.rdr (by omega) (by decide) false (take_ne (p := [40, 40]) h1)).mono ?_
  rintro x w3 ⟨rfl, hr, kk⟩
  have HD3 : Hid (DlAt w w3 g rb ⟨r, false⟩ 0 [] (.slice none 0 0) q) := Lw.hid (HD2.out.call hr kk)
  clear hr kk
  obtain ⟨⟨p0, p1, p2, p3⟩, pf0, pf1, pf2, pf3⟩ := HD3.out.par.cells
  obtain ⟨⟨q0, q1, q2, q3⟩, qf0, qf1, qf2, qf3⟩ := HD3.out.res.cells
  obtain ⟨⟨g0, g1⟩, gf0, gf1⟩ := HD3.out.rdr.cells
  go_wp2_with fail
  refine (starts_any _ g r [123] false HD3.out.rdr (by omega) (by decide) true (by simp [h2])).mono ?_
  rintro x w4 ⟨rfl, hr, kk⟩
  have HD4 : Hid (DlAt w w4 g rb ⟨(r.drop 1), false⟩ 0 [] (.slice none 0 0) q) := Lw.hid (HD3.out.call hr kk)
  clear hr kk
  clear p0 p1 p2 p3 pf0 pf1 pf2 pf3 q0 q1 q2 q3 qf0 qf1 qf2 qf3 g0 g1 gf0 gf1
  obtain ⟨⟨p0, p1, p2, p3⟩, pf0, pf1, pf2, pf3⟩ := HD4.out.par.cells
  obtain ⟨⟨q0, q1, q2, q3⟩, qf0, qf1, qf2, qf3⟩ := HD4.out.res.cells
  obtain ⟨⟨g0, g1⟩, gf0, gf1⟩ := HD4.out.rdr.cells
  go_wp2_with fail
  have hnm := rname_any _ g (r.drop 1) false HD4.out.rdr hl1
  rw [h4] at hnm
  refine hnm.mono ?_
  rintro x w5 ⟨rfl, hr, kk⟩
  clear hnm
  have HD5 : Hid (DlAt w w5 g rb ⟨r.drop 1, false⟩ 0 [] (.slice none 0 0) q) := Lw.hid (HD4.out.call hr kk)
  clear hr kk
  clear p0 p1 p2 p3 pf0 pf1 pf2 pf3 q0 q1 q2 q3 qf0 qf1 qf2 qf3 g0 g1 gf0 gf1
  obtain ⟨⟨p0, p1, p2, p3⟩, pf0, pf1, pf2, pf3⟩ := HD5.out.par.cells
  obtain ⟨⟨q0, q1, q2, q3⟩, qf0, qf1, qf2, qf3⟩ := HD5.out.res.cells
  obtain ⟨⟨g0, g1⟩, gf0, gf1⟩ := HD5.out.rdr.cells
  go_wp2_with fail
  have hend := dl_end (r := r) (w' := _) (((HD5.out.setK 2).setT []).setBad true) HDR.out (WAt.nil _ _) rfl
  obtain ⟨⟨e0, e1, e2, e3⟩, _⟩ := hend.1.cells
  refine bodyPost_ret (v := PV _ (.slice none 0 0)) (by simp [results, go_sem, e0, e1, e2, e3, PV, Prt.kind, Prt.text, Prt.quoted]) rfl hend.2
set_option maxHeartbeats 16000000 in
theorem dollar_brace (q : Bool) (w : World) (g : Nat) (r : List UInt8) (h : RdrAt w g ⟨r, false⟩) (hr9 : r.length ≤ 100000) (h1 : r.take 2 ≠ [40, 40]) (h2 : r.take 1 = [123]) (t s : List UInt8) (ht : nameT (r.drop 1) = t) (hs : (r.drop 1).drop t.length = s) (h4 : t ≠ []) (h5 : s.take 2 ≠ [58, 45]) (h6 : s.take 1 = [125]) :
    Calls Tryd.prog 89 #[.pointer (some ⟨g, 0, none⟩), .bool q] w (DollarPost w g q r) := by
  have hl1 : (r.drop 1).length ≤ 1000000 := by rw [List.length_drop]; omega
  have hb0 : t.isEmpty = false := by simpa using h4
  have hsl : s.length ≤ r.length := by rw [← hs]; simp only [List.length_drop]; omega
  have hd : dollarR (wordW .brc q []) q r = (.mk 2 t [] q, ⟨s.drop 1, false⟩) := by unfold dollarR closeR; rw [if_neg h1, if_pos h2, ht, hs, if_neg h4, if_neg h5]; simp [h6]
  have HDR := Lw.hid hd
  have hgl := h.lt
  have hD : DlAt w ((w.alloc (.cells #[.int .i64 0, .string ⟨#[]⟩, .slice none 0 0, .bool false] 46)).alloc (.cells #[.int .i64 0, .string ⟨#[]⟩, .slice none 0 0, .bool q] 46)) g w.heap.size ⟨r, false⟩ 0 [] (.slice none 0 0) q :=
    ⟨h.kept (((Kept.refl (fun _ => False) w).alloc _).alloc _) (fun h => h), by have := heap_alloc (w.alloc (.cells #[.int .i64 0, .string ⟨#[]⟩, .slice none 0 0, .bool false] 46)) (.cells #[.int .i64 0, .string ⟨#[]⟩, .slice none 0 0, .bool q] 46); rw [World.size_alloc] at this; exact this,
      (Below.heap_alloc _ _ _ (by simp)).trans (heap_alloc w _), ((K1.refl g w).alloc _).alloc _, rfl, hgl⟩
  obtain ⟨rb, hrb⟩ : ∃ rb, w.heap.size = rb := ⟨_, rfl⟩
  clear h
  go_enter Tryd.func89, Tryd.ntmps89
  go_wp2_with fail
  generalize (w.alloc (.cells #[.int .i64 0, .string ⟨#[]⟩, .slice none 0 0, .bool false] 46)).alloc (.cells #[.int .i64 0, .string ⟨#[]⟩, .slice none 0 0, .bool q] 46) = w2 at hD ⊢
  rw [hrb] at hD hgl
  have HD2 := Lw.hid hD
  clear hD
  refine (starts_any _ g r [40, 40] false HD2.out.rdr (by omega) (by decide) false (take_ne (p := [40, 40]) h1)).mono ?_
  rintro x w3 ⟨rfl, hr, kk⟩
  have HD3 : Hid (DlAt w w3 g rb ⟨r, false⟩ 0 [] (.slice none 0 0) q) := Lw.hid (HD2.out.call hr kk)
  clear hr kk
  obtain ⟨⟨p0, p1, p2, p3⟩, pf0, pf1, pf2, pf3⟩ := HD3.out.par.cells
  obtain ⟨⟨q0, q1, q2, q3⟩, qf0, qf1, qf2, qf3⟩ := HD3.out.res.cells
  obtain ⟨⟨g0, g1⟩, gf0, gf1⟩ := HD3.out.rdr.cells
  go_wp2_with fail
  refine (starts_any _ g r [123] false HD3.out.rdr (by omega) (by decide) true (by simp [h2])).mono ?_
  rintro x w4 ⟨rfl, hr, kk⟩
  have HD4 : Hid (DlAt w w4 g rb ⟨(r.drop 1), false⟩ 0 [] (.slice none 0 0) q) := Lw.hid (HD3.out.call hr kk)
  clear hr kk
  clear p0 p1 p2 p3 pf0 pf1 pf2 pf3 q0 q1 q2 q3 qf0 qf1 qf2 qf3 g0 g1 gf0 gf1
  obtain ⟨⟨p0, p1, p2, p3⟩, pf0, pf1, pf2, pf3⟩ := HD4.out.par.cells
  obtain ⟨⟨q0, q1, q2, q3⟩, qf0, qf1, qf2, qf3⟩ := HD4.out.res.cells
  obtain ⟨⟨g0, g1⟩, gf0, gf1⟩ := HD4.out.rdr.cells
  go_wp2_with fail
  refine (rname_any _ g (r.drop 1) false HD4.out.rdr hl1).mono ?_
  rw [ht, hs]
  rintro x w5 ⟨rfl, hr, kk⟩
  have HD5 : Hid (DlAt w w5 g rb ⟨s, false⟩ 0 [] (.slice none 0 0) q) := Lw.hid (HD4.out.call hr kk)
  clear hr kk
  clear p0 p1 p2 p3 pf0 pf1 pf2 pf3 q0 q1 q2 q3 qf0 qf1 qf2 qf3 g0 g1 gf0 gf1
  obtain ⟨⟨p0, p1, p2, p3⟩, pf0, pf1, pf2, pf3⟩ := HD5.out.par.cells
  obtain ⟨⟨q0, q1, q2, q3⟩, qf0, qf1, qf2, qf3⟩ := HD5.out.res.cells
  obtain ⟨⟨g0, g1⟩, gf0, gf1⟩ := HD5.out.rdr.cells
  go_wp2_with fail
  refine (starts_any _ g s [58, 45] false ((HD5.out.setK 2).setT t).rdr (by omega) (by decide) false (take_ne (p := [58, 45]) h5)).mono ?_
  rintro x w6 ⟨rfl, hr, kk⟩
  have HD6 : Hid (DlAt w w6 g rb ⟨s, false⟩ 2 t (.slice none 0 0) q) := Lw.hid (((HD5.out.setK 2).setT t).call hr kk)
  clear hr kk
  clear p0 p1 p2 p3 pf0 pf1 pf2 pf3 q0 q1 q2 q3 qf0 qf1 qf2 qf3 g0 g1 gf0 gf1
  obtain ⟨⟨p0, p1, p2, p3⟩, pf0, pf1, pf2, pf3⟩ := HD6.out.par.cells
  obtain ⟨⟨q0, q1, q2, q3⟩, qf0, qf1, qf2, qf3⟩ := HD6.out.res.cells
  obtain ⟨⟨g0, g1⟩, gf0, gf1⟩ := HD6.out.rdr.cells
  go_wp2_with fail
  refine (starts_any _ g s [125] false HD6.out.rdr (by omega) (by decide) true (by simp [h6])).mono ?_
  rintro x w7 ⟨rfl, hr, kk⟩
  have HD7 : Hid (DlAt w w7 g rb ⟨(s.drop 1), false⟩ 2 t (.slice none 0 0) q) := Lw.hid (HD6.out.call hr kk)
  clear hr kk
  clear p0 p1 p2 p3 pf0 pf1 pf2 pf3 q0 q1 q2 q3 qf0 qf1 qf2 qf3 g0 g1 gf0 gf1
  obtain ⟨⟨p0, p1, p2, p3⟩, pf0, pf1, pf2, pf3⟩ := HD7.out.par.cells
  obtain ⟨⟨q0, q1, q2, q3⟩, qf0, qf1, qf2, qf3⟩ := HD7.out.res.cells
  obtain ⟨⟨g0, g1⟩, gf0, gf1⟩ := HD7.out.rdr.cells
  go_wp2_with fail
  have hend := dl_end (r := r) (w' := _) (HD7.out.setBad false) HDR.out (WAt.nil _ _) rfl
  obtain ⟨⟨e0, e1, e2, e3⟩, _⟩ := hend.1.cells
  refine bodyPost_ret (v := PV _ (.slice none 0 0)) (by simp [results, go_sem, e0, e1, e2, e3, PV, Prt.kind, Prt.text, Prt.quoted]) rfl hend.2
set_option maxHeartbeats 16000000 in
theorem dollar_brace_no (q : Bool) (w : World) (g : Nat) (r : List UInt8) (h : RdrAt w g ⟨r, false⟩) (hr9 : r.length ≤ 100000) (h1 : r.take 2 ≠ [40, 40]) (h2 : r.take 1 = [123]) (t s : List UInt8) (ht : nameT (r.drop 1) = t) (hs : (r.drop 1).drop t.length = s) (h4 : t ≠ []) (h5 : s.take 2 ≠ [58, 45]) (h6 : s.take 1 ≠ [125]) :
    Calls Tryd.prog 89 #[.pointer (some ⟨g, 0, none⟩), .bool q] w (DollarPost w g q r) := by
  have hl1 : (r.drop 1).length ≤ 1000000 := by rw [List.length_drop]; omega
  have hb0 : t.isEmpty = false := by simpa using h4
  have hsl : s.length ≤ r.length := by rw [← hs]; simp only [List.length_drop]; omega
  have hd : dollarR (wordW .brc q []) q r = (.mk 2 t [] q, ⟨s, true⟩) := by unfold dollarR closeR; rw [if_neg h1, if_pos h2, ht, hs, if_neg h4, if_neg h5]; simp [h6]
  have HDR := Lw.hid hd
  have hgl := h.lt
  have hD : DlAt w ((w.alloc (.cells #[.int .i64 0, .string ⟨#[]⟩, .slice none 0 0, .bool false] 46)).alloc (.cells #[.int .i64 0, .string ⟨#[]⟩, .slice none 0 0, .bool q] 46)) g w.heap.size ⟨r, false⟩ 0 [] (.slice none 0 0) q :=
    ⟨h.kept (((Kept.refl (fun _ => False) w).alloc _).alloc _) (fun h => h), by have := heap_alloc (w.alloc (.cells #[.int .i64 0, .string ⟨#[]⟩, .slice none 0 0, .bool false] 46)) (.cells #[.int .i64 0, .string ⟨#[]⟩, .slice none 0 0, .bool q] 46); rw [World.size_alloc] at this; exact this,
      (Below.heap_alloc _ _ _ (by simp)).trans (heap_alloc w _), ((K1.refl g w).alloc _).alloc _, rfl, hgl⟩
  obtain ⟨rb, hrb⟩ : ∃ rb, w.heap.size = rb := ⟨_, rfl⟩
  clear h
  go_enter Tryd.func89, Tryd.ntmps89
  go_wp2_with fail
  generalize (w.alloc (.cells #[.int .i64 0, .string ⟨#[]⟩, .slice none 0 0, .bool false] 46)).alloc (.cells #[.int .i64 0, .string ⟨#[]⟩, .slice none 0 0, .bool q] 46) = w2 at hD ⊢
  rw [hrb] at hD hgl
  have HD2 := Lw.hid hD
  clear hD
  refine (starts_any _ g r [40, 40] false HD2.out.rdr (by omega) (by decide) false (take_ne (p := [40, 40]) h1)).mono ?_
  rintro x w3 ⟨rfl, hr, kk⟩
  have HD3 : Hid (DlAt w w3 g rb ⟨r, false⟩ 0 [] (.slice none 0 0) q) := Lw.hid (HD2.out.call hr kk)
  clear hr kk
  obtain ⟨⟨p0, p1, p2, p3⟩, pf0, pf1, pf2, pf3⟩ := HD3.out.par.cells
  obtain ⟨⟨q0, q1, q2, q3⟩, qf0, qf1, qf2, qf3⟩ := HD3.out.res.cells
  obtain ⟨⟨g0, g1⟩, gf0, gf1⟩ := HD3.out.rdr.cells
  go_wp2_with fail
  refine (starts_any _ g r [123] false HD3.out.rdr (by omega) (by decide) true (by simp [h2])).mono ?_
  rintro x w4 ⟨rfl, hr, kk⟩
  have HD4 : Hid (DlAt w w4 g rb ⟨(r.drop 1), false⟩ 0 [] (.slice none 0 0) q) := Lw.hid (HD3.out.call hr kk)
  clear hr kk
  clear p0 p1 p2 p3 pf0 pf1 pf2 pf3 q0 q1 q2 q3 qf0 qf1 qf2 qf3 g0 g1 gf0 gf1
  obtain ⟨⟨p0, p1, p2, p3⟩, pf0, pf1, pf2, pf3⟩ := HD4.out.par.cells
  obtain ⟨⟨q0, q1, q2, q3⟩, qf0, qf1, qf2, qf3⟩ := HD4.out.res.cells
  obtain ⟨⟨g0, g1⟩, gf0, gf1⟩ := HD4.out.rdr.cells
  go_wp2_with fail
  refine (rname_any _ g (r.drop 1) false HD4.out.rdr hl1).mono ?_
  rw [ht, hs]
  rintro x w5 ⟨rfl, hr, kk⟩
  have HD5 : Hid (DlAt w w5 g rb ⟨s, false⟩ 0 [] (.slice none 0 0) q) := Lw.hid (HD4.out.call hr kk)
  clear hr kk
  clear p0 p1 p2 p3 pf0 pf1 pf2 pf3 q0 q1 q2 q3 qf0 qf1 qf2 qf3 g0 g1 gf0 gf1
  obtain ⟨⟨p0, p1, p2, p3⟩, pf0, pf1, pf2, pf3⟩ := HD5.out.par.cells
  obtain ⟨⟨q0, q1, q2, q3⟩, qf0, qf1, qf2, qf3⟩ := HD5.out.res.cells
  obtain ⟨⟨g0, g1⟩, gf0, gf1⟩ := HD5.out.rdr.cells
  go_wp2_with fail
  refine (starts_any _ g s [58, 45] false ((HD5.out.setK 2).setT t).rdr (by omega) (by decide) false (take_ne (p := [58, 45]) h5)).mono ?_
  rintro x w6 ⟨rfl, hr, kk⟩
  have HD6 : Hid (DlAt w w6 g rb ⟨s, false⟩ 2 t (.slice none 0 0) q) := Lw.hid (((HD5.out.setK 2).setT t).call hr kk)
  clear hr kk
  clear p0 p1 p2 p3 pf0 pf1 pf2 pf3 q0 q1 q2 q3 qf0 qf1 qf2 qf3 g0 g1 gf0 gf1
  obtain ⟨⟨p0, p1, p2, p3⟩, pf0, pf1, pf2, pf3⟩ := HD6.out.par.cells
  obtain ⟨⟨q0, q1, q2, q3⟩, qf0, qf1, qf2, qf3⟩ := HD6.out.res.cells
  obtain ⟨⟨g0, g1⟩, gf0, gf1⟩ := HD6.out.rdr.cells
  go_wp2_with fail
  refine (starts_any _ g s [125] false HD6.out.rdr (by omega) (by decide) false (take_ne (p := [125]) h6)).mono ?_
  rintro x w7 ⟨rfl, hr, kk⟩
  have HD7 : Hid (DlAt w w7 g rb ⟨s, false⟩ 2 t (.slice none 0 0) q) := Lw.hid (HD6.out.call hr kk)
  clear hr kk
  clear p0 p1 p2 p3 pf0 pf1 pf2 pf3 q0 q1 q2 q3 qf0 qf1 qf2 qf3 g0 g1 gf0 gf1
  obtain ⟨⟨p0, p1, p2, p3⟩, pf0, pf1, pf2, pf3⟩ := HD7.out.par.cells
  obtain ⟨⟨q0, q1, q2, q3⟩, qf0, qf1, qf2, qf3⟩ := HD7.out.res.cells
  obtain ⟨⟨g0, g1⟩, gf0, gf1⟩ := HD7.out.rdr.cells
  go_wp2_with fail
  have hend := dl_end (r := r) (w' := _) (HD7.out.setBad true) HDR.out (WAt.nil _ _) rfl
  obtain ⟨⟨e0, e1, e2, e3⟩, _⟩ := hend.1.cells
  refine bodyPost_ret (v := PV _ (.slice none 0 0)) (by simp [results, go_sem, e0, e1, e2, e3, PV, Prt.kind, Prt.text, Prt.quoted]) rfl hend.2
set_option maxHeartbeats 16000000 in
theorem dollar_or_bad (q : Bool) (w : World) (g : Nat) (r : List UInt8) (h : RdrAt w g ⟨r, false⟩) (hr9 : r.length ≤ 100000) (h1 : r.take 2 ≠ [40, 40]) (h2 : r.take 1 = [123]) (t s : List UInt8) (ht : nameT (r.drop 1) = t) (hs : (r.drop 1).drop t.length = s) (h4 : t ≠ []) (h5 : s.take 2 = [58, 45]) (N : Nat) (HW : Hid (CWord N)) (hN : r.length ≤ N) (hE : WEnv w) (l : List Prt) (u : List UInt8) (hu : wordW .brc q [] ⟨s.drop 2, false⟩ = (l, ⟨u, true⟩)) :
    Calls Tryd.prog 89 #[.pointer (some ⟨g, 0, none⟩), .bool q] w (DollarPost w g q r) := by
  have hl1 : (r.drop 1).length ≤ 1000000 := by rw [List.length_drop]; omega
  have hb0 : t.isEmpty = false := by simpa using h4
  have hsl : s.length ≤ r.length := by rw [← hs]; simp only [List.length_drop]; omega
  have HE := Lw.hid hE
  have HU := Lw.hid hu
  have h0 := h
  have H0 := Lw.hid h0
  clear h0
  have hd : dollarR (wordW .brc q []) q r = (.mk 3 t l q, ⟨u, true⟩) := by unfold dollarR closeR; rw [if_neg h1, if_pos h2, ht, hs, if_neg h4, if_pos h5, hu]; simp
  have HDR := Lw.hid hd
  have hul : u.length ≤ 100000 := by
    have := wordW_len .brc q [] ⟨s.drop 2, false⟩
    rw [hu] at this
    simp only [List.length_drop] at this
    omega
  have hs2 : (s.drop 2).length ≤ N := by rw [List.length_drop]; omega
  clear hu
  have hgl := h.lt
  have hD : DlAt w ((w.alloc (.cells #[.int .i64 0, .string ⟨#[]⟩, .slice none 0 0, .bool false] 46)).alloc (.cells #[.int .i64 0, .string ⟨#[]⟩, .slice none 0 0, .bool q] 46)) g w.heap.size ⟨r, false⟩ 0 [] (.slice none 0 0) q :=
    ⟨h.kept (((Kept.refl (fun _ => False) w).alloc _).alloc _) (fun h => h), by have := heap_alloc (w.alloc (.cells #[.int .i64 0, .string ⟨#[]⟩, .slice none 0 0, .bool false] 46)) (.cells #[.int .i64 0, .string ⟨#[]⟩, .slice none 0 0, .bool q] 46); rw [World.size_alloc] at this; exact this,
      (Below.heap_alloc _ _ _ (by simp)).trans (heap_alloc w _), ((K1.refl g w).alloc _).alloc _, rfl, hgl⟩
  obtain ⟨rb, hrb⟩ : ∃ rb, w.heap.size = rb := ⟨_, rfl⟩
  clear h
  go_enter Tryd.func89, Tryd.ntmps89
  go_wp2_with fail
  generalize (w.alloc (.cells #[.int .i64 0, .string ⟨#[]⟩, .slice none 0 0, .bool false] 46)).alloc (.cells #[.int .i64 0, .string ⟨#[]⟩, .slice none 0 0, .bool q] 46) = w2 at hD ⊢
  rw [hrb] at hD hgl
  have HD2 := Lw.hid hD
  clear hD
  refine (starts_any _ g r [40, 40] false HD2.out.rdr (by omega) (by decide) false (take_ne (p := [40, 40]) h1)).mono ?_
  rintro x w3 ⟨rfl, hr, kk⟩
  have HD3 : Hid (DlAt w w3 g rb ⟨r, false⟩ 0 [] (.slice none 0 0) q) := Lw.hid (HD2.out.call hr kk)
  clear hr kk
  obtain ⟨⟨p0, p1, p2, p3⟩, pf0, pf1, pf2, pf3⟩ := HD3.out.par.cells
  obtain ⟨⟨q0, q1, q2, q3⟩, qf0, qf1, qf2, qf3⟩ := HD3.out.res.cells
  obtain ⟨⟨g0, g1⟩, gf0, gf1⟩ := HD3.out.rdr.cells
  go_wp2_with fail
  refine (starts_any _ g r [123] false HD3.out.rdr (by omega) (by decide) true (by simp [h2])).mono ?_
  rintro x w4 ⟨rfl, hr, kk⟩
  have HD4 : Hid (DlAt w w4 g rb ⟨(r.drop 1), false⟩ 0 [] (.slice none 0 0) q) := Lw.hid (HD3.out.call hr kk)
  clear hr kk
  clear p0 p1 p2 p3 pf0 pf1 pf2 pf3 q0 q1 q2 q3 qf0 qf1 qf2 qf3 g0 g1 gf0 gf1
  obtain ⟨⟨p0, p1, p2, p3⟩, pf0, pf1, pf2, pf3⟩ := HD4.out.par.cells
  obtain ⟨⟨q0, q1, q2, q3⟩, qf0, qf1, qf2, qf3⟩ := HD4.out.res.cells
  obtain ⟨⟨g0, g1⟩, gf0, gf1⟩ := HD4.out.rdr.cells
  go_wp2_with fail
  refine (rname_any _ g (r.drop 1) false HD4.out.rdr hl1).mono ?_
  rw [ht, hs]
  rintro x w5 ⟨rfl, hr, kk⟩
  have HD5 : Hid (DlAt w w5 g rb ⟨s, false⟩ 0 [] (.slice none 0 0) q) := Lw.hid (HD4.out.call hr kk)
  clear hr kk
  clear p0 p1 p2 p3 pf0 pf1 pf2 pf3 q0 q1 q2 q3 qf0 qf1 qf2 qf3 g0 g1 gf0 gf1
  obtain ⟨⟨p0, p1, p2, p3⟩, pf0, pf1, pf2, pf3⟩ := HD5.out.par.cells
  obtain ⟨⟨q0, q1, q2, q3⟩, qf0, qf1, qf2, qf3⟩ := HD5.out.res.cells
  obtain ⟨⟨g0, g1⟩, gf0, gf1⟩ := HD5.out.rdr.cells
  go_wp2_with fail
  refine (starts_any _ g s [58, 45] false ((HD5.out.setK 2).setT t).rdr (by omega) (by decide) true (by simp [h5])).mono ?_
  rintro x w6 ⟨rfl, hr, kk⟩
  have HD6 : Hid (DlAt w w6 g rb ⟨(s.drop 2), false⟩ 2 t (.slice none 0 0) q) := Lw.hid (((HD5.out.setK 2).setT t).call hr kk)
  clear hr kk
  clear p0 p1 p2 p3 pf0 pf1 pf2 pf3 q0 q1 q2 q3 qf0 qf1 qf2 qf3 g0 g1 gf0 gf1
  obtain ⟨⟨p0, p1, p2, p3⟩, pf0, pf1, pf2, pf3⟩ := HD6.out.par.cells
  obtain ⟨⟨q0, q1, q2, q3⟩, qf0, qf1, qf2, qf3⟩ := HD6.out.res.cells
  obtain ⟨⟨g0, g1⟩, gf0, gf1⟩ := HD6.out.rdr.cells
  go_wp2_with fail
  refine (HW.out .brc q _ g (s.drop 2) hs2 HD6.out.rdr (HE.out.kept1 H0.out HD6.out.kept)).mono ?_
  rintro x w7 ⟨v, rfl, hr, ha, kk⟩
  rw [HU.out] at hr ha
  obtain ⟨va, vn, vc, rfl⟩ := ha.slice
  have HD7 : Hid (DlAt w w7 g rb ⟨u, true⟩ 2 t (.slice none 0 0) q) := Lw.hid (HD6.out.call hr kk)
  have hpl : rb + 1 < w6.heap.size := heap_lt HD6.out.par
  have HA7 : Hid (WAt w7 (fun b => rb + 1 < b) (.slice va vn vc) l) := Lw.hid (ha.mono (fun b _ hb => by omega))
  have HA8 : Hid (WAt ((w7.setCell ⟨rb + 1, 0, none⟩ (.int .i64 3)).setCell ⟨rb + 1, 2, none⟩ (.slice va vn vc)) (fun b => rb + 1 < b) (.slice va vn vc) l) := Lw.hid (HA7.out.kept (S := fun b => b = rb + 1) (Kept.set (S := fun b => b = rb + 1) (Kept.set (S := fun b => b = rb + 1) (Kept.refl _ w7) _ _ (fun _ => rfl) _) _ _ (fun _ => rfl) _) (fun b hb e => by have e' : b = rb + 1 := e; omega))
  clear hr kk ha
  clear p0 p1 p2 p3 pf0 pf1 pf2 pf3 q0 q1 q2 q3 qf0 qf1 qf2 qf3 g0 g1 gf0 gf1
  obtain ⟨⟨p0, p1, p2, p3⟩, pf0, pf1, pf2, pf3⟩ := HD7.out.par.cells
  obtain ⟨⟨q0, q1, q2, q3⟩, qf0, qf1, qf2, qf3⟩ := HD7.out.res.cells
  obtain ⟨⟨g0, g1⟩, gf0, gf1⟩ := HD7.out.rdr.cells
  go_wp2_with fail
  have hend := dl_end (r := r) (w' := _) (((HD7.out.setK 3).setO (.slice va vn vc)).setBad true) HDR.out (HA8.out.kept (S := fun b => b = g) (Kept.set (S := fun b => b = g) (Kept.refl _ _) _ _ (fun _ => rfl) _) (fun b hb e => by have e' : b = g := e; omega)) rfl
  obtain ⟨⟨e0, e1, e2, e3⟩, _⟩ := hend.1.cells
  refine bodyPost_ret (v := PV _ (.slice va vn vc)) (by simp [results, go_sem, e0, e1, e2, e3, PV, Prt.kind, Prt.text, Prt.quoted]) rfl hend.2
set_option maxHeartbeats 16000000 in
theorem dollar_or_yes (q : Bool) (w : World) (g : Nat) (r : List UInt8) (h : RdrAt w g ⟨r, false⟩) (hr9 : r.length ≤ 100000) (h1 : r.take 2 ≠ [40, 40]) (h2 : r.take 1 = [123]) (t s : List UInt8) (ht : nameT (r.drop 1) = t) (hs : (r.drop 1).drop t.length = s) (h4 : t ≠ []) (h5 : s.take 2 = [58, 45]) (N : Nat) (HW : Hid (CWord N)) (hN : r.length ≤ N) (hE : WEnv w) (l : List Prt) (u : List UInt8) (hu : wordW .brc q [] ⟨s.drop 2, false⟩ = (l, ⟨u, false⟩)) (h6 : u.take 1 = [125]) :
    Calls Tryd.prog 89 #[.pointer (some ⟨g, 0, none⟩), .bool q] w (DollarPost w g q r) := by
  have hl1 : (r.drop 1).length ≤ 1000000 := by rw [List.length_drop]; omega
  have hb0 : t.isEmpty = false := by simpa using h4
  have hsl : s.length ≤ r.length := by rw [← hs]; simp only [List.length_drop]; omega
  have HE := Lw.hid hE
  have HU := Lw.hid hu
  have h0 := h
  have H0 := Lw.hid h0
  clear h0
  have hd : dollarR (wordW .brc q []) q r = (.mk 3 t l q, ⟨u.drop 1, false⟩) := by unfold dollarR closeR; rw [if_neg h1, if_pos h2, ht, hs, if_neg h4, if_pos h5, hu]; simp [h6]
  have HDR := Lw.hid hd
  have hul : u.length ≤ 100000 := by
    have := wordW_len .brc q [] ⟨s.drop 2, false⟩
    rw [hu] at this
    simp only [List.length_drop] at this
    omega
  have hs2 : (s.drop 2).length ≤ N := by rw [List.length_drop]; omega
  clear hu
  have hgl := h.lt
  have hD : DlAt w ((w.alloc (.cells #[.int .i64 0, .string ⟨#[]⟩, .slice none 0 0, .bool false] 46)).alloc (.cells #[.int .i64 0, .string ⟨#[]⟩, .slice none 0 0, .bool q] 46)) g w.heap.size ⟨r, false⟩ 0 [] (.slice none 0 0) q :=
    ⟨h.kept (((Kept.refl (fun _ => False) w).alloc _).alloc _) (fun h => h), by have := heap_alloc (w.alloc (.cells #[.int .i64 0, .string ⟨#[]⟩, .slice none 0 0, .bool false] 46)) (.cells #[.int .i64 0, .string ⟨#[]⟩, .slice none 0 0, .bool q] 46); rw [World.size_alloc] at this; exact this,
      (Below.heap_alloc _ _ _ (by simp)).trans (heap_alloc w _), ((K1.refl g w).alloc _).alloc _, rfl, hgl⟩
  obtain ⟨rb, hrb⟩ : ∃ rb, w.heap.size = rb := ⟨_, rfl⟩
  clear h
  go_enter Tryd.func89, Tryd.ntmps89
  go_wp2_with fail
  generalize (w.alloc (.cells #[.int .i64 0, .string ⟨#[]⟩, .slice none 0 0, .bool false] 46)).alloc (.cells #[.int .i64 0, .string ⟨#[]⟩, .slice none 0 0, .bool q] 46) = w2 at hD ⊢
  rw [hrb] at hD hgl
  have HD2 := Lw.hid hD
  clear hD
  refine (starts_any _ g r [40, 40] false HD2.out.rdr (by omega) (by decide) false (take_ne (p := [40, 40]) h1)).mono ?_
  rintro x w3 ⟨rfl, hr, kk⟩
  have HD3 : Hid (DlAt w w3 g rb ⟨r, false⟩ 0 [] (.slice none 0 0) q) := Lw.hid (HD2.out.call hr kk)
  clear hr kk
  obtain ⟨⟨p0, p1, p2, p3⟩, pf0, pf1, pf2, pf3⟩ := HD3.out.par.cells
  obtain ⟨⟨q0, q1, q2, q3⟩, qf0, qf1, qf2, qf3⟩ := HD3.out.res.cells
  obtain ⟨⟨g0, g1⟩, gf0, gf1⟩ := HD3.out.rdr.cells
  go_wp2_with fail
  refine (starts_any _ g r [123] false HD3.out.rdr (by omega) (by decide) true (by simp [h2])).mono ?_
  rintro x w4 ⟨rfl, hr, kk⟩
  have HD4 : Hid (DlAt w w4 g rb ⟨(r.drop 1), false⟩ 0 [] (.slice none 0 0) q) := Lw.hid (HD3.out.call hr kk)
  clear hr kk
  clear p0 p1 p2 p3 pf0 pf1 pf2 pf3 q0 q1 q2 q3 qf0 qf1 qf2 qf3 g0 g1 gf0 gf1
  obtain ⟨⟨p0, p1, p2, p3⟩, pf0, pf1, pf2, pf3⟩ := HD4.out.par.cells
  obtain ⟨⟨q0, q1, q2, q3⟩, qf0, qf1, qf2, qf3⟩ := HD4.out.res.cells
  obtain ⟨⟨g0, g1⟩, gf0, gf1⟩ := HD4.out.rdr.cells
  go_wp2_with fail
  refine (rname_any _ g (r.drop 1) false HD4.out.rdr hl1).mono ?_
  rw [ht, hs]
  rintro x w5 ⟨rfl, hr, kk⟩
  have HD5 : Hid (DlAt w w5 g rb ⟨s, false⟩ 0 [] (.slice none 0 0) q) := Lw.hid (HD4.out.call hr kk)
  clear hr kk
  clear p0 p1 p2 p3 pf0 pf1 pf2 pf3 q0 q1 q2 q3 qf0 qf1 qf2 qf3 g0 g1 gf0 gf1
  obtain ⟨⟨p0, p1, p2, p3⟩, pf0, pf1, pf2, pf3⟩ := HD5.out.par.cells
  obtain ⟨⟨q0, q1, q2, q3⟩, qf0, qf1, qf2, qf3⟩ := HD5.out.res.cells
  obtain ⟨⟨g0, g1⟩, gf0, gf1⟩ := HD5.out.rdr.cells
  go_wp2_with fail
  refine (starts_any _ g s [58, 45] false ((HD5.out.setK 2).setT t).rdr (by omega) (by decide) true (by simp [h5])).mono ?_
  rintro x w6 ⟨rfl, hr, kk⟩
  have HD6 : Hid (DlAt w w6 g rb ⟨(s.drop 2), false⟩ 2 t (.slice none 0 0) q) := Lw.hid (((HD5.out.setK 2).setT t).call hr kk)
  clear hr kk
  clear p0 p1 p2 p3 pf0 pf1 pf2 pf3 q0 q1 q2 q3 qf0 qf1 qf2 qf3 g0 g1 gf0 gf1
  obtain ⟨⟨p0, p1, p2, p3⟩, pf0, pf1, pf2, pf3⟩ := HD6.out.par.cells
  obtain ⟨⟨q0, q1, q2, q3⟩, qf0, qf1, qf2, qf3⟩ := HD6.out.res.cells
  obtain ⟨⟨g0, g1⟩, gf0, gf1⟩ := HD6.out.rdr.cells
  go_wp2_with fail
  refine (HW.out .brc q _ g (s.drop 2) hs2 HD6.out.rdr (HE.out.kept1 H0.out HD6.out.kept)).mono ?_
  rintro x w7 ⟨v, rfl, hr, ha, kk⟩
  rw [HU.out] at hr ha
  obtain ⟨va, vn, vc, rfl⟩ := ha.slice
  have HD7 : Hid (DlAt w w7 g rb ⟨u, false⟩ 2 t (.slice none 0 0) q) := Lw.hid (HD6.out.call hr kk)
  have hpl : rb + 1 < w6.heap.size := heap_lt HD6.out.par
  have HA7 : Hid (WAt w7 (fun b => rb + 1 < b) (.slice va vn vc) l) := Lw.hid (ha.mono (fun b _ hb => by omega))
  have HA8 : Hid (WAt ((w7.setCell ⟨rb + 1, 0, none⟩ (.int .i64 3)).setCell ⟨rb + 1, 2, none⟩ (.slice va vn vc)) (fun b => rb + 1 < b) (.slice va vn vc) l) := Lw.hid (HA7.out.kept (S := fun b => b = rb + 1) (Kept.set (S := fun b => b = rb + 1) (Kept.set (S := fun b => b = rb + 1) (Kept.refl _ w7) _ _ (fun _ => rfl) _) _ _ (fun _ => rfl) _) (fun b hb e => by have e' : b = rb + 1 := e; omega))
  clear hr kk ha
  clear p0 p1 p2 p3 pf0 pf1 pf2 pf3 q0 q1 q2 q3 qf0 qf1 qf2 qf3 g0 g1 gf0 gf1
  obtain ⟨⟨p0, p1, p2, p3⟩, pf0, pf1, pf2, pf3⟩ := HD7.out.par.cells
  obtain ⟨⟨q0, q1, q2, q3⟩, qf0, qf1, qf2, qf3⟩ := HD7.out.res.cells
  obtain ⟨⟨g0, g1⟩, gf0, gf1⟩ := HD7.out.rdr.cells
  go_wp2_with fail
  refine (starts_any _ g u [125] false ((HD7.out.setK 3).setO (.slice va vn vc)).rdr (by omega) (by decide) true (by simp [h6])).mono ?_
  rintro x w8 ⟨rfl, hr, kk⟩
  have HD8 : Hid (DlAt w w8 g rb ⟨(u.drop 1), false⟩ 3 t (.slice va vn vc) q) := Lw.hid (((HD7.out.setK 3).setO (.slice va vn vc)).call hr kk)
  have HA9 := Lw.hid (HA8.out.kept kk (fun b hb e => by have e' : b = g := e; omega))
  clear hr kk
  clear p0 p1 p2 p3 pf0 pf1 pf2 pf3 q0 q1 q2 q3 qf0 qf1 qf2 qf3 g0 g1 gf0 gf1
  obtain ⟨⟨p0, p1, p2, p3⟩, pf0, pf1, pf2, pf3⟩ := HD8.out.par.cells
  obtain ⟨⟨q0, q1, q2, q3⟩, qf0, qf1, qf2, qf3⟩ := HD8.out.res.cells
  obtain ⟨⟨g0, g1⟩, gf0, gf1⟩ := HD8.out.rdr.cells
  go_wp2_with fail
  have hend := dl_end (r := r) (w' := _) (HD8.out.setBad false) HDR.out (HA9.out.kept (S := fun b => b = g) (Kept.set (S := fun b => b = g) (Kept.refl _ _) _ _ (fun _ => rfl) _) (fun b hb e => by have e' : b = g := e; omega)) rfl
  obtain ⟨⟨e0, e1, e2, e3⟩, _⟩ := hend.1.cells
  refine bodyPost_ret (v := PV _ (.slice va vn vc)) (by simp [results, go_sem, e0, e1, e2, e3, PV, Prt.kind, Prt.text, Prt.quoted]) rfl hend.2
set_option maxHeartbeats 16000000 in
theorem dollar_or_no (q : Bool) (w : World) (g : Nat) (r : List UInt8) (h : RdrAt w g ⟨r, false⟩) (hr9 : r.length ≤ 100000) (h1 : r.take 2 ≠ [40, 40]) (h2 : r.take 1 = [123]) (t s : List UInt8) (ht : nameT (r.drop 1) = t) (hs : (r.drop 1).drop t.length = s) (h4 : t ≠ []) (h5 : s.take 2 = [58, 45]) (N : Nat) (HW : Hid (CWord N)) (hN : r.length ≤ N) (hE : WEnv w) (l : List Prt) (u : List UInt8) (hu : wordW .brc q [] ⟨s.drop 2, false⟩ = (l, ⟨u, false⟩)) (h6 : u.take 1 ≠ [125]) :
    Calls Tryd.prog 89 #[.pointer (some ⟨g, 0, none⟩), .bool q] w (DollarPost w g q r) := by
  have hl1 : (r.drop 1).length ≤ 1000000 := by rw [List.length_drop]; omega
  have hb0 : t.isEmpty = false := by simpa using h4
  have hsl : s.length ≤ r.length := by rw [← hs]; simp only [List.length_drop]; omega
  have HE := Lw.hid hE
  have HU := Lw.hid hu
  have h0 := h
  have H0 := Lw.hid h0
  clear h0
  have hd : dollarR (wordW .brc q []) q r = (.mk 3 t l q, ⟨u, true⟩) := by unfold dollarR closeR; rw [if_neg h1, if_pos h2, ht, hs, if_neg h4, if_pos h5, hu]; simp [h6]
  have HDR := Lw.hid hd
  have hul : u.length ≤ 100000 := by
    have := wordW_len .brc q [] ⟨s.drop 2, false⟩
    rw [hu] at this
    simp only [List.length_drop] at this
    omega
  have hs2 : (s.drop 2).length ≤ N := by rw [List.length_drop]; omega
  clear hu
  have hgl := h.lt
  have hD : DlAt w ((w.alloc (.cells #[.int .i64 0, .string ⟨#[]⟩, .slice none 0 0, .bool false] 46)).alloc (.cells #[.int .i64 0, .string ⟨#[]⟩, .slice none 0 0, .bool q] 46)) g w.heap.size ⟨r, false⟩ 0 [] (.slice none 0 0) q :=
    ⟨h.kept (((Kept.refl (fun _ => False) w).alloc _).alloc _) (fun h => h), by have := heap_alloc (w.alloc (.cells #[.int .i64 0, .string ⟨#[]⟩, .slice none 0 0, .bool false] 46)) (.cells #[.int .i64 0, .string ⟨#[]⟩, .slice none 0 0, .bool q] 46); rw [World.size_alloc] at this; exact this,
      (Below.heap_alloc _ _ _ (by simp)).trans (heap_alloc w _), ((K1.refl g w).alloc _).alloc _, rfl, hgl⟩
  obtain ⟨rb, hrb⟩ : ∃ rb, w.heap.size = rb := ⟨_, rfl⟩
  clear h
  go_enter Tryd.func89, Tryd.ntmps89
  go_wp2_with fail
  generalize (w.alloc (.cells #[.int .i64 0, .string ⟨#[]⟩, .slice none 0 0, .bool false] 46)).alloc (.cells #[.int .i64 0, .string ⟨#[]⟩, .slice none 0 0, .bool q] 46) = w2 at hD ⊢
  rw [hrb] at hD hgl
  have HD2 := Lw.hid hD
  clear hD
  refine (starts_any _ g r [40, 40] false HD2.out.rdr (by omega) (by decide) false (take_ne (p := [40, 40]) h1)).mono ?_
  rintro x w3 ⟨rfl, hr, kk⟩
  have HD3 : Hid (DlAt w w3 g rb ⟨r, false⟩ 0 [] (.slice none 0 0) q) := Lw.hid (HD2.out.call hr kk)
  clear hr kk
  obtain ⟨⟨p0, p1, p2, p3⟩, pf0, pf1, pf2, pf3⟩ := HD3.out.par.cells
  obtain ⟨⟨q0, q1, q2, q3⟩, qf0, qf1, qf2, qf3⟩ := HD3.out.res.cells
  obtain ⟨⟨g0, g1⟩, gf0, gf1⟩ := HD3.out.rdr.cells
  go_wp2_with fail
  refine (starts_any _ g r [123] false HD3.out.rdr (by omega) (by decide) true (by simp [h2])).mono ?_
  rintro x w4 ⟨rfl, hr, kk⟩
  have HD4 : Hid (DlAt w w4 g rb ⟨(r.drop 1), false⟩ 0 [] (.slice none 0 0) q) := Lw.hid (HD3.out.call hr kk)
  clear hr kk
  clear p0 p1 p2 p3 pf0 pf1 pf2 pf3 q0 q1 q2 q3 qf0 qf1 qf2 qf3 g0 g1 gf0 gf1
  obtain ⟨⟨p0, p1, p2, p3⟩, pf0, pf1, pf2, pf3⟩ := HD4.out.par.cells
  obtain ⟨⟨q0, q1, q2, q3⟩, qf0, qf1, qf2, qf3⟩ := HD4.out.res.cells
  obtain ⟨⟨g0, g1⟩, gf0, gf1⟩ := HD4.out.rdr.cells
  go_wp2_with fail
  refine (rname_any _ g (r.drop 1) false HD4.out.rdr hl1).mono ?_
  rw [ht, hs]
  rintro x w5 ⟨rfl, hr, kk⟩
  have HD5 : Hid (DlAt w w5 g rb ⟨s, false⟩ 0 [] (.slice none 0 0) q) := Lw.hid (HD4.out.call hr kk)
  clear hr kk
  clear p0 p1 p2 p3 pf0 pf1 pf2 pf3 q0 q1 q2 q3 qf0 qf1 qf2 qf3 g0 g1 gf0 gf1
  obtain ⟨⟨p0, p1, p2, p3⟩, pf0, pf1, pf2, pf3⟩ := HD5.out.par.cells
  obtain ⟨⟨q0, q1, q2, q3⟩, qf0, qf1, qf2, qf3⟩ := HD5.out.res.cells
  obtain ⟨⟨g0, g1⟩, gf0, gf1⟩ := HD5.out.rdr.cells
  go_wp2_with fail
  refine (starts_any _ g s [58, 45] false ((HD5.out.setK 2).setT t).rdr (by omega) (by decide) true (by simp [h5])).mono ?_
  rintro x w6 ⟨rfl, hr, kk⟩
  have HD6 : Hid (DlAt w w6 g rb ⟨(s.drop 2), false⟩ 2 t (.slice none 0 0) q) := Lw.hid (((HD5.out.setK 2).setT t).call hr kk)
  clear hr kk
  clear p0 p1 p2 p3 pf0 pf1 pf2 pf3 q0 q1 q2 q3 qf0 qf1 qf2 qf3 g0 g1 gf0 gf1
  obtain ⟨⟨p0, p1, p2, p3⟩, pf0, pf1, pf2, pf3⟩ := HD6.out.par.cells
  obtain ⟨⟨q0, q1, q2, q3⟩, qf0, qf1, qf2, qf3⟩ := HD6.out.res.cells
  obtain ⟨⟨g0, g1⟩, gf0, gf1⟩ := HD6.out.rdr.cells
  go_wp2_with fail
  refine (HW.out .brc q _ g (s.drop 2) hs2 HD6.out.rdr (HE.out.kept1 H0.out HD6.out.kept)).mono ?_
  rintro x w7 ⟨v, rfl, hr, ha, kk⟩
  rw [HU.out] at hr ha
  obtain ⟨va, vn, vc, rfl⟩ := ha.slice
  have HD7 : Hid (DlAt w w7 g rb ⟨u, false⟩ 2 t (.slice none 0 0) q) := Lw.hid (HD6.out.call hr kk)
  have hpl : rb + 1 < w6.heap.size := heap_lt HD6.out.par
  have HA7 : Hid (WAt w7 (fun b => rb + 1 < b) (.slice va vn vc) l) := Lw.hid (ha.mono (fun b _ hb => by omega))
  have HA8 : Hid (WAt ((w7.setCell ⟨rb + 1, 0, none⟩ (.int .i64 3)).setCell ⟨rb + 1, 2, none⟩ (.slice va vn vc)) (fun b => rb + 1 < b) (.slice va vn vc) l) := Lw.hid (HA7.out.kept (S := fun b => b = rb + 1) (Kept.set (S := fun b => b = rb + 1) (Kept.set (S := fun b => b = rb + 1) (Kept.refl _ w7) _ _ (fun _ => rfl) _) _ _ (fun _ => rfl) _) (fun b hb e => by have e' : b = rb + 1 := e; omega))
  clear hr kk ha
  clear p0 p1 p2 p3 pf0 pf1 pf2 pf3 q0 q1 q2 q3 qf0 qf1 qf2 qf3 g0 g1 gf0 gf1
  obtain ⟨⟨p0, p1, p2, p3⟩, pf0, pf1, pf2, pf3⟩ := HD7.out.par.cells
  obtain ⟨⟨q0, q1, q2, q3⟩, qf0, qf1, qf2, qf3⟩ := HD7.out.res.cells
  obtain ⟨⟨g0, g1⟩, gf0, gf1⟩ := HD7.out.rdr.cells
  go_wp2_with fail
  refine (starts_any _ g u [125] false ((HD7.out.setK 3).setO (.slice va vn vc)).rdr (by omega) (by decide) false (take_ne (p := [125]) h6)).mono ?_
  rintro x w8 ⟨rfl, hr, kk⟩
  have HD8 : Hid (DlAt w w8 g rb ⟨u, false⟩ 3 t (.slice va vn vc) q) := Lw.hid (((HD7.out.setK 3).setO (.slice va vn vc)).call hr kk)
  have HA9 := Lw.hid (HA8.out.kept kk (fun b hb e => by have e' : b = g := e; omega))
  clear hr kk
  clear p0 p1 p2 p3 pf0 pf1 pf2 pf3 q0 q1 q2 q3 qf0 qf1 qf2 qf3 g0 g1 gf0 gf1
  obtain ⟨⟨p0, p1, p2, p3⟩, pf0, pf1, pf2, pf3⟩ := HD8.out.par.cells
  obtain ⟨⟨q0, q1, q2, q3⟩, qf0, qf1, qf2, qf3⟩ := HD8.out.res.cells
  obtain ⟨⟨g0, g1⟩, gf0, gf1⟩ := HD8.out.rdr.cells
  go_wp2_with fail
  have hend := dl_end (r := r) (w' := _) (HD8.out.setBad true) HDR.out (HA9.out.kept (S := fun b => b = g) (Kept.set (S := fun b => b = g) (Kept.refl _ _) _ _ (fun _ => rfl) _) (fun b hb e => by have e' : b = g := e; omega)) rfl
  obtain ⟨⟨e0, e1, e2, e3⟩, _⟩ := hend.1.cells
  refine bodyPost_ret (v := PV _ (.slice va vn vc)) (by simp [results, go_sem, e0, e1, e2, e3, PV, Prt.kind, Prt.text, Prt.quoted]) rfl hend.2
/-- dollar. -/
theorem dollar_any (N : Nat) (HW : Hid (CWord N)) (q : Bool) (w : World) (g : Nat) (r : List UInt8) (h : RdrAt w g ⟨r, false⟩) (hr9 : r.length ≤ 100000) (hN : r.length ≤ N) (hE : WEnv w) :
    Calls Tryd.prog 89 #[.pointer (some ⟨g, 0, none⟩), .bool q] w (DollarPost w g q r) := by
  by_cases h1 : r.take 2 = [40, 40]
  · exact dollar_arith q w g r h hr9 h1
  by_cases h2 : r.take 1 = [123]
  · by_cases h4 : nameT (r.drop 1) = []
    · exact dollar_noname q w g r h hr9 h1 h2 h4
    by_cases h5 : ((r.drop 1).drop (nameT (r.drop 1)).length).take 2 = [58, 45]
    · obtain ⟨l, ⟨u, b⟩, hu⟩ : ∃ l st, wordW .brc q [] ⟨((r.drop 1).drop (nameT (r.drop 1)).length).drop 2, false⟩ = (l, st) := ⟨_, _, rfl⟩
      cases b with
      | true => exact dollar_or_bad q w g r h hr9 h1 h2 _ _ rfl rfl h4 h5 N HW hN hE l u hu
      | false =>
        by_cases h6 : u.take 1 = [125]
        · exact dollar_or_yes q w g r h hr9 h1 h2 _ _ rfl rfl h4 h5 N HW hN hE l u hu h6
        · exact dollar_or_no q w g r h hr9 h1 h2 _ _ rfl rfl h4 h5 N HW hN hE l u hu h6
    · by_cases h6 : ((r.drop 1).drop (nameT (r.drop 1)).length).take 1 = [125]
      · exact dollar_brace q w g r h hr9 h1 h2 _ _ rfl rfl h4 h5 h6
      · exact dollar_brace_no q w g r h hr9 h1 h2 _ _ rfl rfl h4 h5 h6
  by_cases h3 : r.take 1 = [63]
  · exact dollar_status q w g r h hr9 h1 h2 h3
  by_cases h4 : nameT r = []
  · exact dollar_plain q w g r h hr9 h1 h2 h3 h4
  · exact dollar_name q w g r h hr9 h1 h2 h3 h4
end Go.Proofs.YtifcgeanippepaaDoor
