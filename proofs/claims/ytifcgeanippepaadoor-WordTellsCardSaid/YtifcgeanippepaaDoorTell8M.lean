/- WordTells: the document's reader: dollar. -/
import Derived.Test.YtifcgeanippepaaDoorTell6M
import Derived.Test.YtifcgeanippepaaDoorM29
namespace Go.Proofs.YtifcgeanippepaaDoor
open Go Go.RowKit Go.Lw
set_option maxRecDepth 100000
set_option linter.unusedVariables false
set_option linter.unusedSimpArgs false
attribute [local go_sem] BA_toList
def endN : Lv → Nat
  | .bare => 0
  | .dbl => 34
  | .brc => 125
/-- What reading a word leaves behind. -/
def WordZ (w : World) (g : Nat) (S : List UInt8) (a : Nat) (lv : Lv) (q : Bool) (x : Ending) (w' : World) : Prop :=
  ∃ (v : Value) (l : List Prt) (c : Nat) (bad : Bool), x = .returned v ∧ RdZ w' g S c bad ∧ WAt w' (fun b => w.heap.size ≤ b) v l ∧ K1 g w w' ∧ (readG refR lv q [] ⟨S.drop a, false⟩).2.bad = bad ∧
    (bad = false → l = (readG refR lv q [] ⟨S.drop a, false⟩).1 ∧ S.drop c = (readG refR lv q [] ⟨S.drop a, false⟩).2.s ∧ a ≤ c ∧ l.length + a ≤ c ∧ tmass l + a ≤ c) ∧ c + a ≤ 2 * S.length + 1 ∧ l.length + a ≤ S.length ∧ tmass l + a ≤ S.length ∧ (l = [] → v = .slice none 0 0)
/-- The contract of word, where so many bytes are left. -/
def CWordZ (M : Nat) : Prop := ∀ (lv : Lv) (q : Bool) (w : World) (g : Nat) (S : List UInt8) (a : Nat), S.length ≤ 100000 → a ≤ S.length → S.length - a ≤ M → RdZ w g S a false →
  Calls Tryd.prog 97 #[.pointer (some ⟨g, 0, none⟩), .int .u8 (endN lv : Int), .bool q] w (WordZ w g S a lv q)
/-- What dollar leaves behind. -/
def DlZ (w : World) (g : Nat) (S : List UInt8) (d : Nat) (q : Bool) (x : Ending) (w' : World) : Prop :=
  ∃ (p : Prt) (ov : Value) (c : Nat) (bad : Bool), x = .returned (PV p ov) ∧ RdZ w' g S c bad ∧ WAt w' (fun b => w.heap.size ≤ b) ov p.orw ∧ K1 g w w' ∧ (dollarG refR (readG refR .brc q []) q (S.drop d)).2.bad = bad ∧
    (bad = false → p = (dollarG refR (readG refR .brc q []) q (S.drop d)).1 ∧ S.drop c = (dollarG refR (readG refR .brc q []) q (S.drop d)).2.s ∧ d ≤ c ∧ c ≤ S.length ∧ p.text.length + d ≤ c + 1) ∧ c + d ≤ 2 * S.length + 1 ∧ p.text.length + d ≤ S.length + 1
/-- A part's block. -/
def PAz (w : World) (b : Nat) (k : Int) (t : List UInt8) (o : Value) (q : Bool) : Prop := w.heap[b]? = some (.cells #[.int .i64 k, .string (BA t), o, .bool q] 103 (0, 0))
theorem PAz.cells {w : World} {b : Nat} {k : Int} {t : List UInt8} {o : Value} {q : Bool} (h : PAz w b k t o q) :
    (w.cell? ⟨b, 0, none⟩ = some (.int .i64 k) ∧ w.cell? ⟨b, 1, none⟩ = some (.string (BA t)) ∧ w.cell? ⟨b, 2, none⟩ = some o ∧ w.cell? ⟨b, 3, none⟩ = some (.bool q)) ∧
    (w.frozen? ⟨b, 0, none⟩ = false ∧ w.frozen? ⟨b, 1, none⟩ = false ∧ w.frozen? ⟨b, 2, none⟩ = false ∧ w.frozen? ⟨b, 3, none⟩ = false) :=
  ⟨⟨heap_cell h 0, heap_cell h 1, heap_cell h 2, heap_cell h 3⟩, heap_free h 0, heap_free h 1, heap_free h 2, heap_free h 3⟩
/-- Where dollar stands: the reader; the result's cells (block rb). -/
structure DzAt (w0 w : World) (g rb : Nat) (S : List UInt8) (a : Nat) (b : Bool) : Prop where
  rdr : RdZ w g S a b
  res : PAz w rb 0 [] (.slice none 0 0) false
  kept : K1 g w0 w
  lo : w0.heap.size = rb
  lt : g < rb
theorem DzAt.call {w0 w w' : World} {g rb : Nat} {S : List UInt8} {a a' : Nat} {b b' : Bool} (h : DzAt w0 w g rb S a b) (hr : RdZ w' g S a' b') (kk : K1 g w w') : DzAt w0 w' g rb S a' b' :=
  ⟨hr, kk.heap h.res (fun e => by have e' : rb = g := e; have := h.lt; omega), h.kept.then kk, h.lo, h.lt⟩
theorem DzAt.drew {w0 w : World} {g rb : Nat} {S : List UInt8} {a : Nat} {b : Bool} (h : DzAt w0 w g rb S a b) (n : Nat) : DzAt w0 (w.drewN n) g rb S a b := h.call (h.rdr.drewN n) (K1.drewN g w n)
theorem DzAt.at' {w0 w : World} {g rb : Nat} {S : List UInt8} {a : Nat} {b : Bool} (h : DzAt w0 w g rb S a b) {A : Int} (c : Nat) (hA : A = (c : Int)) : DzAt w0 (w.setCell ⟨g, 1, none⟩ (.int .i64 A)) g rb S c b := h.call (h.rdr.at' c hA) ((K1.refl g w).set _)
theorem DzAt.bad' {w0 w : World} {g rb : Nat} {S : List UInt8} {a : Nat} {b : Bool} (h : DzAt w0 w g rb S a b) (c : Bool) : DzAt w0 (w.setCell ⟨g, 2, none⟩ (.bool c)) g rb S a c := h.call (h.rdr.bad' c) ((K1.refl g w).set _)
theorem dz_start {w : World} {g : Nat} {S : List UInt8} {a : Nat} (h : RdZ w g S a false) : DzAt w (w.alloc (.cells #[.int .i64 0, .string ⟨#[]⟩, .slice none 0 0, .bool false] 103)) g w.heap.size S a false :=
  ⟨h.kept ((Kept.refl (fun _ => False) w).alloc _) (fun h => h), heap_alloc w _, (K1.refl g w).alloc _, rfl, h.lt⟩
/-- The result's cells, written. -/
theorem dz_fin {w0 w : World} {g rb : Nat} {S : List UInt8} {a : Nat} {b : Bool} (h : DzAt w0 w g rb S a b) {k : Int} {t : List UInt8} {o : Value} {q : Bool} {l : List Prt} (ho : WAt w (fun b => rb < b) o l) {w' : World} (hw : w' = (((w.setCell ⟨rb, 0, none⟩ (.int .i64 k)).setCell ⟨rb, 1, none⟩ (.string (BA t))).setCell ⟨rb, 2, none⟩ o).setCell ⟨rb, 3, none⟩ (.bool q)) :
    PAz w' rb k t o q ∧ RdZ w' g S a b ∧ K1 g w0 w' ∧ WAt w' (fun b => w0.heap.size ≤ b) o l := by
  subst hw
  have hne : ∀ (W : World) i u, (W.setCell ⟨rb, i, none⟩ u).heap[g]? = W.heap[g]? := fun W i u => Below.heap_setCell _ _ _ _ (fun e => by have e' : g = rb := e; have := h.lt; omega)
  have hr : rb < w0.heap.size → rb = g := fun hl => by have := h.lo; omega
  have hk : Kept (fun b => b = rb) w ((((w.setCell ⟨rb, 0, none⟩ (.int .i64 k)).setCell ⟨rb, 1, none⟩ (.string (BA t))).setCell ⟨rb, 2, none⟩ o).setCell ⟨rb, 3, none⟩ (.bool q)) := Kept.set (S := fun b => b = rb) (Kept.set (S := fun b => b = rb) (Kept.set (S := fun b => b = rb) (Kept.set (S := fun b => b = rb) (Kept.refl _ w) rb 0 (fun _ => rfl) _) rb 1 (fun _ => rfl) _) rb 2 (fun _ => rfl) _) rb 3 (fun _ => rfl) _
  refine ⟨?_, ?_, ?_, ?_⟩
  · exact heap_set (heap_set (heap_set (heap_set h.res 0 _) 1 _) 2 _) 3 _
  · exact (hne _ _ _).trans ((hne _ _ _).trans ((hne _ _ _).trans ((hne _ _ _).trans h.rdr)))
  · exact Kept.set (S := fun b => b = g) (Kept.set (S := fun b => b = g) (Kept.set (S := fun b => b = g) (Kept.set (S := fun b => b = g) h.kept rb 0 hr _) rb 1 hr _) rb 2 hr _) rb 3 hr _
  · exact (ho.kept hk (fun b hb e => by have e' : b = rb := e; omega)).mono (fun b _ hb => by have := h.lo; omega)
theorem ba0 : BA [] = (⟨#[]⟩ : ByteArray) := rfl
theorem ba36 : BA [36] = (⟨#[36]⟩ : ByteArray) := rfl
theorem dl_take1 {r : List UInt8} {k : UInt8} {j : UInt8} (h : r.take 1 = [k]) (hkj : k ≠ j) : (r.take [j].length == [j]) = false := by
  rw [beq_eq_false_iff_ne]
  intro e
  have e' : r.take 1 = [j] := e
  rw [h] at e'
  exact hkj (List.cons.inj e').1
set_option maxHeartbeats 2000000 in
theorem dz_status (q : Bool) (w : World) (g : Nat) (S : List UInt8) (d : Nat) (h : RdZ w g S d false) (hS9 : S.length ≤ 100000) (hd : d ≤ S.length) (h2 : (S.drop d).take 1 = [63]) :
    Calls Tryd.prog 118 #[.pointer (some ⟨g, 0, none⟩), .bool q] w (DlZ w g S d q) := by
  have hne : ¬ (S.drop d).take 2 = [40, 40] := fun e => by
    have := congrArg (List.take 1) e
    rw [List.take_take] at this
    simp [h2] at this
  have HG : Hid (dollarG refR (readG refR .brc q []) q (S.drop d) = (.mk 4 [] [] q, ⟨(S.drop d).drop 1, false⟩)) := Lw.hid (by
    unfold dollarG dollarR
    rw [if_neg hne, if_neg hne, if_neg (by rw [h2]; decide), if_pos h2])
  have hlen : d + 1 ≤ S.length := by
    have := congrArg List.length h2
    rw [List.length_take, List.length_drop] at this
    simp at this; omega
  have HB1 : Hid (((S.drop d).take [40, 40].length == [(40 : UInt8), 40]) = false) := Lw.hid (by rw [beq_eq_false_iff_ne]; exact hne)
  have HB2 : Hid (((S.drop d).take [63].length == [(63 : UInt8)]) = true) := Lw.hid (show ((S.drop d).take 1 == [(63 : UInt8)]) = true from by rw [h2]; rfl)
  clear hne h2
  have hD := dz_start h
  have hgl := h.lt
  obtain ⟨rb, hrb⟩ : ∃ rb, w.heap.size = rb := ⟨_, rfl⟩
  have hzz := BA_size S
  clear h
  go_enter Tryd.func118, Tryd.ntmps118
  go_wp2_with fail
  obtain ⟨w1, hw1⟩ : ∃ w1, w.alloc (.cells #[.int .i64 0, .string ⟨#[]⟩, .slice none 0 0, .bool false] 103) = w1 := ⟨_, rfl⟩
  rw [hw1, hrb] at hD
  rw [hw1]
  rw [hrb] at hgl
  have HD := Lw.hid hD
  first | rw [hrb] | skip
  clear hD hw1
  refine (z_at _ g S d _ (by exact HD.out.rdr) (by omega) (by omega) [40, 40] (by decide) (by decide) false HB1.out).mono ?_
  rintro x _ ⟨rfl, n1, rfl⟩
  go_wp2_with fail
  refine (z_at _ g S d _ (by exact HD.out.rdr) (by omega) (by omega) [63] (by decide) (by decide) true HB2.out).mono ?_
  rintro x _ ⟨rfl, n2, rfl⟩
  have HDd := Lw.hid (HD.out.drew (n1 + n2))
  clear HD
  have HD := HDd
  clear HDd
  obtain ⟨⟨g0, g1, g2⟩, gf0, gf1, gf2⟩ := HD.out.rdr.cells
  obtain ⟨⟨q0, q1, q2, q3⟩, qf0, qf1, qf2, qf3⟩ := HD.out.res.cells
  go_wp2_with fail
  have hfin := dz_fin (k := 4) (t := []) (o := (.slice none 0 0)) (q := q) (l := []) (HD.out.at' (A := (d : Int) + 1) (d + 1) (by omega)) (WAt.nil _ _) (w' := _) rfl
  obtain ⟨⟨e0, e1, e2, e3⟩, _⟩ := hfin.1.cells
  try simp only [ba0, ba36] at e0 e1 e2 e3
  refine bodyPost_ret (v := PV (.mk 4 ([]) [] q) (.slice none 0 0)) (by simp [results, go_sem, e0, e1, e2, e3, PV, Prt.kind, Prt.text, Prt.quoted, ba0, ba36]) rfl ?_
  refine ⟨.mk 4 ([]) [] q, (.slice none 0 0), d + 1, false, rfl, hfin.2.1, hfin.2.2.2, hfin.2.2.1, by rw [HG.out], (fun _ => (by rw [HG.out]; exact ⟨rfl, by rw [List.drop_drop], by omega, by omega, by show 0 + d ≤ _; omega⟩)), by omega, by show 0 + d ≤ _; omega⟩
set_option maxHeartbeats 2000000 in
theorem dz_name (q : Bool) (w : World) (g : Nat) (S : List UInt8) (d : Nat) (h : RdZ w g S d false) (hS9 : S.length ≤ 100000) (hd : d ≤ S.length) (h1 : ¬ (S.drop d).take 2 = [40, 40]) (h2 : ¬ (S.drop d).take 1 = [63]) (h3 : ¬ (S.drop d).take 1 = [123]) :
    Calls Tryd.prog 118 #[.pointer (some ⟨g, 0, none⟩), .bool q] w (DlZ w g S d q) := by
  have HG : Hid (dollarG refR (readG refR .brc q []) q (S.drop d) = if nameT (S.drop d) = [] then (.mk 1 [36] [] q, ⟨S.drop d, false⟩) else (.mk 2 (nameT (S.drop d)) [] q, ⟨(S.drop d).drop (nameT (S.drop d)).length, false⟩)) := Lw.hid (by
    unfold dollarG dollarR
    rw [if_neg h1, if_neg h1, if_neg h3, if_neg h2])
  have HB1 : Hid (((S.drop d).take [40, 40].length == [(40 : UInt8), 40]) = false) := Lw.hid (by rw [beq_eq_false_iff_ne]; exact h1)
  have HB2 : Hid (((S.drop d).take [63].length == [(63 : UInt8)]) = false) := Lw.hid (by rw [beq_eq_false_iff_ne]; exact h2)
  have HB3 : Hid (((S.drop d).take [123].length == [(123 : UInt8)]) = false) := Lw.hid (by rw [beq_eq_false_iff_ne]; exact h3)
  obtain ⟨T, hT⟩ : ∃ T, nameT (S.drop d) = T := ⟨_, rfl⟩
  have htl : d + T.length ≤ S.length := by rw [← hT]; have := nameT_len' (S.drop d); rw [List.length_drop] at this; omega
  have HT := Lw.hid hT
  rw [hT] at HG
  have hTz := BA_size T
  clear h1 h2 h3 hT
  have hD := dz_start h
  have hgl := h.lt
  obtain ⟨rb, hrb⟩ : ∃ rb, w.heap.size = rb := ⟨_, rfl⟩
  have hzz := BA_size S
  clear h
  go_enter Tryd.func118, Tryd.ntmps118
  go_wp2_with fail
  obtain ⟨w1, hw1⟩ : ∃ w1, w.alloc (.cells #[.int .i64 0, .string ⟨#[]⟩, .slice none 0 0, .bool false] 103) = w1 := ⟨_, rfl⟩
  rw [hw1, hrb] at hD
  rw [hw1]
  rw [hrb] at hgl
  have HD := Lw.hid hD
  first | rw [hrb] | skip
  clear hD hw1
  refine (z_at _ g S d _ (by exact HD.out.rdr) (by omega) (by omega) [40, 40] (by decide) (by decide) false HB1.out).mono ?_
  rintro x _ ⟨rfl, n1, rfl⟩
  go_wp2_with fail
  refine (z_at _ g S d _ (by exact HD.out.rdr) (by omega) (by omega) [63] (by decide) (by decide) false HB2.out).mono ?_
  rintro x _ ⟨rfl, n2, rfl⟩
  go_wp2_with fail
  refine (z_at _ g S d _ (by exact HD.out.rdr) (by omega) (by omega) [123] (by decide) (by decide) false HB3.out).mono ?_
  rintro x _ ⟨rfl, n3, rfl⟩
  have HDd := Lw.hid (HD.out.drew (n1 + n2 + n3))
  clear HD
  have HD := HDd
  clear HDd
  go_wp2_with fail
  refine (z_name _ g S d _ HD.out.rdr (by omega) hd).mono ?_
  rw [HT.out]
  rintro x w4 ⟨rfl, hr4, k4⟩
  have HD4 := Lw.hid (HD.out.call hr4 k4)
  clear hr4 k4 HD
  obtain ⟨⟨g0, g1, g2⟩, gf0, gf1, gf2⟩ := HD4.out.rdr.cells
  obtain ⟨⟨q0, q1, q2, q3⟩, qf0, qf1, qf2, qf3⟩ := HD4.out.res.cells
  by_cases hn : T = []
  · subst hn
    rw [if_pos rfl] at HG
    go_wp2_with fail
    have hfin := dz_fin (k := 1) (t := [36]) (o := (.slice none 0 0)) (q := q) (l := []) HD4.out (WAt.nil _ _) (w' := _) rfl
    obtain ⟨⟨e0, e1, e2, e3⟩, _⟩ := hfin.1.cells
    try simp only [ba0, ba36] at e0 e1 e2 e3
    refine bodyPost_ret (v := PV (.mk 1 ([36]) [] q) (.slice none 0 0)) (by simp [results, go_sem, e0, e1, e2, e3, PV, Prt.kind, Prt.text, Prt.quoted, ba0, ba36]) rfl ?_
    refine ⟨.mk 1 ([36]) [] q, (.slice none 0 0), d + 0, false, rfl, hfin.2.1, hfin.2.2.2, hfin.2.2.1, by rw [HG.out], (fun _ => (by rw [HG.out]; exact ⟨rfl, rfl, by omega, by omega, by show 1 + d ≤ _; omega⟩)), by omega, by show 1 + d ≤ _; omega⟩
  · have hb0 : (BA T == (⟨#[]⟩ : ByteArray)) = false := by have := BA_beq T []; rw [show (⟨#[]⟩ : ByteArray) = BA [] from rfl, this]; simpa using hn
    have hb1 : (T == []) = false := by simpa using hn
    have hb2 : T.isEmpty = false := by simpa using hn
    rw [if_neg hn] at HG
    go_wp2_with fail
    have hfin := dz_fin (k := 2) (t := T) (o := (.slice none 0 0)) (q := q) (l := []) HD4.out (WAt.nil _ _) (w' := _) rfl
    obtain ⟨⟨e0, e1, e2, e3⟩, _⟩ := hfin.1.cells
    try simp only [ba0, ba36] at e0 e1 e2 e3
    refine bodyPost_ret (v := PV (.mk 2 (T) [] q) (.slice none 0 0)) (by simp [results, go_sem, e0, e1, e2, e3, PV, Prt.kind, Prt.text, Prt.quoted, ba0, ba36]) rfl ?_
    refine ⟨.mk 2 (T) [] q, (.slice none 0 0), d + T.length, false, rfl, hfin.2.1, hfin.2.2.2, hfin.2.2.1, by rw [HG.out], (fun _ => (by rw [HG.out]; exact ⟨rfl, by rw [List.drop_drop], by omega, by omega, by show T.length + d ≤ _; omega⟩)), by omega, by show T.length + d ≤ _; omega⟩
set_option maxHeartbeats 2000000 in
theorem dz_arith (q : Bool) (w : World) (g : Nat) (S : List UInt8) (d : Nat) (h : RdZ w g S d false) (hS9 : S.length ≤ 100000) (hd : d ≤ S.length) (h1 : (S.drop d).take 2 = [40, 40]) :
    Calls Tryd.prog 118 #[.pointer (some ⟨g, 0, none⟩), .bool q] w (DlZ w g S d q) := by
  have hlen : d + 2 ≤ S.length := by
    have := congrArg List.length h1
    rw [List.length_take, List.length_drop] at this
    simp at this; omega
  have HB1 : Hid (((S.drop d).take [40, 40].length == [(40 : UInt8), 40]) = true) := Lw.hid (show ((S.drop d).take 2 == [(40 : UInt8), 40]) = true from by rw [h1]; rfl)
  have HG : Hid (dollarG refR (readG refR .brc q []) q (S.drop d) = match arN 0 (S.drop (d + 2)) with
      | some x => (.mk 5 x.1 [] q, ⟨x.2, false⟩)
      | none => (.mk 5 [] [] q, ⟨(S.drop d).drop 2, true⟩)) := Lw.hid (by
    unfold dollarG
    rw [if_pos h1, List.drop_drop]; rfl)
  clear h1
  have hD := dz_start h
  have hgl := h.lt
  obtain ⟨rb, hrb⟩ : ∃ rb, w.heap.size = rb := ⟨_, rfl⟩
  have hzz := BA_size S
  clear h
  go_enter Tryd.func118, Tryd.ntmps118
  go_wp2_with fail
  obtain ⟨w1, hw1⟩ : ∃ w1, w.alloc (.cells #[.int .i64 0, .string ⟨#[]⟩, .slice none 0 0, .bool false] 103) = w1 := ⟨_, rfl⟩
  rw [hw1, hrb] at hD
  rw [hw1]
  rw [hrb] at hgl
  have HD := Lw.hid hD
  first | rw [hrb] | skip
  clear hD hw1
  refine (z_at _ g S d _ (by exact HD.out.rdr) (by omega) (by omega) [40, 40] (by decide) (by decide) true HB1.out).mono ?_
  rintro x _ ⟨rfl, n1, rfl⟩
  have HDd := Lw.hid (HD.out.drew (n1))
  clear HD
  have HD := HDd
  clear HDd
  obtain ⟨⟨g0, g1, g2⟩, gf0, gf1, gf2⟩ := HD.out.rdr.cells
  obtain ⟨⟨q0, q1, q2, q3⟩, qf0, qf1, qf2, qf3⟩ := HD.out.res.cells
  go_wp2_with fail
  have HD2 := Lw.hid (HD.out.at' (A := (d : Int) + 2) (d + 2) (by omega))
  clear HD
  clear g0 g1 g2 gf0 gf1 gf2 q0 q1 q2 q3 qf0 qf1 qf2 qf3
  refine (z_arith _ g S (d + 2) _ HD2.out.rdr (by omega) hlen).mono ?_
  rintro x w4 ⟨hp, k4⟩
  unfold ArZPost at hp
  cases har : arN 0 (S.drop (d + 2)) with
  | some y =>
    rw [har] at hp HG
    obtain ⟨rfl, c, hc1, hc2, hc3, hr4⟩ := hp
    have hm := arN_mass _ _ har
    rw [List.length_drop] at hm
    have hm2 : y.1.length + (d + 2) ≤ c := by
      have h5 := congrArg List.length hc3
      rw [List.length_drop] at h5
      omega
    have HD4 := Lw.hid (HD2.out.call hr4 k4)
    have HC3 := Lw.hid hc3
    clear hr4 k4 HD2 har hm hc3
    obtain ⟨⟨g0, g1, g2⟩, gf0, gf1, gf2⟩ := HD4.out.rdr.cells
    obtain ⟨⟨q0, q1, q2, q3⟩, qf0, qf1, qf2, qf3⟩ := HD4.out.res.cells
    go_wp2_with fail
    have hfin := dz_fin (k := 5) (t := y.1) (o := (.slice none 0 0)) (q := q) (l := []) HD4.out (WAt.nil _ _) (w' := _) rfl
    obtain ⟨⟨e0, e1, e2, e3⟩, _⟩ := hfin.1.cells
    try simp only [ba0, ba36] at e0 e1 e2 e3
    refine bodyPost_ret (v := PV (.mk 5 (y.1) [] q) (.slice none 0 0)) (by simp [results, go_sem, e0, e1, e2, e3, PV, Prt.kind, Prt.text, Prt.quoted, ba0, ba36]) rfl ?_
    refine ⟨.mk 5 (y.1) [] q, (.slice none 0 0), c, false, rfl, hfin.2.1, hfin.2.2.2, hfin.2.2.1, by rw [HG.out], (fun _ => (by rw [HG.out]; exact ⟨rfl, HC3.out, by omega, hc2, by show y.1.length + d ≤ _; omega⟩)), by omega, by show y.1.length + d ≤ _; omega⟩
  | none =>
    rw [har] at hp HG
    obtain ⟨c, rfl, hc1, hr4⟩ := hp
    have HD4 := Lw.hid (HD2.out.call hr4 k4)
    clear hr4 k4 HD2 har
    obtain ⟨⟨g0, g1, g2⟩, gf0, gf1, gf2⟩ := HD4.out.rdr.cells
    obtain ⟨⟨q0, q1, q2, q3⟩, qf0, qf1, qf2, qf3⟩ := HD4.out.res.cells
    go_wp2_with fail
    have hfin := dz_fin (k := 5) (t := []) (o := (.slice none 0 0)) (q := q) (l := []) HD4.out (WAt.nil _ _) (w' := _) rfl
    obtain ⟨⟨e0, e1, e2, e3⟩, _⟩ := hfin.1.cells
    try simp only [ba0, ba36] at e0 e1 e2 e3
    refine bodyPost_ret (v := PV (.mk 5 ([]) [] q) (.slice none 0 0)) (by simp [results, go_sem, e0, e1, e2, e3, PV, Prt.kind, Prt.text, Prt.quoted, ba0, ba36]) rfl ?_
    refine ⟨.mk 5 ([]) [] q, (.slice none 0 0), c, true, rfl, hfin.2.1, hfin.2.2.2, hfin.2.2.1, by rw [HG.out], (fun e => (by cases e)), by omega, by show 0 + d ≤ _; omega⟩
end Go.Proofs.YtifcgeanippepaaDoor
