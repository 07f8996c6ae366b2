/- WordTells: the document's reader: dollar, behind a curly bracket. -/
import Derived.Test.YtifcgeanippepaaDoorTell8M
namespace Go.Proofs.YtifcgeanippepaaDoor
open Go Go.RowKit Go.Lw
set_option maxRecDepth 100000
set_option linter.unusedVariables false
set_option linter.unusedSimpArgs false
attribute [local go_sem] BA_toList
/-- Where dollar stands, with its part (block pb). -/
structure BzAt (w0 w : World) (g rb pb : Nat) (S : List UInt8) (a : Nat) (b : Bool) (k : Int) (t : List UInt8) (o : Value) (q : Bool) : Prop where
  base : DzAt w0 w g rb S a b
  par : PAz w pb k t o q
  lt : rb < pb
theorem BzAt.call {w0 w w' : World} {g rb pb : Nat} {S : List UInt8} {a a' : Nat} {b b' : Bool} {k : Int} {t : List UInt8} {o : Value} {q : Bool} (h : BzAt w0 w g rb pb S a b k t o q) (hr : RdZ w' g S a' b') (kk : K1 g w w') : BzAt w0 w' g rb pb S a' b' k t o q :=
  ⟨h.base.call hr kk, kk.heap h.par (fun e => by have e' : pb = g := e; have := h.lt; have := h.base.lt; omega), h.lt⟩
theorem BzAt.drew {w0 w : World} {g rb pb : Nat} {S : List UInt8} {a : Nat} {b : Bool} {k : Int} {t : List UInt8} {o : Value} {q : Bool} (h : BzAt w0 w g rb pb S a b k t o q) (n : Nat) : BzAt w0 (w.drewN n) g rb pb S a b k t o q := h.call (h.base.rdr.drewN n) (K1.drewN g w n)
theorem BzAt.at' {w0 w : World} {g rb pb : Nat} {S : List UInt8} {a : Nat} {b : Bool} {k : Int} {t : List UInt8} {o : Value} {q : Bool} (h : BzAt w0 w g rb pb S a b k t o q) {A : Int} (c : Nat) (hA : A = (c : Int)) : BzAt w0 (w.setCell ⟨g, 1, none⟩ (.int .i64 A)) g rb pb S c b k t o q := h.call (h.base.rdr.at' c hA) ((K1.refl g w).set _)
theorem BzAt.bad' {w0 w : World} {g rb pb : Nat} {S : List UInt8} {a : Nat} {b : Bool} {k : Int} {t : List UInt8} {o : Value} {q : Bool} (h : BzAt w0 w g rb pb S a b k t o q) (c : Bool) : BzAt w0 (w.setCell ⟨g, 2, none⟩ (.bool c)) g rb pb S a c k t o q := h.call (h.base.rdr.bad' c) ((K1.refl g w).set _)
theorem BzAt.made {w0 w : World} {g rb : Nat} {S : List UInt8} {a : Nat} {b : Bool} (h : DzAt w0 w g rb S a b) (k : Int) (t : List UInt8) (o : Value) (q : Bool) : BzAt w0 (w.alloc (.cells #[.int .i64 k, .string (BA t), o, .bool q] 103)) g rb w.heap.size S a b k t o q :=
  ⟨h.call (h.rdr.kept ((Kept.refl (fun _ => False) w).alloc _) (fun h => h)) ((K1.refl g w).alloc _), heap_alloc w _, heap_lt h.res⟩
theorem BzAt.setP {w0 w : World} {g rb pb : Nat} {S : List UInt8} {a : Nat} {b : Bool} {k k' : Int} {t : List UInt8} {o o' : Value} {q : Bool} (h : BzAt w0 w g rb pb S a b k t o q) (i : Nat) (u : Value) (hp : PAz (w.setCell ⟨pb, i, none⟩ u) pb k' t o' q) : BzAt w0 (w.setCell ⟨pb, i, none⟩ u) g rb pb S a b k' t o' q := by
  have h1 := h.lt; have h2 := h.base.lt; have h3 := h.base.lo
  have hne : ∀ j, j ≠ pb → (w.setCell ⟨pb, i, none⟩ u).heap[j]? = w.heap[j]? := fun j hj => Below.heap_setCell _ _ _ _ hj
  exact ⟨⟨(hne g (by omega)).trans h.base.rdr, (hne rb (by omega)).trans h.base.res, Kept.set h.base.kept pb i (fun hl => by omega) u, h3, h2⟩, hp, h1⟩
theorem dz_finA {w0 w : World} {g rb : Nat} {S : List UInt8} {a : Nat} {b : Bool} (h : DzAt w0 w g rb S a b) {k : Int} {t : List UInt8} {o : Value} {q : Bool} {l : List Prt} (ho : WAt w (fun b => rb < b) o l) (ob : Obj) {w' : World} (hw : w' = ((((w.setCell ⟨rb, 0, none⟩ (.int .i64 k)).setCell ⟨rb, 1, none⟩ (.string (BA t))).setCell ⟨rb, 2, none⟩ o).setCell ⟨rb, 3, none⟩ (.bool q)).alloc ob) :
    PAz w' rb k t o q ∧ RdZ w' g S a b ∧ K1 g w0 w' ∧ WAt w' (fun b => w0.heap.size ≤ b) o l := by
  subst hw
  obtain ⟨h1, h2, h3, h4⟩ := dz_fin h ho rfl
  have ka := (Kept.refl (fun _ => False) ((((w.setCell ⟨rb, 0, none⟩ (.int .i64 k)).setCell ⟨rb, 1, none⟩ (.string (BA t))).setCell ⟨rb, 2, none⟩ o).setCell ⟨rb, 3, none⟩ (.bool q))).alloc ob
  exact ⟨ka.heap h1 (fun h => h), h2.kept ka (fun h => h), h3.alloc ob, h4.kept ka (fun _ _ h => h)⟩
theorem BzAt.setK {w0 w : World} {g rb pb : Nat} {S : List UInt8} {a : Nat} {b : Bool} {k : Int} {t : List UInt8} {o : Value} {q : Bool} (h : BzAt w0 w g rb pb S a b k t o q) (k' : Int) : BzAt w0 (w.setCell ⟨pb, 0, none⟩ (.int .i64 k')) g rb pb S a b k' t o q := h.setP 0 _ (heap_set h.par 0 _)
theorem BzAt.setO {w0 w : World} {g rb pb : Nat} {S : List UInt8} {a : Nat} {b : Bool} {k : Int} {t : List UInt8} {o : Value} {q : Bool} (h : BzAt w0 w g rb pb S a b k t o q) (o' : Value) : BzAt w0 (w.setCell ⟨pb, 2, none⟩ o') g rb pb S a b k t o' q := h.setP 2 _ (heap_set h.par 2 _)
set_option maxHeartbeats 4000000 in
theorem dz_none (q : Bool) (w : World) (g : Nat) (S : List UInt8) (d : Nat) (h : RdZ w g S d false) (hS9 : S.length ≤ 100000) (hd : d ≤ S.length) (h3 : (S.drop d).take 1 = [123]) (hn : nameT ((S.drop d).drop 1) = []) :
    Calls Tryd.prog 118 #[.pointer (some ⟨g, 0, none⟩), .bool q] w (DlZ w g S d q) := by
  have hne : ¬ (S.drop d).take 2 = [40, 40] := fun e => by
    have := congrArg (List.take 1) e
    rw [List.take_take] at this
    simp [h3] at this
  have hlen : d + 1 ≤ S.length := by
    have := congrArg List.length h3
    rw [List.length_take, List.length_drop] at this
    simp at this; omega
  have HB1 : Hid (((S.drop d).take [40, 40].length == [(40 : UInt8), 40]) = false) := Lw.hid (by rw [beq_eq_false_iff_ne]; exact hne)
  have HB2 : Hid (((S.drop d).take [63].length == [(63 : UInt8)]) = false) := Lw.hid (dl_take1 h3 (by decide))
  have HB3 : Hid (((S.drop d).take [123].length == [(123 : UInt8)]) = true) := Lw.hid (show ((S.drop d).take 1 == [(123 : UInt8)]) = true from by rw [h3]; rfl)
  have HG : Hid (dollarG refR (readG refR .brc q []) q (S.drop d) = (.mk 2 [] [] q, ⟨(S.drop d).drop 1, true⟩)) := Lw.hid (by
    unfold dollarG dollarR
    rw [if_neg hne, if_neg hne, if_pos h3, if_pos hn])
  obtain ⟨T, hT0⟩ : ∃ T : List UInt8, T = [] := ⟨_, rfl⟩
  have HT : Hid (nameT (S.drop (d + 1)) = T) := Lw.hid (by rw [hT0, ← hn, List.drop_drop])
  clear hne h3 hn
  have hD := dz_start h
  have hgl := h.lt
  obtain ⟨rb, hrb⟩ : ∃ rb, w.heap.size = rb := ⟨_, rfl⟩
  have hzz := BA_size S
  clear h
  go_enter Tryd.func118, Tryd.ntmps118
  go_wp2_with fail
  obtain ⟨w1, hw1⟩ : ∃ w1, w.alloc (.cells #[.int .i64 0, .string ⟨#[]⟩, .slice none 0 0, .bool false] 103) = w1 := ⟨_, rfl⟩
  rw [hw1, hrb] at hD
  rw [hw1]
  rw [hrb] at hgl
  have HD := Lw.hid hD
  first | rw [hrb] | skip
  clear hD hw1
  refine (z_at _ g S d _ (by exact HD.out.rdr) (by omega) (by omega) [40, 40] (by decide) (by decide) false HB1.out).mono ?_
  rintro x _ ⟨rfl, n1, rfl⟩
  go_wp2_with fail
  refine (z_at _ g S d _ (by exact HD.out.rdr) (by omega) (by omega) [63] (by decide) (by decide) false HB2.out).mono ?_
  rintro x _ ⟨rfl, n2, rfl⟩
  go_wp2_with fail
  refine (z_at _ g S d _ (by exact HD.out.rdr) (by omega) (by omega) [123] (by decide) (by decide) true HB3.out).mono ?_
  rintro x _ ⟨rfl, n3, rfl⟩
  have HDd := Lw.hid (HD.out.drew (n1 + n2 + n3))
  clear HD
  have HD := HDd
  clear HDd
  obtain ⟨⟨g0, g1, g2⟩, gf0, gf1, gf2⟩ := HD.out.rdr.cells
  obtain ⟨⟨q0, q1, q2, q3⟩, qf0, qf1, qf2, qf3⟩ := HD.out.res.cells
  go_wp2_with fail
  have HD2 := Lw.hid (HD.out.at' (A := (d : Int) + 1) (d + 1) (by omega))
  clear HD
  clear g0 g1 g2 gf0 gf1 gf2 q0 q1 q2 q3 qf0 qf1 qf2 qf3
  refine (z_name _ g S (d + 1) _ HD2.out.rdr (by omega) hlen).mono ?_
  rw [HT.out]
  rintro x w4 ⟨rfl, hr4, k4⟩
  have HD4 := Lw.hid (HD2.out.call hr4 k4)
  clear hr4 k4 HD2
  have HBZ := Lw.hid (BzAt.made HD4.out 2 T (.slice none 0 0) q)
  have hgl4 : g < w4.heap.size := HD4.out.rdr.lt
  have hrl4 : rb < w4.heap.size := heap_lt HD4.out.res
  obtain ⟨⟨g0, g1, g2⟩, gf0, gf1, gf2⟩ := HD4.out.rdr.cells
  obtain ⟨⟨q0, q1, q2, q3⟩, qf0, qf1, qf2, qf3⟩ := HD4.out.res.cells
  subst hT0
  go_wp2_with fail
  have hB9 := (HD4.out.bad' true).at' (A := (d : Int) + 1 + 1) (d + 2) (by omega)
  have hfin := dz_finA (k := 2) (t := []) (o := .slice none 0 0) (q := q) (l := []) hB9 (WAt.nil _ _) (.cells #[.int .i64 2, .string (BA []), .slice none 0 0, .bool q] 103) (w' := _) rfl
  obtain ⟨⟨e0, e1, e2, e3⟩, _⟩ := hfin.1.cells
  refine bodyPost_ret (v := PV (.mk 2 [] [] q) (.slice none 0 0)) (by simp [results, go_sem, e0, e1, e2, e3, PV, Prt.kind, Prt.text, Prt.quoted]) rfl ?_
  exact ⟨.mk 2 [] [] q, .slice none 0 0, d + 2, true, rfl, hfin.2.1, hfin.2.2.2, hfin.2.2.1, by rw [HG.out], (fun e => (by cases e)), by omega, by show 0 + d ≤ _; omega⟩
set_option maxHeartbeats 4000000 in
theorem dz_plain (q : Bool) (w : World) (g : Nat) (S : List UInt8) (d : Nat) (h : RdZ w g S d false) (hS9 : S.length ≤ 100000) (hd : d ≤ S.length) (h3 : (S.drop d).take 1 = [123]) (hn : ¬ nameT (S.drop (d + 1)) = []) (hc : ¬ (S.drop (d + 1 + (nameT (S.drop (d + 1))).length)).take 2 = [58, 45]) :
    Calls Tryd.prog 118 #[.pointer (some ⟨g, 0, none⟩), .bool q] w (DlZ w g S d q) := by
  have hne : ¬ (S.drop d).take 2 = [40, 40] := fun e => by
    have := congrArg (List.take 1) e
    rw [List.take_take] at this
    simp [h3] at this
  have hlen : d + 1 ≤ S.length := by
    have := congrArg List.length h3
    rw [List.length_take, List.length_drop] at this
    simp at this; omega
  have HB1 : Hid (((S.drop d).take [40, 40].length == [(40 : UInt8), 40]) = false) := Lw.hid (by rw [beq_eq_false_iff_ne]; exact hne)
  have HB2 : Hid (((S.drop d).take [63].length == [(63 : UInt8)]) = false) := Lw.hid (dl_take1 h3 (by decide))
  have HB3 : Hid (((S.drop d).take [123].length == [(123 : UInt8)]) = true) := Lw.hid (show ((S.drop d).take 1 == [(123 : UInt8)]) = true from by rw [h3]; rfl)
  have e1 : (S.drop d).drop 1 = S.drop (d + 1) := by rw [List.drop_drop]
  have e2 : ∀ k, (S.drop (d + 1)).drop k = S.drop (d + 1 + k) := fun k => by rw [List.drop_drop]
  have HG : Hid (dollarG refR (readG refR .brc q []) q (S.drop d) = (.mk 2 (nameT (S.drop (d + 1))) [] q, closeR ⟨S.drop (d + 1 + (nameT (S.drop (d + 1))).length), false⟩)) := Lw.hid (by
    unfold dollarG dollarR
    rw [if_neg hne, if_neg hne, if_pos h3, e1, if_neg hn, e2, if_neg hc])
  obtain ⟨T, hT0⟩ : ∃ T : List UInt8, nameT (S.drop (d + 1)) = T := ⟨_, rfl⟩
  have HT := Lw.hid hT0
  rw [hT0] at hn hc HG
  clear e1 e2
  have htl : d + 1 + T.length ≤ S.length := by rw [← hT0]; have := nameT_len' (S.drop (d + 1)); rw [List.length_drop] at this; omega
  have hTz := BA_size T
  have hb0 : (BA T == (⟨#[]⟩ : ByteArray)) = false := by have := BA_beq T []; rw [show (⟨#[]⟩ : ByteArray) = BA [] from rfl, this]; simpa using hn
  have hb9 : (BA T != (⟨#[]⟩ : ByteArray)) = true := by rw [bne, hb0]; rfl
  have hb1 : (T == []) = false := by simpa using hn
  have hb3 : (T != []) = true := by simpa using hn
  have hb2 : T.isEmpty = false := by simpa using hn
  have HB4 : Hid (((S.drop (d + 1 + T.length)).take [58, 45].length == [(58 : UInt8), 45]) = false) := Lw.hid (by rw [beq_eq_false_iff_ne]; exact hc)
  clear hne h3 hc hT0
  have hD := dz_start h
  have hgl := h.lt
  obtain ⟨rb, hrb⟩ : ∃ rb, w.heap.size = rb := ⟨_, rfl⟩
  have hzz := BA_size S
  clear h
  go_enter Tryd.func118, Tryd.ntmps118
  go_wp2_with fail
  obtain ⟨w1, hw1⟩ : ∃ w1, w.alloc (.cells #[.int .i64 0, .string ⟨#[]⟩, .slice none 0 0, .bool false] 103) = w1 := ⟨_, rfl⟩
  rw [hw1, hrb] at hD
  rw [hw1]
  rw [hrb] at hgl
  have HD := Lw.hid hD
  first | rw [hrb] | skip
  clear hD hw1
  refine (z_at _ g S d _ (by exact HD.out.rdr) (by omega) (by omega) [40, 40] (by decide) (by decide) false HB1.out).mono ?_
  rintro x _ ⟨rfl, n1, rfl⟩
  go_wp2_with fail
  refine (z_at _ g S d _ (by exact HD.out.rdr) (by omega) (by omega) [63] (by decide) (by decide) false HB2.out).mono ?_
  rintro x _ ⟨rfl, n2, rfl⟩
  go_wp2_with fail
  refine (z_at _ g S d _ (by exact HD.out.rdr) (by omega) (by omega) [123] (by decide) (by decide) true HB3.out).mono ?_
  rintro x _ ⟨rfl, n3, rfl⟩
  have HDd := Lw.hid (HD.out.drew (n1 + n2 + n3))
  clear HD
  have HD := HDd
  clear HDd
  obtain ⟨⟨g0, g1, g2⟩, gf0, gf1, gf2⟩ := HD.out.rdr.cells
  obtain ⟨⟨q0, q1, q2, q3⟩, qf0, qf1, qf2, qf3⟩ := HD.out.res.cells
  go_wp2_with fail
  have HD2 := Lw.hid (HD.out.at' (A := (d : Int) + 1) (d + 1) (by omega))
  clear HD
  clear g0 g1 g2 gf0 gf1 gf2 q0 q1 q2 q3 qf0 qf1 qf2 qf3
  refine (z_name _ g S (d + 1) _ HD2.out.rdr (by omega) hlen).mono ?_
  rw [HT.out]
  rintro x w4 ⟨rfl, hr4, k4⟩
  have HD4 := Lw.hid (HD2.out.call hr4 k4)
  clear hr4 k4 HD2
  have HBZ := Lw.hid (BzAt.made HD4.out 2 T (.slice none 0 0) q)
  have hgl4 : g < w4.heap.size := HD4.out.rdr.lt
  have hrl4 : rb < w4.heap.size := heap_lt HD4.out.res
  obtain ⟨⟨g0, g1, g2⟩, gf0, gf1, gf2⟩ := HD4.out.rdr.cells
  obtain ⟨⟨q0, q1, q2, q3⟩, qf0, qf1, qf2, qf3⟩ := HD4.out.res.cells
  go_wp2_with fail
  obtain ⟨w5, hw5⟩ : ∃ w5, w4.alloc (.cells #[.int .i64 2, .string (BA T), .slice none 0 0, .bool q] 103) = w5 := ⟨_, rfl⟩
  obtain ⟨pb, hpb⟩ : ∃ pb, w4.heap.size = pb := ⟨_, rfl⟩
  rw [hw5, hpb] at HBZ
  rw [hw5]
  first | rw [hpb] | skip
  clear hw5 hgl4 hrl4 hpb HD4
  clear g0 g1 g2 gf0 gf1 gf2 q0 q1 q2 q3 qf0 qf1 qf2 qf3
  refine (z_at _ g S (d + 1 + T.length) _ (by exact HBZ.out.base.rdr) (by omega) (by omega) [58, 45] (by decide) (by decide) false HB4.out).mono ?_
  rintro x _ ⟨rfl, n4, rfl⟩
  obtain ⟨⟨p0, p1, p2, p3⟩, pf0, pf1, pf2, pf3⟩ := HBZ.out.par.cells
  obtain ⟨⟨g0, g1, g2⟩, gf0, gf1, gf2⟩ := HBZ.out.base.rdr.cells
  obtain ⟨⟨q0, q1, q2, q3⟩, qf0, qf1, qf2, qf3⟩ := HBZ.out.base.res.cells
  have hrp := HBZ.out.lt
  have hgr := HBZ.out.base.lt
  go_wp2_with fail
  obtain ⟨c, hcc⟩ : ∃ c, ((S.drop (d + 1 + T.length)).take [125].length == [(125 : UInt8)]) = c := ⟨_, rfl⟩
  have HCC := Lw.hid hcc
  refine (z_at _ g S (d + 1 + T.length) _ (by exact HBZ.out.base.rdr) (by omega) (by omega) [125] (by decide) (by decide) c hcc).mono ?_
  rintro x _ ⟨rfl, n6, rfl⟩
  clear hcc
  have HB6 := Lw.hid (HBZ.out.drew (n4 + n6))
  cases c with
  | true =>
    have ht : (S.drop (d + 1 + T.length)).take 1 = [125] := by have := HCC.out; simpa using this
    have hle : d + 1 + T.length + 1 ≤ S.length := by
      have h5 := congrArg List.length ht
      rw [List.length_take, List.length_drop] at h5
      simp at h5; omega
    have HG2 : Hid (dollarG refR (readG refR .brc q []) q (S.drop d) = (.mk 2 T [] q, ⟨(S.drop (d + 1 + T.length)).drop 1, false⟩)) := Lw.hid (by
      rw [HG.out]; unfold closeR; rw [if_neg (show ¬ (false = true) from Bool.false_ne_true), if_pos ht])
    clear ht HG
    go_wp2_with fail
    have hB9 := (HB6.out.at' (A := (d : Int) + 1 + (T.length : Int) + 1) (d + 1 + T.length + 1) (by omega)).base
    have hfin := dz_fin (k := 2) (t := T) (o := (.slice none 0 0)) (q := q) (l := []) hB9 (WAt.nil _ _) (w' := _) rfl
    obtain ⟨⟨e0, e1, e2, e3⟩, _⟩ := hfin.1.cells
    try simp only [ba0, ba36] at e0 e1 e2 e3
    refine bodyPost_ret (v := PV (.mk 2 (T) [] q) (.slice none 0 0)) (by simp [results, go_sem, e0, e1, e2, e3, PV, Prt.kind, Prt.text, Prt.quoted, ba0, ba36]) rfl ?_
    refine ⟨.mk 2 (T) [] q, (.slice none 0 0), d + 1 + T.length + 1, false, rfl, hfin.2.1, hfin.2.2.2, hfin.2.2.1, by rw [HG2.out], (fun _ => (by rw [HG2.out]; exact ⟨rfl, by rw [List.drop_drop], by omega, by omega, by show T.length + d ≤ _; omega⟩)), by omega, by show T.length + d ≤ _; omega⟩
  | false =>
    have HG2 : Hid ((dollarG refR (readG refR .brc q []) q (S.drop d)).2.bad = true) := Lw.hid (by
      have ht : ¬ (S.drop (d + 1 + T.length)).take 1 = [125] := fun e => by have := HCC.out; simp [e] at this
      rw [HG.out]; unfold closeR; rw [if_neg (show ¬ (false = true) from Bool.false_ne_true), if_neg ht])
    clear HG
    go_wp2_with fail
    have hB9 := ((HB6.out.bad' true).at' (A := (d : Int) + 1 + (T.length : Int) + 1) (d + 1 + T.length + 1) (by omega)).base
    have hfin := dz_fin (k := 2) (t := T) (o := (.slice none 0 0)) (q := q) (l := []) hB9 (WAt.nil _ _) (w' := _) rfl
    obtain ⟨⟨e0, e1, e2, e3⟩, _⟩ := hfin.1.cells
    try simp only [ba0, ba36] at e0 e1 e2 e3
    refine bodyPost_ret (v := PV (.mk 2 (T) [] q) (.slice none 0 0)) (by simp [results, go_sem, e0, e1, e2, e3, PV, Prt.kind, Prt.text, Prt.quoted, ba0, ba36]) rfl ?_
    refine ⟨.mk 2 (T) [] q, (.slice none 0 0), d + 1 + T.length + 1, true, rfl, hfin.2.1, hfin.2.2.2, hfin.2.2.1, HG2.out, (fun e => (by cases e)), by omega, by show T.length + d ≤ _; omega⟩
set_option maxHeartbeats 4000000 in
theorem dz_def (q : Bool) (w : World) (g : Nat) (S : List UInt8) (d : Nat) (h : RdZ w g S d false) (hS9 : S.length ≤ 100000) (hd : d ≤ S.length) (h3 : (S.drop d).take 1 = [123]) (HW : Hid (∀ M, M < S.length - d → CWordZ M)) (hn : ¬ nameT (S.drop (d + 1)) = []) (hc : (S.drop (d + 1 + (nameT (S.drop (d + 1))).length)).take 2 = [58, 45]) :
    Calls Tryd.prog 118 #[.pointer (some ⟨g, 0, none⟩), .bool q] w (DlZ w g S d q) := by
  have hne : ¬ (S.drop d).take 2 = [40, 40] := fun e => by
    have := congrArg (List.take 1) e
    rw [List.take_take] at this
    simp [h3] at this
  have hlen : d + 1 ≤ S.length := by
    have := congrArg List.length h3
    rw [List.length_take, List.length_drop] at this
    simp at this; omega
  have HB1 : Hid (((S.drop d).take [40, 40].length == [(40 : UInt8), 40]) = false) := Lw.hid (by rw [beq_eq_false_iff_ne]; exact hne)
  have HB2 : Hid (((S.drop d).take [63].length == [(63 : UInt8)]) = false) := Lw.hid (dl_take1 h3 (by decide))
  have HB3 : Hid (((S.drop d).take [123].length == [(123 : UInt8)]) = true) := Lw.hid (show ((S.drop d).take 1 == [(123 : UInt8)]) = true from by rw [h3]; rfl)
  have e1 : (S.drop d).drop 1 = S.drop (d + 1) := by rw [List.drop_drop]
  have e2 : ∀ k, (S.drop (d + 1)).drop k = S.drop (d + 1 + k) := fun k => by rw [List.drop_drop]
  have HG : Hid (dollarG refR (readG refR .brc q []) q (S.drop d) = (.mk 3 (nameT (S.drop (d + 1))) (readG refR .brc q [] ⟨S.drop (d + 1 + (nameT (S.drop (d + 1))).length + 2), false⟩).1 q, closeR (readG refR .brc q [] ⟨S.drop (d + 1 + (nameT (S.drop (d + 1))).length + 2), false⟩).2)) := Lw.hid (by
    unfold dollarG dollarR
    rw [if_neg hne, if_neg hne, if_pos h3, e1, if_neg hn, e2, if_pos hc, List.drop_drop])
  obtain ⟨T, hT0⟩ : ∃ T : List UInt8, nameT (S.drop (d + 1)) = T := ⟨_, rfl⟩
  have HT := Lw.hid hT0
  rw [hT0] at hn hc HG
  clear e1 e2
  have htl : d + 1 + T.length + 2 ≤ S.length := by
    have h5 := congrArg List.length hc
    rw [List.length_take, List.length_drop] at h5
    simp at h5; omega
  have hTz := BA_size T
  have hb0 : (BA T == (⟨#[]⟩ : ByteArray)) = false := by have := BA_beq T []; rw [show (⟨#[]⟩ : ByteArray) = BA [] from rfl, this]; simpa using hn
  have hb9 : (BA T != (⟨#[]⟩ : ByteArray)) = true := by rw [bne, hb0]; rfl
  have hb1 : (T == []) = false := by simpa using hn
  have hb3 : (T != []) = true := by simpa using hn
  have hb2 : T.isEmpty = false := by simpa using hn
  have HB4 : Hid (((S.drop (d + 1 + T.length)).take [58, 45].length == [(58 : UInt8), 45]) = true) := Lw.hid (show ((S.drop (d + 1 + T.length)).take 2 == [(58 : UInt8), 45]) = true from by rw [hc]; rfl)
  obtain ⟨R, hR⟩ : ∃ R, readG refR .brc q [] ⟨S.drop (d + 1 + T.length + 2), false⟩ = R := ⟨_, rfl⟩
  rw [hR] at HG
  have HRR := Lw.hid hR
  clear hne h3 hc hT0 hR
  have hD := dz_start h
  have hgl := h.lt
  obtain ⟨rb, hrb⟩ : ∃ rb, w.heap.size = rb := ⟨_, rfl⟩
  have hzz := BA_size S
  clear h
  go_enter Tryd.func118, Tryd.ntmps118
  go_wp2_with fail
  obtain ⟨w1, hw1⟩ : ∃ w1, w.alloc (.cells #[.int .i64 0, .string ⟨#[]⟩, .slice none 0 0, .bool false] 103) = w1 := ⟨_, rfl⟩
  rw [hw1, hrb] at hD
  rw [hw1]
  rw [hrb] at hgl
  have HD := Lw.hid hD
  first | rw [hrb] | skip
  clear hD hw1
  refine (z_at _ g S d _ (by exact HD.out.rdr) (by omega) (by omega) [40, 40] (by decide) (by decide) false HB1.out).mono ?_
  rintro x _ ⟨rfl, n1, rfl⟩
  go_wp2_with fail
  refine (z_at _ g S d _ (by exact HD.out.rdr) (by omega) (by omega) [63] (by decide) (by decide) false HB2.out).mono ?_
  rintro x _ ⟨rfl, n2, rfl⟩
  go_wp2_with fail
  refine (z_at _ g S d _ (by exact HD.out.rdr) (by omega) (by omega) [123] (by decide) (by decide) true HB3.out).mono ?_
  rintro x _ ⟨rfl, n3, rfl⟩
  have HDd := Lw.hid (HD.out.drew (n1 + n2 + n3))
  clear HD
  have HD := HDd
  clear HDd
  obtain ⟨⟨g0, g1, g2⟩, gf0, gf1, gf2⟩ := HD.out.rdr.cells
  obtain ⟨⟨q0, q1, q2, q3⟩, qf0, qf1, qf2, qf3⟩ := HD.out.res.cells
  go_wp2_with fail
  have HD2 := Lw.hid (HD.out.at' (A := (d : Int) + 1) (d + 1) (by omega))
  clear HD
  clear g0 g1 g2 gf0 gf1 gf2 q0 q1 q2 q3 qf0 qf1 qf2 qf3
  refine (z_name _ g S (d + 1) _ HD2.out.rdr (by omega) hlen).mono ?_
  rw [HT.out]
  rintro x w4 ⟨rfl, hr4, k4⟩
  have HD4 := Lw.hid (HD2.out.call hr4 k4)
  clear hr4 k4 HD2
  have HBZ := Lw.hid (BzAt.made HD4.out 2 T (.slice none 0 0) q)
  have hgl4 : g < w4.heap.size := HD4.out.rdr.lt
  have hrl4 : rb < w4.heap.size := heap_lt HD4.out.res
  obtain ⟨⟨g0, g1, g2⟩, gf0, gf1, gf2⟩ := HD4.out.rdr.cells
  obtain ⟨⟨q0, q1, q2, q3⟩, qf0, qf1, qf2, qf3⟩ := HD4.out.res.cells
  go_wp2_with fail
  obtain ⟨w5, hw5⟩ : ∃ w5, w4.alloc (.cells #[.int .i64 2, .string (BA T), .slice none 0 0, .bool q] 103) = w5 := ⟨_, rfl⟩
  obtain ⟨pb, hpb⟩ : ∃ pb, w4.heap.size = pb := ⟨_, rfl⟩
  rw [hw5, hpb] at HBZ
  rw [hw5]
  first | rw [hpb] | skip
  clear hw5 hgl4 hrl4 hpb HD4
  clear g0 g1 g2 gf0 gf1 gf2 q0 q1 q2 q3 qf0 qf1 qf2 qf3
  refine (z_at _ g S (d + 1 + T.length) _ (by exact HBZ.out.base.rdr) (by omega) (by omega) [58, 45] (by decide) (by decide) true HB4.out).mono ?_
  rintro x _ ⟨rfl, n4, rfl⟩
  obtain ⟨⟨p0, p1, p2, p3⟩, pf0, pf1, pf2, pf3⟩ := HBZ.out.par.cells
  obtain ⟨⟨g0, g1, g2⟩, gf0, gf1, gf2⟩ := HBZ.out.base.rdr.cells
  obtain ⟨⟨q0, q1, q2, q3⟩, qf0, qf1, qf2, qf3⟩ := HBZ.out.base.res.cells
  have hrp := HBZ.out.lt
  have hgr := HBZ.out.base.lt
  go_wp2_with fail
  have HBW := Lw.hid (((HBZ.out.drew n4).at' (A := (d : Int) + 1 + (T.length : Int) + 2) (d + 1 + T.length + 2) (by omega)).setK 3)
  clear HBZ
  have hpw := heap_lt HBW.out.par
  refine (HW.out (S.length - (d + 1 + T.length + 2)) (by omega) .brc q _ g S (d + 1 + T.length + 2) hS9 htl (Nat.le_refl _) HBW.out.base.rdr).mono ?_
  unfold WordZ
  rw [HRR.out]
  rintro x w6 ⟨v, l, c, bad, rfl, hr6, ha6, k6, hbad, himp, hb6, _, _⟩
  obtain ⟨va, vn, vc, rfl⟩ := ha6.slice
  have HB6 := Lw.hid (HBW.out.call hr6 k6)
  have hpb6 := heap_lt HB6.out.par
  have HA6 : Hid (WAt (w6.setCell ⟨pb, 2, none⟩ (.slice va vn vc)) (fun b => rb < b) (.slice va vn vc) l) := Lw.hid ((ha6.kept (S := fun b => b = pb) (Kept.set (S := fun b => b = pb) (Kept.refl _ w6) pb 2 (fun _ => rfl) (.slice va vn vc)) (fun b hb e => by have e' : b = pb := e; omega)).mono (fun b _ hb => by have := HB6.out.lt; omega))
  have HB7 := Lw.hid (HB6.out.setO (.slice va vn vc))
  have HIM := Lw.hid himp; have HBAD := Lw.hid hbad
  clear ha6 hr6 k6 himp hbad hpw HBW
  clear p0 p1 p2 p3 pf0 pf1 pf2 pf3 hrp hgr
  clear g0 g1 g2 gf0 gf1 gf2 q0 q1 q2 q3 qf0 qf1 qf2 qf3
  obtain ⟨⟨p0, p1, p2, p3⟩, pf0, pf1, pf2, pf3⟩ := HB6.out.par.cells
  obtain ⟨⟨g0, g1, g2⟩, gf0, gf1, gf2⟩ := HB6.out.base.rdr.cells
  obtain ⟨⟨q0, q1, q2, q3⟩, qf0, qf1, qf2, qf3⟩ := HB6.out.base.res.cells
  have hrp := HB6.out.lt
  have hgr := HB6.out.base.lt
  go_wp2_with fail
  obtain ⟨w7, hw7⟩ : ∃ w7, w6.setCell ⟨pb, 2, none⟩ (.slice va vn vc) = w7 := ⟨_, rfl⟩
  rw [hw7] at HB7 HA6
  rw [hw7]
  clear hw7 hpb6 HB6
  obtain ⟨t9, ht9⟩ : ∃ t, ((S.drop c).take [125].length == [(125 : UInt8)]) = t := ⟨_, rfl⟩
  have HCC := Lw.hid ht9
  refine (z_at _ g S c _ (by exact HB7.out.base.rdr) (by omega) (by omega) [125] (by decide) (by decide) t9 ht9).mono ?_
  rintro x _ ⟨rfl, n6, rfl⟩
  clear ht9
  have HB8 := Lw.hid (HB7.out.drew n6)
  have HA8 := Lw.hid (HA6.out.kept (kept_drewN' _ n6) (fun _ _ h => h))
  clear HA6
  clear p0 p1 p2 p3 pf0 pf1 pf2 pf3 hrp hgr
  clear g0 g1 g2 gf0 gf1 gf2 q0 q1 q2 q3 qf0 qf1 qf2 qf3
  obtain ⟨⟨p0, p1, p2, p3⟩, pf0, pf1, pf2, pf3⟩ := HB7.out.par.cells
  obtain ⟨⟨g0, g1, g2⟩, gf0, gf1, gf2⟩ := HB7.out.base.rdr.cells
  obtain ⟨⟨q0, q1, q2, q3⟩, qf0, qf1, qf2, qf3⟩ := HB7.out.base.res.cells
  have hrp := HB7.out.lt
  have hgr := HB7.out.base.lt
  cases bad with
  | true =>
    have HG2 : Hid ((dollarG refR (readG refR .brc q []) q (S.drop d)).2.bad = true) := Lw.hid (by
      rw [HG.out]; show (closeR R.2).bad = true; unfold closeR; rw [if_pos HBAD.out]; exact HBAD.out)
    clear HG HIM
    cases t9 with
    | true =>
      go_wp2_with fail
      have hB9 := (HB8.out.at' (A := (c : Int) + 1) (c + 1) (by omega)).base
      have hfin := dz_fin (k := 3) (t := T) (o := (.slice va vn vc)) (q := q) (l := l) hB9 ((HA8.out.kept (S := fun b => b = g) (Kept.set (S := fun b => b = g) (Kept.refl _ _) g 1 (fun _ => rfl) _) (fun b hb e => by have e' : b = g := e; have := HB8.out.base.lt; omega))) (w' := _) rfl
      obtain ⟨⟨e0, e1, e2, e3⟩, _⟩ := hfin.1.cells
      try simp only [ba0, ba36] at e0 e1 e2 e3
      refine bodyPost_ret (v := PV (.mk 3 (T) l q) (.slice va vn vc)) (by simp [results, go_sem, e0, e1, e2, e3, PV, Prt.kind, Prt.text, Prt.quoted, ba0, ba36]) rfl ?_
      refine ⟨.mk 3 (T) l q, (.slice va vn vc), c + 1, true, rfl, hfin.2.1, hfin.2.2.2, hfin.2.2.1, HG2.out, (fun e => (by cases e)), by omega, by show T.length + d ≤ _; omega⟩
    | false =>
      go_wp2_with fail
      have hB9 := ((HB8.out.bad' true).at' (A := (c : Int) + 1) (c + 1) (by omega)).base
      have hfin := dz_fin (k := 3) (t := T) (o := (.slice va vn vc)) (q := q) (l := l) hB9 ((HA8.out.kept (S := fun b => b = g) (Kept.set (S := fun b => b = g) (Kept.set (S := fun b => b = g) (Kept.refl _ _) g 2 (fun _ => rfl) _) g 1 (fun _ => rfl) _) (fun b hb e => by have e' : b = g := e; have := HB8.out.base.lt; omega))) (w' := _) rfl
      obtain ⟨⟨e0, e1, e2, e3⟩, _⟩ := hfin.1.cells
      try simp only [ba0, ba36] at e0 e1 e2 e3
      refine bodyPost_ret (v := PV (.mk 3 (T) l q) (.slice va vn vc)) (by simp [results, go_sem, e0, e1, e2, e3, PV, Prt.kind, Prt.text, Prt.quoted, ba0, ba36]) rfl ?_
      refine ⟨.mk 3 (T) l q, (.slice va vn vc), c + 1, true, rfl, hfin.2.1, hfin.2.2.2, hfin.2.2.1, HG2.out, (fun e => (by cases e)), by omega, by show T.length + d ≤ _; omega⟩
  | false =>
    obtain ⟨hl, hc2, hc3, _⟩ := HIM.out rfl
    have HL := Lw.hid hl
    obtain ⟨R1, s9, b9⟩ := R
    have hb9' : b9 = false := HBAD.out
    subst hb9'
    have hc2' : S.drop c = s9 := hc2
    subst hc2'
    clear hl hc2
    cases t9 with
    | true =>
      have ht : (S.drop c).take 1 = [125] := by have := HCC.out; simpa using this
      have hle : c + 1 ≤ S.length := by
        have h5 := congrArg List.length ht
        rw [List.length_take, List.length_drop] at h5
        simp at h5; omega
      have HG2 : Hid (dollarG refR (readG refR .brc q []) q (S.drop d) = (.mk 3 T R1 q, ⟨(S.drop c).drop 1, false⟩)) := Lw.hid (by
        rw [HG.out]; show (Prt.mk 3 T R1 q, closeR ⟨S.drop c, false⟩) = _; unfold closeR; rw [if_neg (show ¬ (false = true) from Bool.false_ne_true), if_pos ht])
      clear ht HG HIM
      go_wp2_with fail
      have hB9 := (HB8.out.at' (A := (c : Int) + 1) (c + 1) (by omega)).base
      have hfin := dz_fin (k := 3) (t := T) (o := (.slice va vn vc)) (q := q) (l := l) hB9 ((HA8.out.kept (S := fun b => b = g) (Kept.set (S := fun b => b = g) (Kept.refl _ _) g 1 (fun _ => rfl) _) (fun b hb e => by have e' : b = g := e; have := HB8.out.base.lt; omega))) (w' := _) rfl
      obtain ⟨⟨e0, e1, e2, e3⟩, _⟩ := hfin.1.cells
      try simp only [ba0, ba36] at e0 e1 e2 e3
      refine bodyPost_ret (v := PV (.mk 3 (T) l q) (.slice va vn vc)) (by simp [results, go_sem, e0, e1, e2, e3, PV, Prt.kind, Prt.text, Prt.quoted, ba0, ba36]) rfl ?_
      refine ⟨.mk 3 (T) l q, (.slice va vn vc), c + 1, false, rfl, hfin.2.1, hfin.2.2.2, hfin.2.2.1, by rw [HG2.out], (fun _ => (by rw [HG2.out]; exact ⟨by rw [HL.out], by rw [List.drop_drop], by omega, by omega, by show T.length + d ≤ _; omega⟩)), by omega, by show T.length + d ≤ _; omega⟩
    | false =>
      have HG2 : Hid ((dollarG refR (readG refR .brc q []) q (S.drop d)).2.bad = true) := Lw.hid (by
        have ht : ¬ (S.drop c).take 1 = [125] := fun e => by have := HCC.out; simp [e] at this
        rw [HG.out]; show (closeR ⟨S.drop c, false⟩).bad = true; unfold closeR; rw [if_neg (show ¬ (false = true) from Bool.false_ne_true), if_neg ht])
      clear HG HIM
      go_wp2_with fail
      have hB9 := ((HB8.out.bad' true).at' (A := (c : Int) + 1) (c + 1) (by omega)).base
      have hfin := dz_fin (k := 3) (t := T) (o := (.slice va vn vc)) (q := q) (l := l) hB9 ((HA8.out.kept (S := fun b => b = g) (Kept.set (S := fun b => b = g) (Kept.set (S := fun b => b = g) (Kept.refl _ _) g 2 (fun _ => rfl) _) g 1 (fun _ => rfl) _) (fun b hb e => by have e' : b = g := e; have := HB8.out.base.lt; omega))) (w' := _) rfl
      obtain ⟨⟨e0, e1, e2, e3⟩, _⟩ := hfin.1.cells
      try simp only [ba0, ba36] at e0 e1 e2 e3
      refine bodyPost_ret (v := PV (.mk 3 (T) l q) (.slice va vn vc)) (by simp [results, go_sem, e0, e1, e2, e3, PV, Prt.kind, Prt.text, Prt.quoted, ba0, ba36]) rfl ?_
      refine ⟨.mk 3 (T) l q, (.slice va vn vc), c + 1, true, rfl, hfin.2.1, hfin.2.2.2, hfin.2.2.1, HG2.out, (fun e => (by cases e)), by omega, by show T.length + d ≤ _; omega⟩
/-- dollar. -/
theorem z_dollar (q : Bool) (w : World) (g : Nat) (S : List UInt8) (d : Nat) (h : RdZ w g S d false) (hS9 : S.length ≤ 100000) (hd : d ≤ S.length) (HW : Hid (∀ M, M < S.length - d → CWordZ M)) :
    Calls Tryd.prog 118 #[.pointer (some ⟨g, 0, none⟩), .bool q] w (DlZ w g S d q) := by
  by_cases h1 : (S.drop d).take 2 = [40, 40]
  · exact dz_arith q w g S d h hS9 hd h1
  by_cases h2 : (S.drop d).take 1 = [63]
  · exact dz_status q w g S d h hS9 hd h2
  by_cases h3 : (S.drop d).take 1 = [123]
  · by_cases hn : nameT (S.drop (d + 1)) = []
    · exact dz_none q w g S d h hS9 hd h3 (by rw [List.drop_drop]; exact hn)
    · by_cases hc : (S.drop (d + 1 + (nameT (S.drop (d + 1))).length)).take 2 = [58, 45]
      · exact dz_def q w g S d h hS9 hd h3 HW hn hc
      · exact dz_plain q w g S d h hS9 hd h3 hn hc
  · exact dz_name q w g S d h hS9 hd h1 h2 h3
end Go.Proofs.YtifcgeanippepaaDoor
