/- A log, plain: what Append and Recover do with frames that stand there. -/
import Derived.Test.YtfmebmaklakckaaDoorLogS
namespace Go.Proofs.YtfmebmaklakckaaDoor
open Go Go.RowKit Go.Lw
set_option maxRecDepth 100000
set_option linter.unusedVariables false
/-- A disk that holds these payloads' frames, and t behind them. -/
structure Hold (D : Dsk) (L : List (List UInt8)) (t : List UInt8) : Prop where
  b : D.b = encF fz L ++ t
  l : ∀ p ∈ L, p.length ≤ 65535
  c : D.cap ≤ 1048576
  m : D.b.length ≤ D.cap
theorem Hold.len {D : Dsk} {L : List (List UInt8)} {t : List UInt8} (h : Hold D L t) : (encF fz L).length + t.length ≤ D.cap := by
  have := h.m; rw [h.b, List.length_append] at this; exact this
theorem Hold.num {D : Dsk} {L : List (List UInt8)} {t : List UInt8} (h : Hold D L t) : nextN (endF fz L) = L.length + 1 := (fz_num (by have := h.len; have := h.c; omega)).2.2
theorem Hold.fin {D : Dsk} {L : List (List UInt8)} {t : List UInt8} (h : Hold D L t) : (endF fz L).fin ≤ 1048576 := by rw [fz_fin]; have := h.len; have := h.c; omega
theorem Hold.few {D : Dsk} {L : List (List UInt8)} {t : List UInt8} (h : Hold D L t) : L.length ≤ 104858 := (fz_num (by have := h.len; have := h.c; omega)).2.1
theorem sum_ok (L : List (List UInt8)) : (endF fz L).sum < 4294967296 := endF_sum fz (by decide) L
theorem Hold.lastF {D : Dsk} {L : List (List UInt8)} {t : List UInt8} (h : Hold D L t) (hd : Dead t) : lastF D.b = endF fz L := lastF_of h.b (Nat.le_trans h.m h.c) h.l hd
theorem Hold.logP {D : Dsk} {L : List (List UInt8)} {t : List UInt8} (h : Hold D L t) : logP D (endF fz L) = L := logP_of h.b (Nat.le_trans h.m h.c) h.l
theorem lay_tail (E t f : List UInt8) : lay (E ++ t) E.length f = E ++ (f ++ t.drop f.length) := by
  unfold lay
  rw [List.take_append_of_le_length (Nat.le_refl _), List.take_of_length_le (Nat.le_refl _), ← List.drop_drop, List.drop_append, List.drop_of_length_le (Nat.le_refl _), Nat.sub_self, List.drop_zero, List.nil_append]
/-- The frame of p behind L. -/
def frm (L : List (List UInt8)) (p : List UInt8) : List UInt8 := frameB (nextN (endF fz L)) (checkN (endF fz L).sum (nextN (endF fz L)) p) p
theorem frm_len (L : List (List UInt8)) (p : List UInt8) : (frm L p).length = 10 + p.length := frameB_len _ _ _
theorem enc_snoc (L : List (List UInt8)) (p : List UInt8) : encF fz (L ++ [p]) = encF fz L ++ frm L p := encF_snoc fz p L
theorem end_snoc (L : List (List UInt8)) (p : List UInt8) : endF fz (L ++ [p]) = fdOf (endF fz L) p := endF_snoc fz p L
theorem app_long {D : Dsk} {s : Fd} {p : List UInt8} (h : 65535 < p.length) : appF D s p = (D, s, 0, 3) := by unfold appF; rw [if_pos h]
theorem app_halt {D : Dsk} {s : Fd} {p : List UInt8} (h : p.length ≤ 65535) (hs : D.stopped = true) : appF D s p = (D, s, 0, 10) := by
  have hp : ∀ a l, D.put a l = (D, 10) := fun a l => by unfold Dsk.put; rw [if_pos hs]
  unfold appF
  rw [if_neg (by omega), hp, if_neg (show ¬ (10 : Nat) = 0 by decide)]
theorem put_tail {D : Dsk} {L : List (List UInt8)} {t l : List UInt8} (h : Hold D L t) (hs : D.stopped = false) (hc : (encF fz L).length + l.length ≤ D.cap) (hp : ¬ (D.is = true ∧ D.np = 0)) :
    D.put ((endF fz L).fin : Int) l = ({ D with b := encF fz L ++ (l ++ t.drop l.length), puts := D.puts + 1, np := D.np - 1 }, 0) := by
  have hl := h.len
  have hb : D.b.length = (encF fz L).length + t.length := by rw [h.b, List.length_append]
  unfold Dsk.put
  rw [fz_fin, if_neg (by rw [hs]; simp), if_neg (by omega), if_neg (by omega), if_neg hp, Int.toNat_natCast, h.b, lay_tail]
theorem put_torn {D : Dsk} {L : List (List UInt8)} {t l : List UInt8} (h : Hold D L t) (hs : D.stopped = false) (hc : (encF fz L).length + l.length ≤ D.cap) (hi : D.is = true) (hn : D.np = 0) :
    D.put ((endF fz L).fin : Int) l = ({ D with b := encF fz L ++ (l.take (min D.nb.toNat l.length) ++ t.drop (min D.nb.toNat l.length)), stopped := true, is := false, np := 0, nb := 0 }, 10) := by
  have hl := h.len
  have hb : D.b.length = (encF fz L).length + t.length := by rw [h.b, List.length_append]
  unfold Dsk.put
  rw [fz_fin, if_neg (by rw [hs]; simp), if_neg (by omega), if_neg (by omega), if_pos ⟨hi, hn⟩, Int.toNat_natCast, h.b, lay_tail, List.length_take, Nat.min_eq_left (Nat.min_le_right _ _)]
theorem put_full {D : Dsk} {L : List (List UInt8)} {t l : List UInt8} (h : Hold D L t) (hs : D.stopped = false) (hc : D.cap < (encF fz L).length + l.length) : D.put ((endF fz L).fin : Int) l = (D, 7) := by
  have hl := h.len
  have hb : D.b.length = (encF fz L).length + t.length := by rw [h.b, List.length_append]
  unfold Dsk.put
  rw [fz_fin, if_neg (by rw [hs]; simp), if_neg (by omega), if_pos (by omega)]
theorem app_fits {D : Dsk} {L : List (List UInt8)} {t p : List UInt8} (h : Hold D L t) (hp : p.length ≤ 65535) (hs : D.stopped = false) (hc : (encF fz L).length + 10 + p.length ≤ D.cap) (hn : ¬ (D.is = true ∧ D.np = 0)) :
    appF D (endF fz L) p = ({ D with b := encF fz (L ++ [p]) ++ t.drop (10 + p.length), puts := D.puts + 1, np := D.np - 1 }, endF fz (L ++ [p]), L.length + 1, 0) := by
  have hq := put_tail (l := frm L p) h hs (by rw [frm_len]; omega) hn
  unfold appF
  rw [if_neg (by omega)]
  show (if (D.put ((endF fz L).fin : Int) (frm L p)).2 = 0 then ((D.put ((endF fz L).fin : Int) (frm L p)).1, fdOf (endF fz L) p, nextN (endF fz L), 0) else _) = _
  rw [hq, if_pos rfl, h.num, end_snoc, enc_snoc, frm_len, List.append_assoc]
theorem app_torn {D : Dsk} {L : List (List UInt8)} {t p : List UInt8} (h : Hold D L t) (hp : p.length ≤ 65535) (hs : D.stopped = false) (hc : (encF fz L).length + 10 + p.length ≤ D.cap) (hi : D.is = true) (hn : D.np = 0) :
    appF D (endF fz L) p = ({ D with b := encF fz L ++ ((frm L p).take (min D.nb.toNat (10 + p.length)) ++ t.drop (min D.nb.toNat (10 + p.length))), stopped := true, is := false, np := 0, nb := 0 }, endF fz L, 0, 10) := by
  have hq := put_torn (l := frm L p) h hs (by rw [frm_len]; omega) hi hn
  unfold appF
  rw [if_neg (by omega)]
  show (if (D.put ((endF fz L).fin : Int) (frm L p)).2 = 0 then _ else ((D.put ((endF fz L).fin : Int) (frm L p)).1, endF fz L, 0, (D.put ((endF fz L).fin : Int) (frm L p)).2)) = _
  rw [hq, if_neg (show ¬ (10 : Nat) = 0 by decide), frm_len]
theorem app_full {D : Dsk} {L : List (List UInt8)} {t p : List UInt8} (h : Hold D L t) (hp : p.length ≤ 65535) (hs : D.stopped = false) (hc : D.cap < (encF fz L).length + 10 + p.length) : appF D (endF fz L) p = (D, endF fz L, 0, 7) := by
  have hq := put_full (l := frm L p) h hs (by rw [frm_len]; omega)
  unfold appF
  rw [if_neg (by omega)]
  show (if (D.put ((endF fz L).fin : Int) (frm L p)).2 = 0 then _ else ((D.put ((endF fz L).fin : Int) (frm L p)).1, endF fz L, 0, (D.put ((endF fz L).fin : Int) (frm L p)).2)) = _
  rw [hq, if_neg (show ¬ (7 : Nat) = 0 by decide)]
theorem rec_halt {D : Dsk} (h : D.stopped = true) : recF D = (D, 10) := by unfold recF; rw [if_pos h]
theorem rec_bare {D : Dsk} {L : List (List UInt8)} (h : Hold D L []) (hs : D.stopped = false) : recF D = (D, 0) := by
  have hb : D.b.length = (encF fz L).length := by rw [h.b, List.append_nil]
  unfold recF
  rw [if_neg (by rw [hs]; simp), h.lastF (.inl (by simp; omega)), fz_fin, if_neg (by omega)]
theorem zeros_len (n : Nat) : (zeros n).length = n := List.length_replicate ..
theorem rec_clean {D : Dsk} {L : List (List UInt8)} {t : List UInt8} (h : Hold D L t) (hd : Dead t) (ht : t ≠ []) (hs : D.stopped = false) (hn : ¬ (D.is = true ∧ D.np = 0)) :
    recF D = ({ D with b := encF fz L ++ zeros t.length, puts := D.puts + 1, np := D.np - 1 }, 0) := by
  have hb : D.b.length = (encF fz L).length + t.length := by rw [h.b, List.length_append]
  have h0 : 0 < t.length := List.length_pos_iff.2 ht
  unfold recF
  rw [if_neg (by rw [hs]; simp), h.lastF hd, if_pos (by rw [fz_fin]; omega), put_tail h hs (by rw [zeros_len, fz_fin]; have := h.len; omega) hn, zeros_len, fz_fin, hb, Nat.add_sub_cancel_left, List.drop_of_length_le (Nat.le_refl _), List.append_nil]
theorem rec_torn {D : Dsk} {L : List (List UInt8)} {t : List UInt8} (h : Hold D L t) (hd : Dead t) (ht : t ≠ []) (hs : D.stopped = false) (hi : D.is = true) (hn : D.np = 0) :
    recF D = ({ D with b := encF fz L ++ (zeros (min D.nb.toNat t.length) ++ t.drop (min D.nb.toNat t.length)), stopped := true, is := false, np := 0, nb := 0 }, 10) := by
  have hb : D.b.length = (encF fz L).length + t.length := by rw [h.b, List.length_append]
  have h0 : 0 < t.length := List.length_pos_iff.2 ht
  unfold recF
  rw [if_neg (by rw [hs]; simp), h.lastF hd, if_pos (by rw [fz_fin]; omega), put_torn h hs (by rw [zeros_len, fz_fin]; have := h.len; omega) hi hn, zeros_len, fz_fin, hb, Nat.add_sub_cancel_left]
  simp only [zeros, List.take_replicate, Nat.min_assoc, Nat.min_self]
theorem dead_few {t : List UInt8} (h : t.length < 10) : Dead t := .inl (by omega)
/-- A frame's first bytes, not all: no frame. -/
theorem dead_cut {L : List (List UInt8)} {p : List UInt8} {m : Nat} (hp : p.length ≤ 65535) (hm : m < 10 + p.length) : Dead ((frm L p).take m) := by
  refine .inl ?_
  rw [List.length_take, frm_len, Nat.min_eq_left (by omega)]
  by_cases h2 : m < 10
  · omega
  · rw [List.take_take, Nat.min_eq_left (by omega)]
    have := (frame_parts (nextN (endF fz L)) (checkN (endF fz L).sum (nextN (endF fz L)) p) p []).1
    rw [List.append_nil] at this
    rw [show (frm L p).take 2 = be 2 p.length from this, beVal_be, Nat.mod_eq_of_lt (by omega)]
    exact hm
end Go.Proofs.YtfmebmaklakckaaDoor
