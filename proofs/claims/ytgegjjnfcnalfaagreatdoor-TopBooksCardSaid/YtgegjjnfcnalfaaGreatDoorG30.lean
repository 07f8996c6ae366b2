/- Of the proof of TopBooks: LogQ, LogS, LogT, JK. -/
import Derived.Test.YtgegjjnfcnalfaaGreatDoorG29
import Derived.Test.YtgegjjnfcnalfaaGreatDoorG28
namespace Go.Proofs.YtgegjjnfcnalfaaGreatDoor
open Go Go.RowKit Go.Lw
set_option maxRecDepth 100000
set_option linter.unusedVariables false
def encF (s : Fd) : List (List UInt8) → List UInt8
  | [] => []
  | p :: ps => frameB (nextN s) (checkN s.sum (nextN s) p) p ++ encF (fdOf s p) ps
def endF (s : Fd) : List (List UInt8) → Fd
  | [] => s
  | p :: ps => endF (fdOf s p) ps
def fdsF (s : Fd) : List (List UInt8) → List Fd
  | [] => []
  | p :: ps => fdOf s p :: fdsF (fdOf s p) ps
theorem fdsF_p (s : Fd) : ∀ L, (fdsF s L).map Fd.p = L := by
  intro L
  induction L generalizing s with
  | nil => rfl
  | cons p ps ih => simp [fdsF, ih]; rfl
theorem fdsF_last (s : Fd) : ∀ L, (fdsF s L).getLastD s = endF s L := by
  intro L
  induction L generalizing s with
  | nil => rfl
  | cons p ps ih => rw [fdsF, List.getLastD_cons, ih]; rfl
theorem endF_fin (s : Fd) : ∀ L, (endF s L).fin = s.fin + (encF s L).length := by
  intro L
  induction L generalizing s with
  | nil => rfl
  | cons p ps ih =>
    rw [endF, ih, encF, List.length_append, frameB_len]
    show s.fin + 10 + p.length + _ = _
    omega
theorem endF_num (s : Fd) (hs : s.num < 4294967296) : ∀ L : List (List UInt8), (endF s L).num = (s.num + L.length) % 4294967296 := by
  intro L
  induction L generalizing s with
  | nil => show s.num = (s.num + 0) % 4294967296; omega
  | cons p ps ih =>
    rw [endF, ih _ (nextN_lt s)]
    show ((s.num + 1) % 4294967296 + ps.length) % 4294967296 = _
    simp only [List.length_cons]; omega
theorem encF_snoc (s : Fd) (p : List UInt8) : ∀ L, encF s (L ++ [p]) = encF s L ++ frameB (nextN (endF s L)) (checkN (endF s L).sum (nextN (endF s L)) p) p := by
  intro L
  induction L generalizing s with
  | nil => simp [encF, endF]
  | cons q ps ih => simp [encF, endF, ih]
theorem endF_snoc (s : Fd) (p : List UInt8) : ∀ L, endF s (L ++ [p]) = fdOf (endF s L) p := by
  intro L
  induction L generalizing s with
  | nil => rfl
  | cons q ps ih => simp [endF, ih]
theorem endF_sum (s : Fd) (hs : s.sum < 4294967296) : ∀ L, (endF s L).sum < 4294967296 := by
  intro L
  induction L generalizing s with
  | nil => exact hs
  | cons q ps ih => exact ih _ (checkN_lt _ _ _)
theorem encF_count (s : Fd) : ∀ L : List (List UInt8), 10 * L.length ≤ (encF s L).length := by
  intro L
  induction L generalizing s with
  | nil => exact Nat.zero_le _
  | cons p ps ih => have := ih (fdOf s p); rw [encF, List.length_append, frameB_len]; simp only [List.length_cons]; omega
theorem beVal_be (k n : Nat) : beVal (be k n) = n % 256 ^ k := by
  induction k generalizing n with
  | zero => simp [be, beVal, Nat.mod_one]
  | succ k ih =>
    have h := be_add k 1 n
    rw [h]
    show beVal (be k (n / 256 ^ 1) ++ [lo n]) = _
    rw [beVal_snoc, ih, lo_toNat, Nat.pow_one, Nat.pow_succ, Nat.mul_comm (256 ^ k) 256, Nat.mod_mul]
    omega
theorem frame_parts (a b : Nat) (p rest : List UInt8) : (frameB a b p ++ rest).take 2 = be 2 p.length ∧ ((frameB a b p ++ rest).drop 2).take 4 = be 4 a ∧ ((frameB a b p ++ rest).drop 6).take 4 = be 4 b ∧ ((frameB a b p ++ rest).drop 10).take p.length = p := by
  have e : frameB a b p ++ rest = be 2 p.length ++ (be 4 a ++ (be 4 b ++ (p ++ rest))) := by unfold frameB; simp
  have h2 := be_length 2 p.length; have h4 := be_length 4 a; have h5 := be_length 4 b
  rw [e]
  refine ⟨?_, ?_, ?_, ?_⟩
  · rw [List.take_append_of_le_length (by omega), List.take_of_length_le (by omega)]
  · rw [List.drop_append, List.drop_of_length_le (by omega), h2, List.nil_append, Nat.sub_self, List.drop_zero, List.take_append_of_le_length (by omega), List.take_of_length_le (by omega)]
  · rw [← List.append_assoc, List.drop_append, List.drop_of_length_le (by rw [List.length_append]; omega), List.length_append, h2, h4, List.nil_append, Nat.sub_self, List.drop_zero, List.take_append_of_le_length (by omega), List.take_of_length_le (by omega)]
  · rw [← List.append_assoc, ← List.append_assoc, List.drop_append, List.drop_of_length_le (by simp only [List.length_append]; omega), List.nil_append]
    simp only [List.length_append, h2, h4, h5, Nat.sub_self, List.drop_zero]
    rw [List.take_append_of_le_length (Nat.le_refl _), List.take_of_length_le (Nat.le_refl _)]
theorem take_all {r : Rdr} {n : Nat} (h : r.short = false) (hn : n ≤ r.l.length) : r.take n = (r.l.take n, ⟨r.l.drop n, false⟩) := take_in n h hn
theorem step_frame {b : List UInt8} {s : Fd} {p rest : List UInt8} (h : b.drop s.fin = frameB (nextN s) (checkN s.sum (nextN s) p) p ++ rest) (hp : p.length ≤ 65535) : stepF b s = some (fdOf s p) := by
  obtain ⟨t1, t2, t3, t4⟩ := frame_parts (nextN s) (checkN s.sum (nextN s) p) p rest
  have hlen : (b.drop s.fin).length = 10 + p.length + rest.length := by rw [h, List.length_append, frameB_len]
  rw [← h] at t1 t2 t3 t4
  have e1 : (Rdr.mk (b.drop s.fin) false).num 2 = (p.length, ⟨(b.drop s.fin).drop 2, false⟩) := by
    unfold Rdr.num
    rw [take_all rfl (by show 2 ≤ (b.drop s.fin).length; omega)]
    show (beVal ((b.drop s.fin).take 2), _) = _
    rw [t1, beVal_be, Nat.mod_eq_of_lt (by omega)]
  have e2 : (Rdr.mk ((b.drop s.fin).drop 2) false).num 4 = (nextN s, ⟨(b.drop s.fin).drop 6, false⟩) := by
    unfold Rdr.num
    rw [take_all rfl (by show 4 ≤ ((b.drop s.fin).drop 2).length; rw [List.length_drop]; omega)]
    show (beVal (((b.drop s.fin).drop 2).take 4), Rdr.mk (((b.drop s.fin).drop 2).drop 4) false) = _
    rw [t2, beVal_be, Nat.mod_eq_of_lt (nextN_lt s), List.drop_drop]
  have e3 : (Rdr.mk ((b.drop s.fin).drop 6) false).num 4 = (checkN s.sum (nextN s) p, ⟨(b.drop s.fin).drop 10, false⟩) := by
    unfold Rdr.num
    rw [take_all rfl (by show 4 ≤ ((b.drop s.fin).drop 6).length; rw [List.length_drop]; omega)]
    show (beVal (((b.drop s.fin).drop 6).take 4), Rdr.mk (((b.drop s.fin).drop 6).drop 4) false) = _
    rw [t3, beVal_be, Nat.mod_eq_of_lt (checkN_lt _ _ _), List.drop_drop]
  have e4 : (Rdr.mk ((b.drop s.fin).drop 10) false).take p.length = (p, ⟨((b.drop s.fin).drop 10).drop p.length, false⟩) := by
    rw [take_all rfl (by show p.length ≤ ((b.drop s.fin).drop 10).length; rw [List.length_drop]; omega)]
    show (((b.drop s.fin).drop 10).take p.length, _) = _
    rw [t4]
  rw [step_parts e1 e2 e3 e4, if_neg (by simp [nextN])]
  rfl
def Dead (t : List UInt8) : Prop := t.length < 10 + beVal (t.take 2) ∨ ∃ k, t = zeros k
theorem beVal_zeros (k : Nat) : beVal (zeros k) = 0 := by
  have : ∀ k a, (List.replicate k (0 : UInt8)).foldl (fun a c => a * 256 + c.toNat) (a * 0) = 0 := by
    intro k
    induction k with
    | zero => intro a; rfl
    | succ k ih => intro a; rw [List.replicate_succ, List.foldl_cons]; exact ih 0
  exact this k 0
theorem step_dead {b : List UInt8} {s : Fd} (h : Dead (b.drop s.fin)) (hs : s.num + 1 < 4294967296) : stepF b s = none := by
  cases hst : stepF b s with
  | none => rfl
  | some f =>
    obtain ⟨h1, _, h3, _, _, h5, _⟩ := step_some hst
    rcases h with h | ⟨k, h⟩
    · omega
    · rw [h] at h3
      rw [show (((zeros k).drop 2).take 4) = zeros (min 4 (k - 2)) by simp [zeros, List.take_replicate], beVal_zeros] at h3
      omega
theorem frames_enc {b t : List UInt8} : ∀ (L : List (List UInt8)) (s : Fd) (n : Nat), b.drop s.fin = encF s L ++ t → (∀ p ∈ L, p.length ≤ 65535) → L.length < n → stepF b (endF s L) = none → framesF b n s = fdsF s L
  | [], s, n, _, _, _, h => framesF_nil h
  | p :: L, s, 0, _, _, h, _ => by simp at h
  | p :: L, s, n + 1, hb, hL, hn, h => by
    rw [framesF_cons (step_frame (rest := encF (fdOf s p) L ++ t) (by rw [hb, encF, List.append_assoc]) (hL p List.mem_cons_self))]
    have hd : b.drop (fdOf s p).fin = encF (fdOf s p) L ++ t := by
      show b.drop (s.fin + 10 + p.length) = _
      rw [Nat.add_assoc, ← List.drop_drop, hb, encF, List.append_assoc, List.drop_append, List.drop_of_length_le (by rw [frameB_len]; exact Nat.le_refl _), frameB_len, Nat.sub_self]
      rfl
    rw [frames_enc L (fdOf s p) n hd (fun q hq => hL q (List.mem_cons_of_mem _ hq)) (by simp at hn; omega) h]
    rfl
abbrev fz : Fd := Fd.zero
theorem fz_fin (L : List (List UInt8)) : (endF fz L).fin = (encF fz L).length := by rw [endF_fin]; show 0 + _ = _; omega
theorem fz_num {L : List (List UInt8)} (h : (encF fz L).length ≤ 1048576) : (endF fz L).num = L.length ∧ L.length ≤ 104858 ∧ nextN (endF fz L) = L.length + 1 := by
  have h1 := encF_count fz L
  have h2 := endF_num fz (by decide) L
  have h3 : fz.num = 0 := rfl
  unfold nextN
  rw [h3] at h2
  omega
theorem frames_all {b t : List UInt8} {L : List (List UInt8)} (hb : b = encF fz L ++ t) (hl : b.length ≤ 1048576) (hL : ∀ p ∈ L, p.length ≤ 65535) (hd : Dead t) : framesF b (b.length + 1) fz = fdsF fz L := by
  have h1 := encF_count fz L
  have h2 : (encF fz L).length ≤ b.length := by rw [hb, List.length_append]; omega
  have hn := fz_num (L := L) (by omega)
  refine frames_enc (t := t) L fz _ (by rw [hb]; rfl) hL (by omega) (step_dead ?_ (by omega))
  rw [fz_fin, hb, List.drop_append, List.drop_of_length_le (Nat.le_refl _), Nat.sub_self, List.nil_append, List.drop_zero]
  exact hd
theorem lastF_of {b t : List UInt8} {L : List (List UInt8)} (hb : b = encF fz L ++ t) (hl : b.length ≤ 1048576) (hL : ∀ p ∈ L, p.length ≤ 65535) (hd : Dead t) : lastF b = endF fz L := by
  unfold lastF
  rw [frames_all hb hl hL hd, fdsF_last]
theorem logP_of {D : Dsk} {t : List UInt8} {L : List (List UInt8)} (hb : D.b = encF fz L ++ t) (hl : D.b.length ≤ 1048576) (hL : ∀ p ∈ L, p.length ≤ 65535) : logP D (endF fz L) = L := by
  have hr : D.rd 0 ((endF fz L).fin : Int) = encF fz L := by
    unfold Dsk.rd
    rw [if_neg (by omega), fz_fin, hb]
    simp
  unfold logP logL
  rw [hr, frames_all (t := []) (by simp) (by rw [hb, List.length_append] at hl; omega) hL (.inl (by simp [beVal])), fdsF_p]
structure Hold (D : Dsk) (L : List (List UInt8)) (t : List UInt8) : Prop where
  b : D.b = encF fz L ++ t
  l : ∀ p ∈ L, p.length ≤ 65535
  c : D.cap ≤ 1048576
  m : D.b.length ≤ D.cap
theorem Hold.len {D : Dsk} {L : List (List UInt8)} {t : List UInt8} (h : Hold D L t) : (encF fz L).length + t.length ≤ D.cap := by
  have := h.m; rw [h.b, List.length_append] at this; exact this
theorem Hold.num {D : Dsk} {L : List (List UInt8)} {t : List UInt8} (h : Hold D L t) : nextN (endF fz L) = L.length + 1 := (fz_num (by have := h.len; have := h.c; omega)).2.2
theorem Hold.fin {D : Dsk} {L : List (List UInt8)} {t : List UInt8} (h : Hold D L t) : (endF fz L).fin ≤ 1048576 := by rw [fz_fin]; have := h.len; have := h.c; omega
theorem sum_ok (L : List (List UInt8)) : (endF fz L).sum < 4294967296 := endF_sum fz (by decide) L
theorem Hold.lastF {D : Dsk} {L : List (List UInt8)} {t : List UInt8} (h : Hold D L t) (hd : Dead t) : lastF D.b = endF fz L := lastF_of h.b (Nat.le_trans h.m h.c) h.l hd
theorem Hold.logP {D : Dsk} {L : List (List UInt8)} {t : List UInt8} (h : Hold D L t) : logP D (endF fz L) = L := logP_of h.b (Nat.le_trans h.m h.c) h.l
theorem lay_tail (E t f : List UInt8) : lay (E ++ t) E.length f = E ++ (f ++ t.drop f.length) := by
  unfold lay
  rw [List.take_append_of_le_length (Nat.le_refl _), List.take_of_length_le (Nat.le_refl _), ← List.drop_drop, List.drop_append, List.drop_of_length_le (Nat.le_refl _), Nat.sub_self, List.drop_zero, List.nil_append]
def frm (L : List (List UInt8)) (p : List UInt8) : List UInt8 := frameB (nextN (endF fz L)) (checkN (endF fz L).sum (nextN (endF fz L)) p) p
theorem frm_len (L : List (List UInt8)) (p : List UInt8) : (frm L p).length = 10 + p.length := frameB_len _ _ _
theorem enc_snoc (L : List (List UInt8)) (p : List UInt8) : encF fz (L ++ [p]) = encF fz L ++ frm L p := encF_snoc fz p L
theorem end_snoc (L : List (List UInt8)) (p : List UInt8) : endF fz (L ++ [p]) = fdOf (endF fz L) p := endF_snoc fz p L
theorem put_tail {D : Dsk} {L : List (List UInt8)} {t l : List UInt8} (h : Hold D L t) (hs : D.stopped = false) (hc : (encF fz L).length + l.length ≤ D.cap) (hp : ¬ (D.is = true ∧ D.np = 0)) :
    D.put ((endF fz L).fin : Int) l = ({ D with b := encF fz L ++ (l ++ t.drop l.length), puts := D.puts + 1, np := D.np - 1 }, 0) := by
  have hl := h.len
  have hb : D.b.length = (encF fz L).length + t.length := by rw [h.b, List.length_append]
  unfold Dsk.put
  rw [fz_fin, if_neg (by rw [hs]; simp), if_neg (by omega), if_neg (by omega), if_neg hp, Int.toNat_natCast, h.b, lay_tail]
theorem put_torn {D : Dsk} {L : List (List UInt8)} {t l : List UInt8} (h : Hold D L t) (hs : D.stopped = false) (hc : (encF fz L).length + l.length ≤ D.cap) (hi : D.is = true) (hn : D.np = 0) :
    D.put ((endF fz L).fin : Int) l = ({ D with b := encF fz L ++ (l.take (min D.nb.toNat l.length) ++ t.drop (min D.nb.toNat l.length)), stopped := true, is := false, np := 0, nb := 0 }, 10) := by
  have hl := h.len
  have hb : D.b.length = (encF fz L).length + t.length := by rw [h.b, List.length_append]
  unfold Dsk.put
  rw [fz_fin, if_neg (by rw [hs]; simp), if_neg (by omega), if_neg (by omega), if_pos ⟨hi, hn⟩, Int.toNat_natCast, h.b, lay_tail, List.length_take, Nat.min_eq_left (Nat.min_le_right _ _)]
theorem app_fits {D : Dsk} {L : List (List UInt8)} {t p : List UInt8} (h : Hold D L t) (hp : p.length ≤ 65535) (hs : D.stopped = false) (hc : (encF fz L).length + 10 + p.length ≤ D.cap) (hn : ¬ (D.is = true ∧ D.np = 0)) :
    appF D (endF fz L) p = ({ D with b := encF fz (L ++ [p]) ++ t.drop (10 + p.length), puts := D.puts + 1, np := D.np - 1 }, endF fz (L ++ [p]), L.length + 1, 0) := by
  have hq := put_tail (l := frm L p) h hs (by rw [frm_len]; omega) hn
  unfold appF
  rw [if_neg (by omega)]
  show (if (D.put ((endF fz L).fin : Int) (frm L p)).2 = 0 then ((D.put ((endF fz L).fin : Int) (frm L p)).1, fdOf (endF fz L) p, nextN (endF fz L), 0) else _) = _
  rw [hq, if_pos rfl, h.num, end_snoc, enc_snoc, frm_len, List.append_assoc]
theorem rec_bare {D : Dsk} {L : List (List UInt8)} (h : Hold D L []) (hs : D.stopped = false) : recF D = (D, 0) := by
  have hb : D.b.length = (encF fz L).length := by rw [h.b, List.append_nil]
  unfold recF
  rw [if_neg (by rw [hs]; simp), h.lastF (.inl (by simp; omega)), fz_fin, if_neg (by omega)]
theorem zeros_len (n : Nat) : (zeros n).length = n := List.length_replicate ..
theorem rec_clean {D : Dsk} {L : List (List UInt8)} {t : List UInt8} (h : Hold D L t) (hd : Dead t) (ht : t ≠ []) (hs : D.stopped = false) (hn : ¬ (D.is = true ∧ D.np = 0)) :
    recF D = ({ D with b := encF fz L ++ zeros t.length, puts := D.puts + 1, np := D.np - 1 }, 0) := by
  have hb : D.b.length = (encF fz L).length + t.length := by rw [h.b, List.length_append]
  have h0 : 0 < t.length := List.length_pos_iff.2 ht
  unfold recF
  rw [if_neg (by rw [hs]; simp), h.lastF hd, if_pos (by rw [fz_fin]; omega), put_tail h hs (by rw [zeros_len, fz_fin]; have := h.len; omega) hn, zeros_len, fz_fin, hb, Nat.add_sub_cancel_left, List.drop_of_length_le (Nat.le_refl _), List.append_nil]
theorem dead_cut {L : List (List UInt8)} {p : List UInt8} {m : Nat} (hp : p.length ≤ 65535) (hm : m < 10 + p.length) : Dead ((frm L p).take m) := by
  refine .inl ?_
  rw [List.length_take, frm_len, Nat.min_eq_left (by omega)]
  by_cases h2 : m < 10
  · omega
  · rw [List.take_take, Nat.min_eq_left (by omega)]
    have := (frame_parts (nextN (endF fz L)) (checkN (endF fz L).sum (nextN (endF fz L)) p) p []).1
    rw [List.append_nil] at this
    rw [show (frm L p).take 2 = be 2 p.length from this, beVal_be, Nat.mod_eq_of_lt (by omega)]
    exact hm
end Go.Proofs.YtgegjjnfcnalfaaGreatDoor
namespace Go.Proofs.YtgegjjnfcnalfaaGreatDoor
open Go Go.RowKit Go.Lw
set_option maxRecDepth 100000
set_option linter.unusedVariables false
set_option linter.unusedSimpArgs false
theorem snoc_ind {α : Type} {motive : List α → Prop} (nil : motive []) (append_singleton : ∀ l a, motive l → motive (l ++ [a])) : ∀ l, motive l := by
  have h : ∀ n (l : List α), l.length = n → motive l := by
    intro n
    induction n with
    | zero => intro l hl; rw [List.eq_nil_of_length_eq_zero hl]; exact nil
    | succ n ih =>
      intro l hl
      rcases List.eq_nil_or_concat l with rfl | ⟨l', c, rfl⟩
      · exact nil
      · rw [List.concat_eq_append]
        exact append_singleton l' c (ih l' (by simpa using hl))
  exact fun l => h l.length l rfl
inductive Rc where
  | intent (id : Nat) (t : List UInt8)
  | output (id : Nat) (two : Bool) (off : Nat) (t : List UInt8)
  | signal (id n : Nat)
  | fin (id n : Nat) (t : List UInt8)
  | cut (id : Nat)
  | mark (m : Mk)
def Rc.bytes : Rc → List UInt8
  | .intent id t => recB1 id t
  | .output id two off t => recB2 id (if two then 2 else 3) off t
  | .signal id n => recB3 id n
  | .fin id n t => recB4 id n (some t)
  | .cut id => recB5 id
  | .mark m => recB6 m.a m.b m.c
def putC (c : Cmd) (two : Bool) (t : List UInt8) : Cmd := if two then { c with out := c.out ++ t } else { c with err := c.err ++ t }
def Rc.mod (r : Rc) (c : Cmd) : Cmd := match r with
  | .output _ two _ t => putC c two t
  | .signal _ n => { c with sig := (n : Int) }
  | .fin _ n _ => { c with status := (n : Int), over := true }
  | .cut _ => { c with status := 125, over := true, cut := true }
  | _ => c
def modLast (f : Cmd → Cmd) : List Cmd → List Cmd
  | [] => []
  | [c] => [f c]
  | c :: d :: l => c :: modLast f (d :: l)
theorem modLast_snoc (f : Cmd → Cmd) (l : List Cmd) (c : Cmd) : modLast f (l ++ [c]) = l ++ [f c] := by
  induction l with
  | nil => rfl
  | cons a l ih =>
    cases l with
    | nil => rfl
    | cons b l => simp only [List.cons_append, modLast] at ih ⊢; rw [ih]
theorem modLast_len (f : Cmd → Cmd) (l : List Cmd) : (modLast f l).length = l.length := by
  rcases List.eq_nil_or_concat l with rfl | ⟨l', c, rfl⟩
  · rfl
  · rw [List.concat_eq_append, modLast_snoc]; simp
def Rc.doJ (r : Rc) (J : Jr) : Jr := match r with
  | .intent id t => { J with cs := J.cs ++ [cmd0 id t] }
  | .mark m => { J with mark := m }
  | .fin id n t => { J with cs := modLast (Rc.mod (.fin id n t)) J.cs, st := (n : Int), v := some t }
  | r => { J with cs := modLast (Rc.mod r) J.cs }
def Rc.Fit (r : Rc) (J : Jr) : Prop := match r with
  | .intent id t => J.opn = none ∧ id = J.cs.length + 1 ∧ t.length ≤ 60
  | .output id two off t => id = J.cs.length ∧ t ≠ [] ∧ t.length ≤ 60 ∧ ∃ c, J.opn = some c ∧ off = (if two then c.out else c.err).length
  | .signal id n => id = J.cs.length ∧ n ≤ 2147483647 ∧ ∃ c, J.opn = some c ∧ c.sig = -1
  | .fin id n t => id = J.cs.length ∧ n < 256 ∧ t.length ≤ 60 ∧ ∃ c, J.opn = some c
  | .cut id => id = J.cs.length ∧ ∃ c, J.opn = some c
  | .mark m => m.a < 4294967296 ∧ m.b < 4294967296 ∧ m.c < 4294967296
def runJ (rs : List Rc) : Jr := rs.foldl (fun J r => r.doJ J) jz
theorem runJ_snoc (rs : List Rc) (r : Rc) : runJ (rs ++ [r]) = r.doJ (runJ rs) := by unfold runJ; rw [List.foldl_append]; rfl
def Good (rs : List Rc) : Prop := ∀ pre x, (pre ++ [x]) <+: rs → x.Fit (runJ pre)
theorem Good.nil : Good [] := fun pre x h => by
  have := List.prefix_nil.1 h
  simp at this
theorem Good.snoc {rs : List Rc} {r : Rc} (h : Good rs) (hf : r.Fit (runJ rs)) : Good (rs ++ [r]) := fun pre x hp => by
  rcases List.prefix_concat_iff.1 (by simpa using hp) with e | e
  · obtain ⟨h1, h2⟩ := List.append_inj' e rfl
    obtain rfl := h1
    obtain rfl := (List.cons.inj h2).1
    exact hf
  · exact h pre x e
theorem Good.of_prefix {rs pre : List Rc} (h : Good rs) (hp : pre <+: rs) : Good pre := fun p x hx => h p x (hx.trans hp)
theorem doJ_len (r : Rc) (J : Jr) : (r.doJ J).cs.length ≤ J.cs.length + 1 := by
  cases r <;> simp [Rc.doJ, modLast_len]
theorem runJ_len : ∀ rs : List Rc, (runJ rs).cs.length ≤ rs.length := by
  intro rs
  induction rs using snoc_ind with
  | nil => exact Nat.le_refl _
  | append_singleton rs r ih =>
    rw [runJ_snoc]
    have := doJ_len r (runJ rs)
    simp only [List.length_append, List.length_singleton]; omega
structure Bnd (n : Nat) (J : Jr) : Prop where
  o : ∀ c ∈ J.cs, c.out.length + c.err.length ≤ 60 * n
  v : ∀ t, J.v = some t → t.length ≤ 60
  st : ∃ s : Nat, J.st = (s : Int) ∧ s < 256
  id : ∀ c ∈ J.cs, c.id ≤ n
  m : J.mark.a < 4294967296 ∧ J.mark.b < 4294967296 ∧ J.mark.c < 4294967296
theorem opn_last {J : Jr} {c : Cmd} (h : J.opn = some c) : ∃ cs, J.cs = cs ++ [c] ∧ c.over = false := Jr.opn_yes h
theorem Bnd.snoc {rs : List Rc} {r : Rc} (h : Bnd rs.length (runJ rs)) (hf : r.Fit (runJ rs)) : Bnd (rs ++ [r]).length (runJ (rs ++ [r])) := by
  have hlen := runJ_len rs
  rw [runJ_snoc, List.length_append, List.length_singleton]
  obtain ⟨h1, h2, h3, h4, h5⟩ := h
  have hold : ∀ c ∈ (runJ rs).cs, c.out.length + c.err.length ≤ 60 * (rs.length + 1) ∧ c.id ≤ rs.length + 1 := fun c hc => by have := h1 c hc; have := h4 c hc; omega
  have hmod : ∀ (f : Cmd → Cmd) (c0 : Cmd), (runJ rs).opn = some c0 → (f c0).out.length + (f c0).err.length ≤ c0.out.length + c0.err.length + 60 → (f c0).id = c0.id →
      ∀ c ∈ modLast f (runJ rs).cs, c.out.length + c.err.length ≤ 60 * (rs.length + 1) ∧ c.id ≤ rs.length + 1 := fun f c0 ho hb hi c hc => by
    obtain ⟨cs, hcs, -⟩ := opn_last ho
    rw [hcs, modLast_snoc] at hc
    rcases List.mem_append.1 hc with hc | hc
    · exact hold c (by rw [hcs]; exact List.mem_append_left _ hc)
    · rw [List.mem_singleton.1 hc]
      have e1 := h1 c0 (by rw [hcs]; simp); have e2 := h4 c0 (by rw [hcs]; simp)
      omega
  cases r with
  | intent id t =>
    refine ⟨fun c hc => ?_, h2, h3, fun c hc => ?_, h5⟩
    · rcases List.mem_append.1 hc with hc | hc
      · exact (hold c hc).1
      · rw [List.mem_singleton.1 hc]; simp [cmd0]
    · rcases List.mem_append.1 hc with hc | hc
      · exact (hold c hc).2
      · rw [List.mem_singleton.1 hc]; have := hf.2.1; show id ≤ _; omega
  | output id two off t =>
    obtain ⟨-, -, ht, c0, ho, -⟩ := hf
    have hm := hmod (Rc.mod (.output id two off t)) c0 ho (by cases two <;> simp [Rc.mod, putC] <;> omega) (by cases two <;> rfl)
    exact ⟨fun c hc => (hm c hc).1, h2, h3, fun c hc => (hm c hc).2, h5⟩
  | signal id n =>
    obtain ⟨-, -, c0, ho, -⟩ := hf
    have hm := hmod (Rc.mod (.signal id n)) c0 ho (by simp [Rc.mod]) rfl
    exact ⟨fun c hc => (hm c hc).1, h2, h3, fun c hc => (hm c hc).2, h5⟩
  | fin id n t =>
    obtain ⟨-, hn, ht, c0, ho⟩ := hf
    have hm := hmod (Rc.mod (.fin id n t)) c0 ho (by simp [Rc.mod]) rfl
    exact ⟨fun c hc => (hm c hc).1, fun u hu => by cases hu; exact ht, ⟨n, rfl, hn⟩, fun c hc => (hm c hc).2, h5⟩
  | cut id =>
    obtain ⟨-, c0, ho⟩ := hf
    have hm := hmod (Rc.mod (.cut id)) c0 ho (by simp [Rc.mod]) rfl
    exact ⟨fun c hc => (hm c hc).1, h2, h3, fun c hc => (hm c hc).2, h5⟩
  | mark m => exact ⟨fun c hc => (hold c hc).1, h2, h3, fun c hc => (hold c hc).2, hf⟩
theorem Good.bnd : ∀ {rs : List Rc}, Good rs → Bnd rs.length (runJ rs) := by
  intro rs
  induction rs using snoc_ind with
  | nil => exact fun _ => ⟨fun c hc => (by cases hc), fun t ht => (by cases ht), ⟨0, rfl, by decide⟩, fun c hc => (by cases hc), by decide⟩
  | append_singleton rs r ih => exact fun h => (ih (h.of_prefix (List.prefix_append _ _))).snoc (h rs r (List.prefix_refl _))
theorem bytes_len {r : Rc} {J : Jr} (h : r.Fit J) : 5 ≤ r.bytes.length ∧ r.bytes.length ≤ 79 := by
  cases r with
  | intent id t => have := h.2.2; simp [Rc.bytes, recB1, be_length]; omega
  | output id two off t => have := h.2.2.1; simp [Rc.bytes, recB2, be_length]; omega
  | signal id n => simp [Rc.bytes, recB3, be_length]
  | fin id n t => have := h.2.2.1; simp [Rc.bytes, recB4, be_length, stateB, headB, varB, treeB]; omega
  | cut id => simp [Rc.bytes, recB5, be_length]
  | mark m => simp [Rc.bytes, recB6, be_length]
theorem Good.len {rs : List Rc} (h : Good rs) : ∀ p ∈ rs.map Rc.bytes, p.length ≤ 79 := by
  induction rs using snoc_ind with
  | nil => intro p hp; cases hp
  | append_singleton rs r ih =>
    intro p hp
    rw [List.map_append] at hp
    rcases List.mem_append.1 hp with hp | hp
    · exact ih (h.of_prefix (List.prefix_append _ _)) p hp
    · rw [List.mem_singleton.1 hp]; exact (bytes_len (h rs r (List.prefix_refl _))).2
theorem enc_le : ∀ (L : List (List UInt8)), (∀ p ∈ L, p.length ≤ 79) → (encF fz L).length ≤ 89 * L.length := by
  intro L
  induction L using snoc_ind with
  | nil => intro _; exact Nat.le_refl _
  | append_singleton L p ih =>
    intro h
    rw [enc_snoc, List.length_append, frm_len, List.length_append]
    have h1 := ih (fun q hq => h q (List.mem_append_left _ hq))
    have h2 := h p (by simp)
    simp only [List.length_singleton]; omega
end Go.Proofs.YtgegjjnfcnalfaaGreatDoor
