/- A datagram, plain: what is read of it, part by part; one form; a byte turned, cut short, one more. -/
import Derived.Test.YtcmipliglcakdaaDoorFrameD
import Derived.Test.YtcmipliglcakdaaDoorFramePS
import Derived.Test.YtcmipliglcakdaaDoorPlainBits
namespace Go.Proofs.YtcmipliglcakdaaDoor
open Go Go.RowKit Go.Lw
theorem num_in {l : List UInt8} {n : Nat} (h : n ≤ l.length) : (⟨l, false⟩ : Rdr).num n = (beVal (l.take n), ⟨l.drop n, false⟩) := by
  unfold Rdr.num; rw [take_in n rfl h]
theorem text_in {l : List UInt8} {m : Nat} (h2 : 2 ≤ l.length) (hm : beVal (l.take 2) = m) (h : 2 + m ≤ l.length) : (⟨l, false⟩ : Rdr).text = ((l.drop 2).take m, ⟨l.drop (2 + m), false⟩) := by
  unfold Rdr.text
  rw [num_in h2]
  simp only
  rw [hm, take_in m rfl (by simp; omega)]
  simp [List.drop_drop]
/-- How long a datagram says its payload is. -/
def plen (b : List UInt8) : Nat := beVal ((b.drop 21).take 2)
/-- What stands in a datagram that is long enough. -/
def fields (b : List UInt8) : DecR :=
  ⟨⟨beVal (b.take 1), beVal ((b.drop 1).take 4), beVal ((b.drop 5).take 4), beVal ((b.drop 9).take 4), beVal ((b.drop 13).take 4), beVal ((b.drop 17).take 4), (b.drop 23).take (plen b)⟩,
    beVal ((b.drop (23 + plen b)).take 8), beVal ((b.drop (31 + plen b)).take 4), ⟨b.drop (35 + plen b), false⟩⟩
theorem readF_in {b : List UInt8} (h : 35 + plen b ≤ b.length) : readF b = fields b := by
  have h1 : (⟨b, false⟩ : Rdr).num 1 = _ := num_in (by omega)
  have h2 : (⟨b.drop 1, false⟩ : Rdr).num 4 = _ := num_in (by simp; omega)
  have h3 : (⟨b.drop 5, false⟩ : Rdr).num 4 = _ := num_in (by simp; omega)
  have h4 : (⟨b.drop 9, false⟩ : Rdr).num 4 = _ := num_in (by simp; omega)
  have h5 : (⟨b.drop 13, false⟩ : Rdr).num 4 = _ := num_in (by simp; omega)
  have h6 : (⟨b.drop 17, false⟩ : Rdr).num 4 = _ := num_in (by simp; omega)
  have h7 : (⟨b.drop 21, false⟩ : Rdr).text = _ := text_in (m := plen b) (by simp; omega) rfl (by simp; omega)
  have h8 : (⟨b.drop (23 + plen b), false⟩ : Rdr).num 8 = _ := num_in (by simp; omega)
  have h9 : (⟨b.drop (31 + plen b), false⟩ : Rdr).num 4 = _ := num_in (by simp; omega)
  simp only [List.drop_drop] at h2 h3 h4 h5 h6 h7 h8 h9
  rw [show 21 + (2 + plen b) = 23 + plen b by omega] at h7
  rw [show 23 + plen b + 8 = 31 + plen b by omega] at h8
  rw [show 31 + plen b + 4 = 35 + plen b by omega] at h9
  simp only [Nat.reduceAdd] at h2 h3 h4 h5 h6 h7
  unfold readF fields
  simp only [h1, h2, h3, h4, h5, h6, h7, h8, h9]
theorem text_len {r r' : Rdr} {p : List UInt8} (h : r.text = (p, r')) (hs : r'.short = false) : p.length = (r.num 2).1 := by
  unfold Rdr.text at h
  have e : r' = ((r.num 2).2.take (r.num 2).1).2 := by rw [h]
  have e1 : p = ((r.num 2).2.take (r.num 2).1).1 := by rw [h]
  subst e
  rw [e1]; exact (take_ns hs).2.2
theorem readF_out {b : List UInt8} (h : b.length < 35 + plen b ∨ b.length < 23) : (readF b).r.short = true := by
  obtain ⟨k, r1, h1⟩ : ∃ x r, (⟨b, false⟩ : Rdr).num 1 = (x, r) := ⟨_, _, rfl⟩
  obtain ⟨s, r2, h2⟩ : ∃ x r, r1.num 4 = (x, r) := ⟨_, _, rfl⟩
  obtain ⟨e, r3, h3⟩ : ∃ x r, r2.num 4 = (x, r) := ⟨_, _, rfl⟩
  obtain ⟨n, r4, h4⟩ : ∃ x r, r3.num 4 = (x, r) := ⟨_, _, rfl⟩
  obtain ⟨a, r5, h5⟩ : ∃ x r, r4.num 4 = (x, r) := ⟨_, _, rfl⟩
  obtain ⟨m, r6, h6⟩ : ∃ x r, r5.num 4 = (x, r) := ⟨_, _, rfl⟩
  obtain ⟨p, r7, h7⟩ : ∃ x r, r6.text = (x, r) := ⟨_, _, rfl⟩
  obtain ⟨tag, r8, h8⟩ : ∃ x r, r7.num 8 = (x, r) := ⟨_, _, rfl⟩
  obtain ⟨sum, r9, h9⟩ : ∃ x r, r8.num 4 = (x, r) := ⟨_, _, rfl⟩
  have hd : readF b = ⟨⟨k, s, e, n, a, m, p⟩, tag, sum, r9⟩ := by simp only [readF, h1, h2, h3, h4, h5, h6, h7, h8, h9]
  rw [hd]
  simp only
  rcases hs : r9.short with _ | _
  · exfalso
    obtain ⟨s8, l8⟩ := num_ns h9 hs
    obtain ⟨s7, l7⟩ := num_ns h8 s8
    obtain ⟨s6, l6⟩ := text_ns h7 s7
    have hp := text_len h7 s7
    obtain ⟨s5, l5⟩ := num_ns h6 s6
    obtain ⟨s4, l4⟩ := num_ns h5 s5
    obtain ⟨s3, l3⟩ := num_ns h4 s4
    obtain ⟨s2, l2⟩ := num_ns h3 s3
    obtain ⟨s1, l1⟩ := num_ns h2 s2
    obtain ⟨_, l0⟩ := num_ns h1 s1
    simp only at l0
    rw [num_in (by omega)] at h1
    obtain ⟨-, rfl⟩ := Prod.mk.inj h1
    rw [num_in (by simp; omega)] at h2
    obtain ⟨-, rfl⟩ := Prod.mk.inj h2
    rw [num_in (by simp; omega)] at h3
    obtain ⟨-, rfl⟩ := Prod.mk.inj h3
    rw [num_in (by simp; omega)] at h4
    obtain ⟨-, rfl⟩ := Prod.mk.inj h4
    rw [num_in (by simp; omega)] at h5
    obtain ⟨-, rfl⟩ := Prod.mk.inj h5
    rw [num_in (by simp; omega)] at h6
    obtain ⟨-, rfl⟩ := Prod.mk.inj h6
    simp only [List.drop_drop, Nat.reduceAdd] at hp
    rw [num_in (by simp; omega)] at hp
    have hp' : p.length = plen b := hp
    simp only [List.length_drop] at l0 l1 l2 l3 l4 l5 l6
    omega
  · rfl
/-- The whole reading. -/
theorem decF_eq (b : List UInt8) : decF b = if b.length < 23 ∨ b.length < 35 + plen b then (zeroF, 0, 4) else if 35 + plen b < b.length then (zeroF, 0, 5)
    else if (fields b).sum ≠ crcN (b.take (b.length - 4)) then (zeroF, 0, 11) else if (fields b).f.may = false then (zeroF, 0, 5) else ((fields b).f, (fields b).tag, 0) := by
  by_cases h : b.length < 23 ∨ b.length < 35 + plen b
  · rw [if_pos h]
    unfold decF
    simp only
    rw [if_pos (readF_out (h.symm))]
  · rw [if_neg h]
    unfold decF
    rw [readF_in (by omega)]
    have e : (fields b).r = ⟨b.drop (35 + plen b), false⟩ := rfl
    simp only [e]
    rw [if_neg (by decide)]
    by_cases h2 : 35 + plen b < b.length
    · rw [if_pos h2, if_pos (fun e => by have := congrArg List.length e; simp at this; omega)]
    · rw [if_neg h2, if_neg (by simp; omega)]
theorem be_beVal : ∀ (k : Nat) (l : List UInt8), l.length = k → be k (beVal l) = l := by
  intro k
  induction k with
  | zero => intro l h; rw [List.eq_nil_of_length_eq_zero h]; rfl
  | succ k ih =>
    intro l h
    obtain ⟨m, c, rfl⟩ : ∃ m c, l = m ++ [c] := by
      have hne : l ≠ [] := by intro e; subst e; simp at h
      exact ⟨l.dropLast, l.getLast hne, (List.dropLast_concat_getLast hne).symm⟩
    rw [beVal_snoc]
    show be k ((beVal m * 256 + c.toNat) / 256) ++ [lo (beVal m * 256 + c.toNat)] = _
    have hc := c.toNat_lt
    rw [show (beVal m * 256 + c.toNat) / 256 = beVal m by omega, ih m (by simpa using h)]
    congr 2
    apply UInt8.toNat_inj.1
    rw [lo_toNat]; omega
theorem lo_beVal (l : List UInt8) (h : l.length = 1) : [lo (beVal l)] = l := by
  have := be_beVal 1 l h
  simpa [be] using this
/-- Whatever is read has just that datagram. -/
theorem decF_ok {b : List UInt8} {f : Frm} {t : Nat} (h : decF b = (f, t, 0)) : f.may = true ∧ f.ok ∧ t < 18446744073709551616 ∧ f.enc t = b ∧ (fields b).sum = crcN (b.take (b.length - 4)) ∧ b.length = 35 + plen b := by
  rw [decF_eq] at h
  by_cases h1 : b.length < 23 ∨ b.length < 35 + plen b
  · rw [if_pos h1] at h; cases h
  rw [if_neg h1] at h
  by_cases h2 : 35 + plen b < b.length
  · rw [if_pos h2] at h; cases h
  rw [if_neg h2] at h
  by_cases h3 : (fields b).sum ≠ crcN (b.take (b.length - 4))
  · rw [if_pos h3] at h; cases h
  rw [if_neg h3] at h
  by_cases h4 : (fields b).f.may = false
  · rw [if_pos h4] at h; cases h
  rw [if_neg h4] at h
  simp only [Prod.mk.injEq, and_true] at h
  obtain ⟨rfl, rfl⟩ := h
  have hl : b.length = 35 + plen b := by omega
  have hs : (fields b).sum = crcN (b.take (b.length - 4)) := Classical.not_not.1 h3
  have lt : ∀ (i k : Nat), i + k ≤ b.length → ((b.drop i).take k).length = k := fun i k h => by simp; omega
  have bd : ∀ (i k : Nat), i + k ≤ b.length → beVal ((b.drop i).take k) < 256 ^ k := fun i k h => by have := beVal_lt ((b.drop i).take k); rwa [lt i k h] at this
  have lt1 : (b.take 1).length = 1 := by simp; omega
  have b1 : beVal (b.take 1) < 256 := by have := beVal_lt (b.take 1); rwa [lt1] at this
  have hp : ((b.drop 23).take (plen b)).length = plen b := lt 23 _ (by omega)
  refine ⟨by simpa using h4, ⟨b1, bd 1 4 (by omega), bd 5 4 (by omega), bd 9 4 (by omega), bd 13 4 (by omega), bd 17 4 (by omega)⟩, bd (23 + plen b) 8 (by omega), ?_, hs, hl⟩
  have hsg : (fields b).f.sgn = b.take (23 + plen b) := by
    unfold Frm.sgn Frm.head
    have e : (fields b).f = ⟨beVal (b.take 1), beVal ((b.drop 1).take 4), beVal ((b.drop 5).take 4), beVal ((b.drop 9).take 4), beVal ((b.drop 13).take 4), beVal ((b.drop 17).take 4), (b.drop 23).take (plen b)⟩ := rfl
    rw [e]
    simp only [hp]
    rw [be_beVal 4 _ (lt 1 4 (by omega)), be_beVal 4 _ (lt 5 4 (by omega)), be_beVal 4 _ (lt 9 4 (by omega)), be_beVal 4 _ (lt 13 4 (by omega)), be_beVal 4 _ (lt 17 4 (by omega))]
    have e2 : be 2 (plen b) = (b.drop 21).take 2 := be_beVal 2 _ (lt 21 2 (by omega))
    rw [e2]
    have e0 : lo (beVal (b.take 1)) :: ((b.drop 1).take 4 ++ ((b.drop 5).take 4 ++ ((b.drop 9).take 4 ++ ((b.drop 13).take 4 ++ (b.drop 17).take 4)))) = b.take 1 ++ ((b.drop 1).take 4 ++ ((b.drop 5).take 4 ++ ((b.drop 9).take 4 ++ ((b.drop 13).take 4 ++ (b.drop 17).take 4)))) := by
      conv => rhs; rw [← lo_beVal (b.take 1) lt1]
      rfl
    rw [e0]
    have join : ∀ i k j, (b.drop i).take k ++ (b.drop (i + k)).take j = (b.drop i).take (k + j) := fun i k j => by
      rw [List.take_add, List.drop_drop]
    have j1 := join 13 4 4; have j2 := join 9 4 8; have j3 := join 5 4 12; have j4 := join 1 4 16; have j5 := join 21 2 (plen b)
    simp only [Nat.reduceAdd] at j1 j2 j3 j4 j5
    rw [j1, j2, j3, j4, j5]
    have j6 := join 0 1 20; have j7 := join 0 21 (2 + plen b)
    simp only [Nat.reduceAdd, List.drop_zero, Nat.zero_add] at j6 j7
    rw [j6, j7]
    congr 1; omega
  unfold Frm.enc Frm.body
  rw [hsg]
  have et : be 8 (fields b).tag = (b.drop (23 + plen b)).take 8 := be_beVal 8 _ (lt _ 8 (by omega))
  rw [et]
  have hb : b.take (23 + plen b) ++ (b.drop (23 + plen b)).take 8 = b.take (b.length - 4) := by
    rw [← List.take_add]; congr 1; omega
  rw [hb, ← hs]
  have es : be 4 (fields b).sum = (b.drop (31 + plen b)).take 4 := be_beVal 4 _ (lt _ 4 (by omega))
  rw [es, show 31 + plen b = b.length - 4 by omega, ← List.take_add, List.take_of_length_le (by omega)]
/-- A frame that may be, read of its datagram, with other bytes behind. -/
theorem plen_enc (f : Frm) (t : Nat) (rest : List UInt8) (hp : f.p.length ≤ 65535) : plen (f.enc t ++ rest) = f.p.length := by
  unfold plen Frm.enc Frm.body Frm.sgn
  have hh : f.head.length = 21 := by simp [Frm.head, be_length]
  simp only [List.append_assoc]
  rw [← hh, List.drop_left', ← be_length 2 f.p.length, List.take_left', be_length, beVal_be, Nat.mod_eq_of_lt (by omega)]
  · rfl
  · rfl
theorem fields_enc (f : Frm) (t : Nat) (rest : List UInt8) (hf : f.ok) (ht : t < 18446744073709551616) (hp : f.p.length ≤ 65535) : (fields (f.enc t ++ rest)).f = f ∧ (fields (f.enc t ++ rest)).tag = t ∧ (fields (f.enc t ++ rest)).sum = crcN (f.body t) := by
  have hpl := plen_enc f t rest hp
  unfold fields
  simp only [hpl]
  have hc := crcN_lt (f.body t)
  have key : f.enc t ++ rest = [lo f.kind] ++ (be 4 f.ses ++ (be 4 f.ep ++ (be 4 f.num ++ (be 4 f.ack ++ (be 4 f.mask ++ (be 2 f.p.length ++ (f.p ++ (be 8 t ++ (be 4 (crcN (f.body t)) ++ rest))))))))) := by
    unfold Frm.enc Frm.body Frm.sgn Frm.head; simp
  have cut : ∀ (n : Nat) (u v x : List UInt8) (k : Nat), u.length = n → v.length = k → ((u ++ (v ++ x)).drop n).take k = v := fun n u v x k hu hv => by
    subst hu; subst hv; rw [List.drop_left', List.take_left'] <;> rfl
  generalize hc' : crcN (f.body t) = c at *
  have p1 : (f.enc t ++ rest).take 1 = [lo f.kind] := by rw [key]; rfl
  have p2 : ((f.enc t ++ rest).drop 1).take 4 = be 4 f.ses := by rw [key]; exact cut 1 [lo f.kind] _ _ 4 rfl (be_length _ _)
  have p3 : ((f.enc t ++ rest).drop 5).take 4 = be 4 f.ep := by rw [key, ← List.append_assoc]; exact cut 5 _ _ _ 4 (by simp [be_length]) (be_length _ _)
  have p4 : ((f.enc t ++ rest).drop 9).take 4 = be 4 f.num := by rw [key, ← List.append_assoc, ← List.append_assoc]; exact cut 9 _ _ _ 4 (by simp [be_length]) (be_length _ _)
  have p5 : ((f.enc t ++ rest).drop 13).take 4 = be 4 f.ack := by rw [key, ← List.append_assoc, ← List.append_assoc, ← List.append_assoc]; exact cut 13 _ _ _ 4 (by simp [be_length]) (be_length _ _)
  have p6 : ((f.enc t ++ rest).drop 17).take 4 = be 4 f.mask := by rw [key, ← List.append_assoc, ← List.append_assoc, ← List.append_assoc, ← List.append_assoc]; exact cut 17 _ _ _ 4 (by simp [be_length]) (be_length _ _)
  have p7 : ((f.enc t ++ rest).drop 23).take f.p.length = f.p := by rw [key, ← List.append_assoc, ← List.append_assoc, ← List.append_assoc, ← List.append_assoc, ← List.append_assoc, ← List.append_assoc]; exact cut 23 _ _ _ _ (by simp [be_length]) rfl
  have p8 : ((f.enc t ++ rest).drop (23 + f.p.length)).take 8 = be 8 t := by rw [key, ← List.append_assoc, ← List.append_assoc, ← List.append_assoc, ← List.append_assoc, ← List.append_assoc, ← List.append_assoc, ← List.append_assoc]; exact cut _ _ _ _ 8 (by simp [be_length]; omega) (be_length _ _)
  have p9 : ((f.enc t ++ rest).drop (31 + f.p.length)).take 4 = be 4 c := by rw [key, ← List.append_assoc, ← List.append_assoc, ← List.append_assoc, ← List.append_assoc, ← List.append_assoc, ← List.append_assoc, ← List.append_assoc, ← List.append_assoc]; exact cut _ _ _ _ 4 (by simp [be_length]; omega) (be_length _ _)
  rw [p1, p2, p3, p4, p5, p6, p7, p8, p9]
  have e0 : beVal [lo f.kind] = f.kind := by have := beVal_be 1 f.kind; rw [show be 1 f.kind = [lo f.kind] from rfl] at this; rw [this]; exact Nat.mod_eq_of_lt hf.k
  rw [e0, beVal_be, beVal_be, beVal_be, beVal_be, beVal_be, beVal_be, beVal_be, Nat.mod_eq_of_lt (show f.ses < 256 ^ 4 from hf.s), Nat.mod_eq_of_lt (show f.ep < 256 ^ 4 from hf.e), Nat.mod_eq_of_lt (show f.num < 256 ^ 4 from hf.n), Nat.mod_eq_of_lt (show f.ack < 256 ^ 4 from hf.a), Nat.mod_eq_of_lt (show f.mask < 256 ^ 4 from hf.m), Nat.mod_eq_of_lt (show t < 256 ^ 8 from ht), Nat.mod_eq_of_lt (show c < 256 ^ 4 from hc)]
  exact ⟨rfl, rfl, rfl⟩
theorem body_len (f : Frm) (t : Nat) : (f.body t).length = 31 + f.p.length := by simp [Frm.body, Frm.sgn_len, be_length]; omega
theorem decF_enc (f : Frm) (t : Nat) (hf : f.ok) (hm : f.may = true) (ht : t < 18446744073709551616) : decF (f.enc t) = (f, t, 0) := by
  have hp := may_len hm
  have h1 := plen_enc f t [] (by omega)
  obtain ⟨e1, e2, e3⟩ := fields_enc f t [] hf ht (by omega)
  rw [List.append_nil] at h1 e1 e2 e3
  have hb : (f.enc t).take ((f.enc t).length - 4) = f.body t := by
    rw [Frm.enc_len, show 35 + f.p.length - 4 = (f.body t).length by rw [body_len]; omega]
    unfold Frm.enc; rw [List.take_left']; rfl
  rw [decF_eq, h1, e1, e2, e3, hb, Frm.enc_len, if_neg (by omega), if_neg (by omega), if_neg (by simp), if_neg (by rw [hm]; decide)]
theorem decF_more (f : Frm) (t : Nat) (x : UInt8) (hm : f.may = true) : decF (f.enc t ++ [x]) = (zeroF, 0, 5) := by
  have hp := may_len hm
  have h1 := plen_enc f t [x] (by omega)
  rw [decF_eq, h1, List.length_append, Frm.enc_len, if_neg (by simp; omega), if_pos (by simp)]
theorem decF_cut (f : Frm) (t : Nat) (k : Nat) (hm : f.may = true) (hk : k < 35 + f.p.length) : decF ((f.enc t).take k) = (zeroF, 0, 4) := by
  have hp := may_len hm
  have hl : ((f.enc t).take k).length = k := by rw [List.length_take, Frm.enc_len]; omega
  rw [decF_eq, hl]
  by_cases h : k < 23
  · rw [if_pos (.inl h)]
  · have h1 := plen_enc f t [] (by omega)
    rw [List.append_nil] at h1
    have h2 : plen ((f.enc t).take k) = f.p.length := by
      rw [← h1]; unfold plen
      rw [List.drop_take, List.take_take, Nat.min_eq_left (by omega)]
    rw [h2, if_pos (.inr hk)]
theorem step_inj {n m : Nat} {c d : UInt8} (hn : n < 4294967296) (hm : m < 4294967296) (h : crcStep n c = crcStep m d) : n ^^^ c.toNat = m ^^^ d.toNat := by
  rw [step_eq, step_eq] at h
  have lt : ∀ (n : Nat) (c : UInt8), n < 4294967296 → n ^^^ c.toNat < 4294967296 := fun n c hn => Nat.xor_lt_two_pow (n := 32) hn (Nat.lt_trans c.toNat_lt (by decide))
  exact bits8_inj _ _ (lt n c hn) (lt m d hm) h
theorem fold_inj (v : List UInt8) : ∀ {n m : Nat}, n < 4294967296 → m < 4294967296 → v.foldl crcStep n = v.foldl crcStep m → n = m := by
  induction v with
  | nil => intro n m _ _ h; exact h
  | cons c v ih =>
    intro n m hn hm h
    have h1 := ih (crcStep_lt n c hn) (crcStep_lt m c hm) h
    have h2 := step_inj hn hm h1
    have := xor_move h2
    rwa [Nat.xor_assoc, Nat.xor_self, Nat.xor_zero] at this
/-- One byte turned: another check. -/
theorem crc_one (u v : List UInt8) (c d : UInt8) (h : crcN (u ++ c :: v) = crcN (u ++ d :: v)) : c = d := by
  have h1 := crcReg_lt (u ++ c :: v); have h2 := crcReg_lt (u ++ d :: v)
  have h3 : crcReg (u ++ c :: v) = crcReg (u ++ d :: v) := by unfold crcN at h; omega
  unfold crcReg at h3
  rw [List.foldl_append, List.foldl_append, List.foldl_cons, List.foldl_cons] at h3
  have hu := crcReg_lt u
  unfold crcReg at hu
  have h4 := fold_inj v (crcStep_lt _ c hu) (crcStep_lt _ d hu) h3
  have h5 := step_inj hu hu h4
  have : c.toNat = d.toNat := by
    have h6 : (u.foldl crcStep 4294967295) ^^^ ((u.foldl crcStep 4294967295) ^^^ c.toNat) = (u.foldl crcStep 4294967295) ^^^ ((u.foldl crcStep 4294967295) ^^^ d.toNat) := by rw [h5]
    rwa [← Nat.xor_assoc, ← Nat.xor_assoc, Nat.xor_self, Nat.zero_xor, Nat.zero_xor] at h6
  exact UInt8.toNat_inj.1 this
/-- One byte of a datagram turned: it is refused. -/
theorem decF_turned (f : Frm) (t : Nat) (j : Nat) (c : UInt8) (hf : f.ok) (hm : f.may = true) (ht : t < 18446744073709551616) (hj : j < (f.enc t).length) (hc : (f.enc t)[j] ≠ c) : (decF ((f.enc t).set j c)).2.2 ≠ 0 := by
  intro h0
  have hd := decF_ok (decF_enc f t hf hm ht)
  obtain ⟨_, _, _, _, hs, hl⟩ := hd
  have hd' := decF_ok (b := (f.enc t).set j c) (f := (decF ((f.enc t).set j c)).1) (t := (decF ((f.enc t).set j c)).2.1) (by rw [← h0])
  obtain ⟨_, _, _, _, hs', hl'⟩ := hd'
  generalize f.enc t = b at *
  have hlen : (b.set j c).length = b.length := by simp
  rw [hlen] at hs' hl'
  have sum_eq : ∀ x : List UInt8, x.length = 35 + plen x → be 4 (fields x).sum = x.drop (x.length - 4) := fun x hx => by
    have : be 4 (fields x).sum = (x.drop (31 + plen x)).take 4 := be_beVal 4 _ (by simp; omega)
    rw [this, show 31 + plen x = x.length - 4 by omega, List.take_of_length_le (by simp; omega)]
  have t1 := sum_eq b hl
  have t2 := sum_eq (b.set j c) (by rw [hlen]; exact hl')
  rw [hlen] at t2
  by_cases hlt : j < b.length - 4
  · -- within what is checked
    have e1 : (b.set j c).drop (b.length - 4) = b.drop (b.length - 4) := by
      rw [List.drop_set]; rw [if_pos hlt]
    rw [e1, ← t1] at t2
    have hsum : (fields (b.set j c)).sum = (fields b).sum := be_eq (k := 4) (by rw [hs']; exact crcN_lt _) (by rw [hs]; exact crcN_lt _) t2
    rw [hs, hs'] at hsum
    have e2 : b.take (b.length - 4) = b.take j ++ b[j] :: (b.take (b.length - 4)).drop (j + 1) := by
      have := List.take_append_drop j (b.take (b.length - 4))
      rw [List.take_take, Nat.min_eq_left (by omega), List.drop_eq_getElem_cons (by simp; omega)] at this
      have h' := this.symm
      rw [List.getElem_take] at h'
      exact h'
    have e3 : (b.set j c).take (b.length - 4) = b.take j ++ c :: (b.take (b.length - 4)).drop (j + 1) := by
      rw [List.take_set]
      conv => lhs; rw [e2]
      rw [List.set_append_right _ _ (by simp; omega)]
      simp [show min j b.length = j by omega]
    rw [e2, e3] at hsum
    exact hc (crc_one _ _ _ _ hsum).symm
  · -- within the check
    have e1 : (b.set j c).take (b.length - 4) = b.take (b.length - 4) := by
      rw [List.take_set]; rw [List.set_eq_of_length_le (by simp; omega)]
    rw [e1, ← hs] at hs'
    rw [hs', t1] at t2
    have e2 : b = b.set j c := by
      have a1 := List.take_append_drop (b.length - 4) b
      have a2 := List.take_append_drop (b.length - 4) (b.set j c)
      rw [e1, ← t2] at a2
      exact a1.symm.trans a2
    have := congrArg (fun l => l[j]?) e2
    simp [hj] at this
    exact hc this
/-- What is refused tells nothing. -/
theorem decF_no {b : List UInt8} (h : (decF b).2.2 ≠ 0) : (decF b).1 = zeroF ∧ (decF b).2.1 = 0 ∧ ((decF b).2.2 = 4 ∨ (decF b).2.2 = 5 ∨ (decF b).2.2 = 11) := by
  unfold decF at *
  simp only at *
  split
  · exact ⟨rfl, rfl, .inl rfl⟩
  · rename_i h1
    rw [if_neg h1] at h
    split
    · exact ⟨rfl, rfl, .inr (.inl rfl)⟩
    · rename_i h2
      rw [if_neg h2] at h
      split
      · exact ⟨rfl, rfl, .inr (.inr rfl)⟩
      · rename_i h3
        rw [if_neg h3] at h
        split
        · exact ⟨rfl, rfl, .inr (.inl rfl)⟩
        · rename_i h4
          rw [if_neg h4] at h
          exact absurd rfl h
end Go.Proofs.YtcmipliglcakdaaDoor
