/- LogGood, plain: what is recovered where a put was torn. -/
import Derived.Test.YtfmebmaklakckaaDoorLogT
namespace Go.Proofs.YtfmebmaklakckaaDoor
open Go Go.RowKit Go.Lw
set_option maxRecDepth 100000
set_option linter.unusedVariables false
theorem be_beVal : ∀ (k : Nat) (l : List UInt8), l.length = k → be k (beVal l) = l := by
  intro k
  induction k with
  | zero => intro l h; rw [List.eq_nil_of_length_eq_zero h]; rfl
  | succ k ih =>
    intro l h
    obtain ⟨m, c, rfl⟩ : ∃ m c, l = m ++ [c] := by
      have hne : l ≠ [] := by intro e; subst e; simp at h
      exact ⟨l.dropLast, l.getLast hne, (List.dropLast_concat_getLast hne).symm⟩
    rw [beVal_snoc]
    show be k ((beVal m * 256 + c.toNat) / 256) ++ [lo (beVal m * 256 + c.toNat)] = _
    have hc := c.toNat_lt
    rw [show (beVal m * 256 + c.toNat) / 256 = beVal m by omega, ih m (by simpa using h)]
    congr 2
    apply UInt8.toNat_inj.1
    rw [lo_toNat]; omega
/-- A frame that is read stands there. -/
theorem step_bytes {b : List UInt8} {s f : Fd} (h : stepF b s = some f) : b.drop s.fin = frameB (nextN s) (checkN s.sum (nextN s) f.p) f.p ++ b.drop f.fin ∧ f = fdOf s f.p ∧ f.p.length = beVal ((b.drop s.fin).take 2) ∧ f.p.length ≤ 65535 := by
  obtain ⟨h1, h2, h3, h4, h5, h6, h7⟩ := step_some h
  have hlt := beVal_lt ((b.drop s.fin).take 2)
  have hl2 : ((b.drop s.fin).take 2).length = 2 := by rw [List.length_take]; omega
  rw [hl2] at hlt
  obtain ⟨n, hn⟩ : ∃ n, beVal ((b.drop s.fin).take 2) = n := ⟨_, rfl⟩
  rw [hn] at h1 h2 h5 hlt
  have hpl : f.p.length = n := by rw [h2, List.length_take, List.length_drop]; omega
  obtain ⟨t, ht⟩ : ∃ t, b.drop s.fin = t := ⟨_, rfl⟩
  rw [ht] at h1 h2 h3 h4 hl2 hn
  have e1 : be 2 f.p.length = t.take 2 := by rw [hpl, ← hn]; exact be_beVal 2 _ hl2
  have e2 : be 4 (nextN s) = (t.drop 2).take 4 := by
    rw [show nextN s = f.num from h6.symm, h3]
    exact be_beVal 4 _ (by rw [List.length_take, List.length_drop]; omega)
  have e3 : be 4 (checkN s.sum (nextN s) f.p) = (t.drop 6).take 4 := by
    rw [show nextN s = f.num from h6.symm, ← h7, h4]
    exact be_beVal 4 _ (by rw [List.length_take, List.length_drop]; omega)
  have e4 : b.drop f.fin = t.drop (10 + n) := by rw [h5, Nat.add_assoc, ← List.drop_drop, ht]
  refine ⟨?_, ?_, by rw [ht, hpl, hn], by rw [hpl]; omega⟩
  · unfold frameB
    rw [ht, e1, e2, e3, e4, h2]
    have a1 : t = t.take 2 ++ t.drop 2 := (List.take_append_drop 2 t).symm
    have a2 : t.drop 2 = (t.drop 2).take 4 ++ t.drop 6 := by
      have := (List.take_append_drop 4 (t.drop 2)).symm
      rwa [List.drop_drop] at this
    have a3 : t.drop 6 = (t.drop 6).take 4 ++ t.drop 10 := by
      have := (List.take_append_drop 4 (t.drop 6)).symm
      rwa [List.drop_drop] at this
    have a4 : t.drop 10 = (t.drop 10).take n ++ t.drop (10 + n) := by
      have := (List.take_append_drop n (t.drop 10)).symm
      rwa [List.drop_drop] at this
    have : t = t.take 2 ++ ((t.drop 2).take 4 ++ ((t.drop 6).take 4 ++ ((t.drop 10).take n ++ t.drop (10 + n)))) := by
      rw [← a4, ← a3, ← a2, ← a1]
    rw [List.append_assoc, List.append_assoc, List.append_assoc]
    exact this
  · have e6 : f.num = nextN s := h6
    have e7 : f.sum = checkN s.sum (nextN s) f.p := by rw [← e6]; exact h7
    have e5 : f.fin = s.fin + 10 + f.p.length := by rw [hpl]; exact h5
    unfold fdOf
    cases f
    simp only [Fd.mk.injEq] at *
    exact ⟨trivial, e6, e7, e5⟩
theorem lastF_none {b t : List UInt8} {L : List (List UInt8)} (hb : b = encF fz L ++ t) (hl : b.length ≤ 1048576) (hL : ∀ p ∈ L, p.length ≤ 65535) (hst : stepF b (endF fz L) = none) : lastF b = endF fz L := by
  have h1 := encF_count fz L
  have h2 : (encF fz L).length ≤ b.length := by rw [hb, List.length_append]; omega
  unfold lastF
  have := frames_enc (b := b) (t := t) L fz (b.length + 1) (by rw [hb]; rfl) hL (by omega) hst
  show (framesF b (b.length + 1) fz).getLastD fz = _
  rw [this, fdsF_last]
/-- Recover, where it is known what stands there. -/
theorem rec_last {D : Dsk} {L : List (List UInt8)} {t : List UInt8} (h : Hold D L t) (hl : lastF D.b = endF fz L) (hs : D.stopped = false) (hn : ¬ (D.is = true ∧ D.np = 0)) :
    ∃ D', recF D = (D', 0) ∧ Hold D' L (zeros t.length) ∧ D'.stopped = false ∧ D'.is = D.is ∧ D'.nb = D.nb ∧ D'.cap = D.cap ∧ (D'.np = D.np ∨ D'.np = D.np - 1) := by
  have hb : D.b.length = (encF fz L).length + t.length := by rw [h.b, List.length_append]
  by_cases ht : t.length = 0
  · refine ⟨D, ?_, ?_, hs, rfl, rfl, rfl, .inl rfl⟩
    · unfold recF
      rw [if_neg (by rw [hs]; simp), hl, fz_fin, if_neg (by omega)]
    · rw [ht]
      obtain rfl : t = [] := List.length_eq_zero_iff.1 ht
      exact h
  · have hq := put_tail (l := zeros t.length) h hs (by rw [zeros_len]; exact h.len) hn
    rw [zeros_len, List.drop_of_length_le (Nat.le_refl _), List.append_nil] at hq
    refine ⟨({ D with b := encF fz L ++ zeros t.length, puts := D.puts + 1, np := D.np - 1 } : Dsk), ?_, ⟨rfl, h.l, h.c, ?_⟩, hs, rfl, rfl, rfl, .inr rfl⟩
    · unfold recF
      rw [if_neg (by rw [hs]; simp), hl, if_pos (by rw [fz_fin]; omega), hb, show (encF fz L).length + t.length - (endF fz L).fin = t.length by rw [fz_fin]; omega, hq]
    · show (encF fz L ++ zeros t.length).length ≤ D.cap
      rw [List.length_append, zeros_len]; exact h.len
/-- The torn bytes, as 'chance' makes them. -/
def tornB (A : List (List UInt8)) (last : List UInt8) (m : Nat) : List UInt8 := (frm A last).take m ++ zeros (10 + last.length - m)
def chanceB (A : List (List UInt8)) (last q : List UInt8) (m : Nat) : Bool := (tornB A last m == frm A q) || (decide (q.length < last.length) && (frm A q).isPrefixOf (tornB A last m))
theorem zeros_add (a b : Nat) : zeros (a + b) = zeros a ++ zeros b := by unfold zeros; exact (List.replicate_append_replicate ..).symm
theorem zeros_take (a b : Nat) : (zeros a).take b = zeros (min b a) := by unfold zeros; rw [List.take_replicate]
theorem zeros_drop (a b : Nat) : (zeros a).drop b = zeros (a - b) := by unfold zeros; rw [List.drop_replicate]
theorem torn_len {A : List (List UInt8)} {last : List UInt8} {m j : Nat} (hl : last.length ≤ 60) (hm : m ≤ 10 + last.length) (h2 : 2 ≤ m + j) : (2 ≤ m → beVal (((frm A last).take m ++ zeros j).take 2) = last.length) ∧ (m < 2 → beVal (((frm A last).take m ++ zeros j).take 2) = 0) := by
  have hF := (frame_parts (nextN (endF fz A)) (checkN (endF fz A).sum (nextN (endF fz A)) last) last []).1
  rw [List.append_nil] at hF
  have hF' : (frm A last).take 2 = be 2 last.length := hF
  have hlen : ((frm A last).take m).length = m := by rw [List.length_take, frm_len]; omega
  constructor
  · intro h
    rw [List.take_append_of_le_length (by omega), List.take_take, Nat.min_eq_left h, hF', beVal_be, Nat.mod_eq_of_lt (by omega)]
  · intro h
    have h0 : (frm A last).take m = zeros m := by
      have e : (frm A last).take m = ((frm A last).take 2).take m := by rw [List.take_take, Nat.min_eq_left (by omega)]
      rw [e, hF']
      have e2 : be 2 last.length = [lo (last.length / 256), lo last.length] := rfl
      have e3 : lo (last.length / 256) = 0 := by rw [show last.length / 256 = 0 by omega]; rfl
      rw [e2, e3]
      have : m = 0 ∨ m = 1 := by omega
      rcases this with rfl | rfl <;> rfl
    rw [h0, ← zeros_add, zeros_take, beVal_zeros]
/-- What torn bytes may be. -/
theorem torn_step {A : List (List UInt8)} {last : List UInt8} {m j : Nat} {f : Fd} (hl : last.length ≤ 60) (hm : m ≤ 10 + last.length) (h : stepF (encF fz A ++ ((frm A last).take m ++ zeros j)) (endF fz A) = some f) :
    (∃ i, (frm A last).take m ++ zeros j = frm A f.p ++ zeros i) ∧ f = fdOf (endF fz A) f.p ∧ ((m = 10 + last.length ∧ f.p = last) ∨ (m < 10 + last.length ∧ chanceB A last f.p m = true)) ∧ f.p.length ≤ 60 := by
  obtain ⟨t, ht⟩ : ∃ t, (frm A last).take m ++ zeros j = t := ⟨_, rfl⟩
  have hd : (encF fz A ++ t).drop (endF fz A).fin = t := by rw [fz_fin, List.drop_append, List.drop_of_length_le (Nat.le_refl _), Nat.sub_self, List.nil_append, List.drop_zero]
  rw [ht] at h
  obtain ⟨h1, h2, h3, h4⟩ := step_bytes h
  rw [hd] at h1 h3
  have hfin : f.fin = (endF fz A).fin + (10 + f.p.length) := by
    have e0 := congrArg Fd.fin h2
    have e : (fdOf (endF fz A) f.p).fin = (endF fz A).fin + 10 + f.p.length := rfl
    omega
  have hd2 : (encF fz A ++ t).drop f.fin = t.drop (10 + f.p.length) := by rw [hfin, ← List.drop_drop, hd]
  have h1' : t = frm A f.p ++ t.drop (10 + f.p.length) := by rw [hd2] at h1; exact h1
  have hlen : ((frm A last).take m).length = m := by rw [List.length_take, frm_len]; omega
  have htl : t.length = m + j := by rw [← ht, List.length_append, hlen, zeros_len]
  have hge : 10 + f.p.length ≤ m + j := by
    have := congrArg List.length h1'
    rw [List.length_append, frm_len] at this; omega
  obtain ⟨k1, k2⟩ := torn_len (A := A) (j := j) hl hm (by omega)
  rw [ht] at k1 k2
  have hp : f.p.length ≤ last.length ∧ m ≤ 10 + f.p.length := by
    by_cases hm2 : 2 ≤ m
    · have := k1 hm2; rw [h3]; omega
    · have := k2 (by omega); rw [h3]; omega
  have hdz : t.drop (10 + f.p.length) = zeros (j - (10 + f.p.length - m)) := by
    rw [← ht, List.drop_append, List.drop_of_length_le (by rw [hlen]; exact hp.2), List.nil_append, hlen, zeros_drop]
  have htk : frm A f.p = (frm A last).take m ++ zeros (10 + f.p.length - m) := by
    have e : t.take (10 + f.p.length) = frm A f.p := by
      have := congrArg (List.take (10 + f.p.length)) h1'
      rw [List.take_append_of_le_length (by rw [frm_len]; exact Nat.le_refl _), show (frm A f.p).take (10 + f.p.length) = frm A f.p from List.take_of_length_le (by rw [frm_len]; exact Nat.le_refl _)] at this
      exact this
    rw [← e, ← ht, List.take_append, List.take_of_length_le (by rw [hlen]; exact hp.2), hlen, zeros_take, Nat.min_eq_left (by omega)]
  refine ⟨⟨_, by rw [ht]; rw [hdz] at h1'; exact h1'⟩, h2, ?_, by omega⟩
  by_cases hfull : m = 10 + last.length
  · refine .inl ⟨hfull, ?_⟩
    have hpl : f.p.length = last.length := by omega
    have e : frm A f.p = frm A last := by
      rw [htk, hfull, List.take_of_length_le (by rw [frm_len]; exact Nat.le_refl _), hpl, Nat.sub_self]
      show frm A last ++ [] = _
      rw [List.append_nil]
    have p1 := (frame_parts (nextN (endF fz A)) (checkN (endF fz A).sum (nextN (endF fz A)) f.p) f.p []).2.2.2
    have p2 := (frame_parts (nextN (endF fz A)) (checkN (endF fz A).sum (nextN (endF fz A)) last) last []).2.2.2
    rw [List.append_nil] at p1 p2
    have p1' : ((frm A f.p).drop 10).take f.p.length = f.p := p1
    have p2' : ((frm A last).drop 10).take last.length = last := p2
    rw [← p1', e, hpl, p2']
  · refine .inr ⟨by omega, ?_⟩
    unfold chanceB
    by_cases hq : f.p.length = last.length
    · rw [Bool.or_eq_true]
      refine .inl ?_
      rw [beq_iff_eq, htk, hq]; rfl
    · rw [Bool.or_eq_true]
      refine .inr ?_
      rw [Bool.and_eq_true]
      refine ⟨decide_eq_true (by omega), ?_⟩
      rw [List.isPrefixOf_iff_prefix, htk]
      unfold tornB
      refine ⟨zeros (10 + last.length - m - (10 + f.p.length - m)), ?_⟩
      rw [List.append_assoc, ← zeros_add]
      congr 2
      omega
/-- Recovered, behind a stop within a put. -/
theorem rec_stop {D : Dsk} {A : List (List UInt8)} {last : List UInt8} {m j : Nat} (h : Hold D A ((frm A last).take m ++ zeros j)) (hl : last.length ≤ 60) (hm : m ≤ 10 + last.length) (hs : D.stopped = false) (hn : ¬ (D.is = true ∧ D.np = 0)) :
    ∃ D' A' i, recF D = (D', 0) ∧ lastF D.b = endF fz A' ∧ Hold D' A' (zeros i) ∧ D'.stopped = false ∧ D'.is = D.is ∧ D'.nb = D.nb ∧ D'.cap = D.cap ∧ (A' = A ∨ ∃ q, A' = A ++ [q] ∧ q.length ≤ 60 ∧ ((m = 10 + last.length ∧ q = last) ∨ (m < 10 + last.length ∧ chanceB A last q m = true))) := by
  have hbl : D.b.length ≤ 1048576 := Nat.le_trans h.m h.c
  cases hst : stepF D.b (endF fz A) with
  | none =>
    have hlast := lastF_none h.b hbl h.l hst
    obtain ⟨D', e1, e2, e3, e4, e5, e6, _⟩ := rec_last h hlast hs hn
    exact ⟨D', A, _, e1, hlast, e2, e3, e4, e5, e6, .inl rfl⟩
  | some f =>
    have hb := h.b
    rw [hb] at hst
    obtain ⟨⟨i, h1⟩, h2, h3, h4⟩ := torn_step hl hm hst
    have hH : Hold D (A ++ [f.p]) (zeros i) := by
      refine ⟨?_, fun p hp => ?_, h.c, h.m⟩
      · rw [hb, h1, enc_snoc, List.append_assoc]
      · rcases List.mem_append.1 hp with hp | hp
        · exact h.l p hp
        · rw [List.mem_singleton.1 hp]; omega
    have hlast := hH.lastF (.inr ⟨i, rfl⟩)
    obtain ⟨D', e1, e2, e3, e4, e5, e6, _⟩ := rec_last hH hlast hs hn
    exact ⟨D', A ++ [f.p], _, e1, hlast, e2, e3, e4, e5, e6, .inr ⟨f.p, rfl, h4, h3⟩⟩
end Go.Proofs.YtfmebmaklakckaaDoor
