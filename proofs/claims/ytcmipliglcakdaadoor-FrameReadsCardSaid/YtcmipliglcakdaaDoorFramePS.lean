/- What is signed, plain: one form. -/
import Derived.Test.YtcmipliglcakdaaDoorFrameM
import Derived.Test.YtcmipliglcakdaaDoorBackP
namespace Go.Proofs.YtcmipliglcakdaaDoor
open Go Go.RowKit Go.Lw
theorem be_eq {k n m : Nat} (hn : n < 256 ^ k) (hm : m < 256 ^ k) (h : be k n = be k m) : n = m := by
  have := congrArg beVal h
  rw [beVal_be, beVal_be, Nat.mod_eq_of_lt hn, Nat.mod_eq_of_lt hm] at this
  exact this
theorem lo_eq {n m : Nat} (hn : n < 256) (hm : m < 256) (h : lo n = lo m) : n = m := by
  have := congrArg UInt8.toNat h
  rw [lo_toNat, lo_toNat, Nat.mod_eq_of_lt hn, Nat.mod_eq_of_lt hm] at this
  exact this
theorem sgn_inj {f g : Frm} (hf : f.ok) (hg : g.ok) (h : f.sgn = g.sgn) : f = g := by
  have hl : f.p.length = g.p.length := by
    have := congrArg List.length h
    rw [Frm.sgn_len, Frm.sgn_len] at this; omega
  unfold Frm.sgn Frm.head at h
  rw [hl] at h
  simp only [List.cons_append, List.append_assoc, List.cons.injEq] at h
  obtain ⟨h0, h⟩ := h
  obtain ⟨h1, h⟩ := List.append_inj h (by rw [be_length, be_length])
  obtain ⟨h2, h⟩ := List.append_inj h (by rw [be_length, be_length])
  obtain ⟨h3, h⟩ := List.append_inj h (by rw [be_length, be_length])
  obtain ⟨h4, h⟩ := List.append_inj h (by rw [be_length, be_length])
  obtain ⟨h5, h⟩ := List.append_inj h (by rw [be_length, be_length])
  have h6 := List.append_cancel_left h
  have e0 := lo_eq hf.k hg.k h0
  have e1 := be_eq hf.s hg.s h1
  have e2 := be_eq hf.e hg.e h2
  have e3 := be_eq hf.n hg.n h3
  have e4 := be_eq hf.a hg.a h4
  have e5 := be_eq hf.m hg.m h5
  obtain ⟨k, s, e, n, a, m, p⟩ := f
  obtain ⟨k', s', e', n', a', m', p'⟩ := g
  simp only at e0 e1 e2 e3 e4 e5 h6
  rw [e0, e1, e2, e3, e4, e5, h6]
theorem same_iff (f g : Frm) : f.same g = true ↔ f = g := by
  obtain ⟨k, s, e, n, a, m, p⟩ := f
  obtain ⟨k', s', e', n', a', m', p'⟩ := g
  simp only [Frm.same, Bool.and_eq_true, beq_iff_eq, Frm.mk.injEq]
  constructor
  · rintro ⟨⟨⟨⟨⟨⟨a, b⟩, c⟩, d⟩, e⟩, f⟩, g⟩; exact ⟨a, b, c, d, e, f, g⟩
  · rintro ⟨a, b, c, d, e, f, g⟩; exact ⟨⟨⟨⟨⟨⟨a, b⟩, c⟩, d⟩, e⟩, f⟩, g⟩
theorem sgn_beq {f g : Frm} (hf : f.ok) (hg : g.ok) : (f.sgn == g.sgn) = f.same g := by
  rw [Bool.eq_iff_iff, beq_iff_eq, same_iff]
  exact ⟨sgn_inj hf hg, fun h => by rw [h]⟩
theorem enc_beq (f : Frm) {t u : Nat} (ht : t < 18446744073709551616) (hu : u < 18446744073709551616) : (f.enc t == f.enc u) = (t == u) := by
  rw [Bool.eq_iff_iff, beq_iff_eq, beq_iff_eq]
  refine ⟨fun h => ?_, fun h => by rw [h]⟩
  unfold Frm.enc Frm.body at h
  rw [List.append_assoc, List.append_assoc] at h
  have h := List.append_cancel_left h
  obtain ⟨h1, _⟩ := List.append_inj h (by rw [be_length, be_length])
  exact be_eq ht hu h1
theorem enc_take (f : Frm) (t : Nat) : (f.enc t).take f.sgn.length = f.sgn := by
  unfold Frm.enc Frm.body
  rw [List.append_assoc, List.take_left']
  rfl
/-- A frame that may be, encoded. -/
theorem encode_ok (w : World) (f : Frm) (tag : Nat) (ad : Option Addr) (cap : Nat) (hf : f.ok) (hmay : f.may = true) (ht : tag < 18446744073709551616) (hm : TabM w) (hT : Tab w) (hv : RdB w (.slice ad f.p.length cap) f.p) :
    Calls Tryd.prog 24 #[f.val (.slice ad f.p.length cap), .int .u64 (tag : Int)] w fun e w' => ∃ ad' cap', e = .returned (.tuple #[.slice ad' (35 + f.p.length) cap', .int .i64 0]) ∧ 35 + f.p.length ≤ cap' ∧ cap' ≤ maxLen ∧ RdB w' (.slice ad' (35 + f.p.length) cap') (f.enc tag) ∧ Kept (fun _ => False) w w' := by
  refine (encode_any w f tag ad cap hf ht hm hT hv).mono ?_
  rw [hmay]
  rintro e w' ⟨r, rfl, hr, hk⟩
  obtain ⟨ad', cap', rfl, h1, h2, _⟩ := rdb_opened hr
  simp only [if_true, Frm.enc_len] at h1 hr ⊢
  exact ⟨ad', cap', rfl, h1, h2, hr, hk⟩
end Go.Proofs.YtcmipliglcakdaaDoor
