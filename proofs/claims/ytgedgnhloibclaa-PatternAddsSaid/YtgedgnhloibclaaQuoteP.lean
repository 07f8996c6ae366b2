/- What is quoted, plain: its pieces; what they match. -/
import Derived.Test.YtgedgnhloibclaaShort
namespace Go.Proofs.Ytgedgnhloibclaa
open Go Go.RowKit Go.Lw
def oneP (c : UInt8) : Pc := ⟨false, true, fun i => if i = c.toNat then true else false⟩
theorem takenF_plain {c : UInt8} (h : ¬ c.toNat = 92) (l : List UInt8) : takenF c l = (c, l) := by
  cases l with
  | nil => rfl
  | cons d l => exact if_neg h
theorem piece_plain {c : UInt8} (h : spec c = false) (l : List UInt8) : pieceF c l = (oneP c, l) := by
  have hn : ¬ (c.toNat = 42 ∨ c.toNat = 63 ∨ c.toNat = 91 ∨ c.toNat = 92) := fun hh => by rw [spec_yes hh] at h; cases h
  rw [piece_own (by omega) (by omega) (fun h => by omega), takenF_plain (by omega)]
  rfl
theorem piece_esc (c : UInt8) (l : List UInt8) : pieceF 92 (c :: l) = (oneP c, l) := by
  rw [piece_own (by decide) (by decide) (fun h => absurd h (by decide))]
  have : takenF 92 (c :: l) = (c, l) := rfl
  rw [this]
  rfl
theorem PL_quote : ∀ s r : List UInt8, PL (quoteF s ++ r) = s.map oneP ++ PL r
  | [], r => rfl
  | c :: s, r => by
    have ih := PL_quote s r
    rw [quoteF]
    cases h : spec c with
    | true =>
      simp only [if_true, List.cons_append, List.nil_append, List.map_cons]
      rw [PL_cons, piece_esc, ih]
    | false =>
      simp only [Bool.false_eq_true, if_false, List.cons_append, List.nil_append, List.map_cons]
      rw [PL_cons, piece_plain h, ih]
theorem PL_quote' (s : List UInt8) : PL (quoteF s) = s.map oneP := by
  have := PL_quote s []
  rw [List.append_nil, PL_nil, List.append_nil] at this
  exact this
theorem oneP_f (c d : UInt8) : (oneP c).f d.toNat = (d == c) := by
  show (if d.toNat = c.toNat then true else false) = _
  by_cases h : d = c
  · subst h; simp
  · rw [if_neg (fun e => h (UInt8.toNat_inj.1 e)), beq_eq_false_iff_ne.2 h]
theorem matchR_ones : ∀ (s : List UInt8) (L : List Pc) (t : List UInt8), matchR (s.map oneP ++ L) t = (t.take s.length == s && matchR L (t.drop s.length))
  | [], L, t => by simp
  | c :: s, L, [] => by
    rw [List.map_cons, List.cons_append, matchR_end]
    simp [oneP]
  | c :: s, L, d :: t => by
    rw [List.map_cons, List.cons_append, matchR_one rfl, matchR_ones s L t, oneP_f]
    simp only [List.length_cons, List.take_succ_cons, List.drop_succ_cons]
    rw [← Bool.and_assoc]
    rfl
theorem dot_one (c : UInt8) (L : List Pc) (t : List UInt8) : (dotF (oneP c :: L) t && matchR (oneP c :: L) t) = matchR (oneP c :: L) t := by
  cases t with
  | nil => rfl
  | cons d t =>
    rw [matchR_one rfl]
    unfold dotF
    by_cases h : d.toNat = 46
    · simp only [if_pos h]
      rw [h]
      show ((oneP c).own && (oneP c).f 46 && _) = _
      cases (oneP c).f 46 <;> simp [oneP]
    · simp only [if_neg h]; rfl
theorem take_beq (s t : List UInt8) : (t.take s.length == s && (t.drop s.length).isEmpty) = (t == s) := by
  rw [Bool.eq_iff_iff, Bool.and_eq_true, beq_iff_eq, beq_iff_eq, List.isEmpty_iff]
  constructor
  · rintro ⟨h1, h2⟩
    have := List.take_append_drop s.length t
    rw [h1, h2, List.append_nil] at this
    exact this.symm
  · rintro rfl
    simp
/-- What is quoted matches just itself. -/
theorem match_quote (s t : List UInt8) : matchF (quoteF s) t = (t == s) := by
  unfold matchF
  show (dotF (PL (quoteF s)) t && matchR (PL (quoteF s)) t) = _
  rw [PL_quote']
  have h : matchR (s.map oneP) t = (t == s) := by
    have := matchR_ones s [] t
    rw [List.append_nil, matchR_nil, take_beq] at this
    exact this
  cases s with
  | nil =>
    rw [h]
    cases t with
    | nil => rfl
    | cons d t => rw [show ((d :: t) == ([] : List UInt8)) = false from rfl, Bool.and_false]
  | cons c s => rw [List.map_cons, dot_one, ← List.map_cons, h]
def starP : Pc := ⟨true, false, noneF⟩
theorem PL_star : PL [42] = [starP] := rfl
theorem matchR_star : ∀ t : List UInt8, matchR [starP] t = true
  | [] => by rw [matchR_end, matchR_nil]; rfl
  | c :: t => by rw [matchR_cons, if_pos (show starP.any = true from rfl), matchR_star t, Bool.or_true]
theorem match_quote_star {s : List UInt8} (h : s ≠ []) (t : List UInt8) : matchF (quoteF s ++ [42]) t = (t.take s.length == s) := by
  unfold matchF
  show (dotF (PL (quoteF s ++ [42])) t && matchR (PL (quoteF s ++ [42])) t) = _
  rw [PL_quote, PL_star]
  cases s with
  | nil => exact absurd rfl h
  | cons c s => rw [List.map_cons, List.cons_append, dot_one, ← List.cons_append, ← List.map_cons, matchR_ones, matchR_star, Bool.and_true]
theorem match_star (t : List UInt8) : matchF [42] t = !(t.take 1 == [46]) := by
  unfold matchF
  show (dotF [starP] t && matchR [starP] t) = _
  rw [matchR_star, Bool.and_true]
  cases t with
  | nil => rfl
  | cons c t =>
    unfold dotF
    by_cases h : c.toNat = 46
    · simp only [if_pos h]
      obtain rfl : c = 46 := UInt8.toNat_inj.1 h
      simp [starP]
    · simp only [if_neg h]
      have : ¬ c = 46 := fun e => h (by rw [e]; rfl)
      simp [this]
theorem alive_quote (s : List UInt8) : aliveF (quoteF s) = false := by
  show (PL (quoteF s)).any _ = false
  rw [PL_quote', List.any_map]
  simp [oneP, Function.comp_def]
end Go.Proofs.Ytgedgnhloibclaa
