/- Matching, plain: pieces against bytes; the search that goes back to the last star alone. -/
import Derived.Test.YtkfoinphkjmlmaaPieces21
namespace Go.Proofs.Ytkfoinphkjmlmaa
open Go Go.RowKit Go.Lw
/-- Do the pieces match just the bytes? -/
def matchR : List Pc → List UInt8 → Bool
  | [], s => s.isEmpty
  | p :: l, [] => p.any && matchR l []
  | p :: l, c :: s => if p.any then matchR l (c :: s) || matchR (p :: l) s else p.f c.toNat && matchR l s
termination_by l s => l.length + s.length
theorem matchR_nil (s : List UInt8) : matchR [] s = s.isEmpty := by unfold matchR; rfl
theorem matchR_end (p : Pc) (l : List Pc) : matchR (p :: l) [] = (p.any && matchR l []) := by
  conv => lhs; unfold matchR
theorem matchR_cons (p : Pc) (l : List Pc) (c : UInt8) (s : List UInt8) : matchR (p :: l) (c :: s) = if p.any then matchR l (c :: s) || matchR (p :: l) s else p.f c.toNat && matchR l s := by
  conv => lhs; unfold matchR
theorem matchR_one {p : Pc} (h : p.any = false) (l : List Pc) (c : UInt8) (s : List UInt8) : matchR (p :: l) (c :: s) = (p.f c.toNat && matchR l s) := by
  rw [matchR_cons, h]; rfl
/-- Behind a star: at some place. -/
theorem matchR_any {p : Pc} (h : p.any = true) (l : List Pc) : ∀ s : List UInt8, matchR (p :: l) s = true ↔ ∃ j, j ≤ s.length ∧ matchR l (s.drop j) = true
  | [] => by
    rw [matchR_end, h]
    simp
  | c :: s => by
    rw [matchR_cons, h]
    simp only [if_true, Bool.or_eq_true]
    rw [matchR_any h l s]
    constructor
    · rintro (e | ⟨j, hj, e⟩)
      · exact ⟨0, Nat.zero_le _, e⟩
      · exact ⟨j + 1, by simp; omega, e⟩
    · rintro ⟨j, hj, e⟩
      cases j with
      | zero => exact .inl e
      | succ j => exact .inr ⟨j, by simp at hj; omega, e⟩
/-- Pieces of one byte each take just as many bytes. -/
theorem matchR_run : ∀ (n : Nat) (l : List Pc) (s : List UInt8), n ≤ l.length → (∀ i p, i < n → l[i]? = some p → p.any = false) → matchR l s = true → n ≤ s.length ∧ matchR (l.drop n) (s.drop n) = true
  | 0, l, s, _, _, h => ⟨Nat.zero_le _, by simpa using h⟩
  | n + 1, [], s, hl, _, _ => by simp at hl
  | n + 1, p :: l, [], hl, hp, h => by
    rw [matchR_end, hp 0 p (by omega) rfl] at h
    simp at h
  | n + 1, p :: l, c :: s, hl, hp, h => by
    rw [matchR_one (hp 0 p (by omega) rfl)] at h
    simp only [Bool.and_eq_true] at h
    obtain ⟨h1, h2⟩ := matchR_run n l s (by simp at hl; omega) (fun i q hi hq => hp (i + 1) q (by omega) (by simpa using hq)) h.2
    exact ⟨by simp; omega, by simpa using h2⟩
/-- The search: where it stands; the last star, and what that has taken. -/
structure MInv (L : List Pc) (s : List UInt8) (k a : Nat) (st : Option (Nat × Nat)) : Prop where
  hk : k ≤ L.length
  ha : a ≤ s.length
  nost : st = none → (matchR L s = true ↔ matchR (L.drop k) (s.drop a) = true)
  atst : ∀ i f, st = some (i, f) → i + 1 ≤ k ∧ k + f = a + i + 1 ∧ f ≤ a ∧ (∀ j p, i < j → j < k → L[j]? = some p → p.any = false) ∧
    (matchR L s = true ↔ matchR (L.drop k) (s.drop a) = true ∨ ∃ j, f < j ∧ j ≤ s.length ∧ matchR (L.drop (i + 1)) (s.drop j) = true)
theorem MInv.start (L : List Pc) (s : List UInt8) : MInv L s 0 0 none := ⟨Nat.zero_le _, Nat.zero_le _, fun _ => by simp, fun _ _ h => by cases h⟩
theorem seg {L : List Pc} {s : List UInt8} {k a i f j : Nat} (h1 : i + 1 ≤ k) (hk : k ≤ L.length) (h2 : k + f = a + i + 1) (h3 : ∀ j p, i < j → j < k → L[j]? = some p → p.any = false)
    (h : matchR (L.drop (i + 1)) (s.drop j) = true) : k - (i + 1) ≤ s.length - j ∧ matchR (L.drop k) (s.drop (j + (k - (i + 1)))) = true := by
  obtain ⟨e1, e2⟩ := matchR_run (k - (i + 1)) (L.drop (i + 1)) (s.drop j) (by rw [List.length_drop]; omega) (fun q p hq hp => h3 (i + 1 + q) p (by omega) (by omega) (by rw [List.getElem?_drop] at hp; exact hp)) h
  rw [List.drop_drop, List.drop_drop] at e2
  rw [List.length_drop] at e1
  rw [show i + 1 + (k - (i + 1)) = k by omega] at e2
  exact ⟨e1, e2⟩
/-- A star: all that the former one could do, this one can. -/
theorem MInv.star {L : List Pc} {s : List UInt8} {k a : Nat} {st : Option (Nat × Nat)} (h : MInv L s k a st) {p : Pc} (hp : L[k]? = some p) (hpa : p.any = true) : MInv L s (k + 1) a (some (k, a)) := by
  have hkl : k < L.length := by
    rcases Nat.lt_or_ge k L.length with h | h
    · exact h
    · rw [List.getElem?_eq_none h] at hp; cases hp
  have hd : L.drop k = p :: L.drop (k + 1) := by
    rw [List.drop_eq_getElem_cons hkl]
    rw [List.getElem?_eq_getElem hkl] at hp
    rw [Option.some.inj hp]
  have key : matchR (L.drop k) (s.drop a) = true ↔ ∃ j, a ≤ j ∧ j ≤ s.length ∧ matchR (L.drop (k + 1)) (s.drop j) = true := by
    rw [hd, matchR_any hpa]
    constructor
    · rintro ⟨j, hj, e⟩
      rw [List.drop_drop] at e
      rw [List.length_drop] at hj
      exact ⟨a + j, by omega, by have := h.ha; omega, e⟩
    · rintro ⟨j, hj, hjs, e⟩
      refine ⟨j - a, by rw [List.length_drop]; omega, ?_⟩
      rw [List.drop_drop, show a + (j - a) = j by omega]; exact e
  have split : (∃ j, a ≤ j ∧ j ≤ s.length ∧ matchR (L.drop (k + 1)) (s.drop j) = true) ↔ (matchR (L.drop (k + 1)) (s.drop a) = true ∨ ∃ j, a < j ∧ j ≤ s.length ∧ matchR (L.drop (k + 1)) (s.drop j) = true) := by
    constructor
    · rintro ⟨j, h1, h2, e⟩
      by_cases hja : j = a
      · subst hja; exact .inl e
      · exact .inr ⟨j, by omega, h2, e⟩
    · rintro (e | ⟨j, h1, h2, e⟩)
      · exact ⟨a, Nat.le_refl _, h.ha, e⟩
      · exact ⟨j, by omega, h2, e⟩
  refine ⟨by omega, h.ha, (fun e => by cases e), fun i f e => ?_⟩
  cases e
  refine ⟨Nat.le_refl _, by omega, Nat.le_refl _, fun j p h1 h2 => by omega, ?_⟩
  rw [← split, ← key]
  cases st with
  | none => exact h.nost rfl
  | some x =>
    obtain ⟨i, f⟩ := x
    obtain ⟨q1, q2, q3, q4, q5⟩ := h.atst i f rfl
    rw [q5]
    refine ⟨fun e => ?_, .inl⟩
    rcases e with e | ⟨j, hj, hjs, e⟩
    · exact e
    · obtain ⟨s1, s2⟩ := seg q1 h.hk q2 q4 e
      rw [hd, matchR_any hpa] at s2
      obtain ⟨m, hm, em⟩ := s2
      rw [List.drop_drop] at em
      rw [List.length_drop] at hm
      exact key.2 ⟨j + (k - (i + 1)) + m, by omega, by omega, em⟩
/-- A byte that the piece takes. -/
theorem MInv.take {L : List Pc} {s : List UInt8} {k a : Nat} {st : Option (Nat × Nat)} (h : MInv L s k a st) {p : Pc} {c : UInt8} (hp : L[k]? = some p) (hpa : p.any = false) (hc : s[a]? = some c) (hf : p.f c.toNat = true) : MInv L s (k + 1) (a + 1) st := by
  have hkl : k < L.length := by
    rcases Nat.lt_or_ge k L.length with h | h
    · exact h
    · rw [List.getElem?_eq_none h] at hp; cases hp
  have hal : a < s.length := by
    rcases Nat.lt_or_ge a s.length with h | h
    · exact h
    · rw [List.getElem?_eq_none h] at hc; cases hc
  have e : matchR (L.drop k) (s.drop a) = matchR (L.drop (k + 1)) (s.drop (a + 1)) := by
    rw [List.drop_eq_getElem_cons hkl, List.drop_eq_getElem_cons hal]
    rw [List.getElem?_eq_getElem hkl] at hp
    rw [List.getElem?_eq_getElem hal] at hc
    rw [Option.some.inj hp, Option.some.inj hc, matchR_one hpa, hf]
    simp
  refine ⟨by omega, by omega, fun e' => by rw [h.nost e', e], fun i f e' => ?_⟩
  obtain ⟨q1, q2, q3, q4, q5⟩ := h.atst i f e'
  refine ⟨by omega, by omega, by omega, fun j q h1 h2 hq => ?_, by rw [q5, e]⟩
  by_cases hj : j = k
  · subst hj; rw [hp] at hq; rw [← Option.some.inj hq]; exact hpa
  · exact q4 j q h1 (by omega) hq
/-- Here the pieces do not go on. -/
def stuckF (L : List Pc) (s : List UInt8) (k a : Nat) : Prop := a < s.length ∧ (k = L.length ∨ ∃ p c, L[k]? = some p ∧ s[a]? = some c ∧ p.any = false ∧ p.f c.toNat = false)
theorem stuck_no {L : List Pc} {s : List UInt8} {k a : Nat} (h : stuckF L s k a) : matchR (L.drop k) (s.drop a) = false := by
  obtain ⟨hal, hk | ⟨p, c, hp, hc, hpa, hf⟩⟩ := h
  · subst hk
    rw [List.drop_length, matchR_nil, List.drop_eq_getElem_cons hal]; rfl
  · have hkl : k < L.length := by
      rcases Nat.lt_or_ge k L.length with h | h
      · exact h
      · rw [List.getElem?_eq_none h] at hp; cases hp
    rw [List.drop_eq_getElem_cons hkl, List.drop_eq_getElem_cons hal]
    rw [List.getElem?_eq_getElem hkl] at hp
    rw [List.getElem?_eq_getElem hal] at hc
    rw [Option.some.inj hp, Option.some.inj hc, matchR_one hpa, hf]
    rfl
theorem MInv.back {L : List Pc} {s : List UInt8} {k a i f : Nat} (h : MInv L s k a (some (i, f))) (hs : stuckF L s k a) : MInv L s (i + 1) (f + 1) (some (i, f + 1)) := by
  obtain ⟨q1, q2, q3, q4, q5⟩ := h.atst i f rfl
  have hal := hs.1
  refine ⟨by have := h.hk; omega, by omega, (fun e => by cases e), fun i' f' e => ?_⟩
  cases e
  refine ⟨Nat.le_refl _, by omega, Nat.le_refl _, fun j p h1 h2 => by omega, ?_⟩
  rw [q5, stuck_no hs]
  constructor
  · rintro (e | ⟨j, h1, h2, e⟩)
    · cases e
    · by_cases hj : j = f + 1
      · subst hj; exact .inl e
      · exact .inr ⟨j, by omega, h2, e⟩
  · rintro (e | ⟨j, h1, h2, e⟩)
    · exact .inr ⟨f + 1, by omega, by omega, e⟩
    · exact .inr ⟨j, by omega, h2, e⟩
theorem MInv.fails {L : List Pc} {s : List UInt8} {k a : Nat} (h : MInv L s k a none) (hs : stuckF L s k a) : matchR L s = false := by
  have := h.nost rfl
  rw [stuck_no hs] at this
  simpa using this
theorem MInv.ends {L : List Pc} {s : List UInt8} {k : Nat} {st : Option (Nat × Nat)} (h : MInv L s k s.length st) : matchR L s = matchR (L.drop k) [] := by
  rw [Bool.eq_iff_iff]
  cases st with
  | none => have := h.nost rfl; rw [List.drop_length] at this; exact this
  | some x =>
    obtain ⟨i, f⟩ := x
    obtain ⟨q1, q2, q3, q4, q5⟩ := h.atst i f rfl
    rw [List.drop_length] at q5
    rw [q5]
    refine ⟨fun e => ?_, .inl⟩
    rcases e with e | ⟨j, hj, hjs, e⟩
    · exact e
    · have := (seg q1 h.hk q2 q4 e).1
      omega
theorem ends_any {L : List Pc} {k : Nat} {p : Pc} (hp : L[k]? = some p) (hpa : p.any = true) : matchR (L.drop k) [] = matchR (L.drop (k + 1)) [] := by
  have hkl : k < L.length := by
    rcases Nat.lt_or_ge k L.length with h | h
    · exact h
    · rw [List.getElem?_eq_none h] at hp; cases hp
  rw [List.drop_eq_getElem_cons hkl]
  rw [List.getElem?_eq_getElem hkl] at hp
  rw [Option.some.inj hp, matchR_end, hpa]; rfl
theorem ends_one {L : List Pc} {k : Nat} {p : Pc} (hp : L[k]? = some p) (hpa : p.any = false) : matchR (L.drop k) [] = false := by
  have hkl : k < L.length := by
    rcases Nat.lt_or_ge k L.length with h | h
    · exact h
    · rw [List.getElem?_eq_none h] at hp; cases hp
  rw [List.drop_eq_getElem_cons hkl]
  rw [List.getElem?_eq_getElem hkl] at hp
  rw [Option.some.inj hp, matchR_end, hpa]; rfl
theorem meas_star {n N f k a g : Nat} (h : g = (n + 1 - f) * (N + n + 1) + (N - k) + (n - a)) (hk : k < N) (hf : f ≤ a) : (n + 1 - a) * (N + n + 1) + (N - (k + 1)) + (n - a) < g := by
  have := Nat.mul_le_mul_right (N + n + 1) (show n + 1 - a ≤ n + 1 - f by omega)
  omega
theorem meas_take {n N f k a g : Nat} (h : g = (n + 1 - f) * (N + n + 1) + (N - k) + (n - a)) (hk : k < N) : (n + 1 - f) * (N + n + 1) + (N - (k + 1)) + (n - (a + 1)) < g := by omega
theorem meas_back {n N f k a g i : Nat} (h : g = (n + 1 - f) * (N + n + 1) + (N - k) + (n - a)) (hf : f < n) : (n + 1 - (f + 1)) * (N + n + 1) + (N - (i + 1)) + (n - (f + 1)) < g := by
  have e : (n + 1 - f) * (N + n + 1) = (n + 1 - (f + 1)) * (N + n + 1) + (N + n + 1) := by
    rw [show n + 1 - f = (n + 1 - (f + 1)) + 1 by omega, Nat.succ_mul]
  omega
theorem pieceF_own (c : UInt8) (l : List UInt8) (h : (pieceF c l).1.own = true) : (pieceF c l).1.any = false := by
  unfold pieceF at *
  split at h
  · cases h
  · rename_i h1
    rw [if_neg h1]
    split at h
    · cases h
    · rename_i h2
      rw [if_neg h2]
      split <;> rfl
theorem piecesF_own {n : Nat} {l : List UInt8} {p : Pc} (h : (piecesF n l)[0]? = some p) (ho : p.own = true) : p.any = false := by
  cases n with
  | zero => simp [piecesF] at h
  | succ n =>
    cases l with
    | nil => simp [piecesF] at h
    | cons c l =>
      simp [piecesF] at h
      subst h
      exact pieceF_own c l ho
/-- A point at the front: it wants a piece of its own. -/
def dotF (L : List Pc) (s : List UInt8) : Bool := match s with
  | c :: _ => if c.toNat = 46 then (match L with
    | p :: _ => p.own && p.f 46
    | [] => false) else true
  | [] => true
def matchF (p s : List UInt8) : Bool := dotF (piecesF p.length p) s && matchR (piecesF p.length p) s
end Go.Proofs.Ytkfoinphkjmlmaa
