/- LexQuotes, plain: what the law's own text makes is those words; how long they are and of what bytes. -/
import Derived.Test.YtifcgeanippepaaDoorQuotesP
import Derived.Lib.ReplaceLaws
import Derived.Lib.IndexBytes
namespace Go.Proofs.YtifcgeanippepaaDoor
open Go Go.RowKit Go.Lw
set_option linter.unusedVariables false
set_option linter.unusedSimpArgs false
theorem rk_other {c : UInt8} (h : c ≠ 39) (l : List UInt8) (k : Nat) : Lib.replaceK [39] [39, 92, 39, 39] k (c :: l) = c :: Lib.replaceK [39] [39, 92, 39, 39] k l := by
  cases k with
  | zero => rfl
  | succ k =>
    have hi : Lib.index (c :: l) [39] = if Lib.index l [39] == -1 then -1 else Lib.index l [39] + 1 := by
      rw [Lib.index, if_neg (by simp; exact fun e => h e.symm)]
    have hge := Lib.index_ge l [39]
    by_cases hm : Lib.index l [39] = -1
    · unfold Lib.replaceK
      rw [hi, hm]; rfl
    · have hn : (Lib.index l [39] == -1) = false := by simpa using hm
      obtain ⟨i, hii⟩ : ∃ i : Nat, Lib.index l [39] = i := ⟨(Lib.index l [39]).toNat, by omega⟩
      rw [hn] at hi
      have h1 : Lib.index (c :: l) [39] = ((i + 1 : Nat) : Int) := by rw [hi, hii]; simp
      rw [Lib.replaceK_hit _ _ _ _ _ h1, Lib.replaceK_hit _ _ _ _ _ hii]
      simp
theorem rk_sq : ∀ l : List UInt8, Lib.replaceK [39] [39, 92, 39, 39] (Lib.count l [39]) l = sqB l
  | [] => rfl
  | c :: l => by
    by_cases h : c = 39
    · subst h
      rw [Lib.count_cons_eq, Nat.add_comm, Lib.replaceK_hit _ _ _ _ 0 (by rw [Lib.index]; rfl)]
      have ih := rk_sq l
      simp only [List.take_zero, List.nil_append, List.length_singleton, Nat.zero_add, List.drop_succ_cons, List.drop_zero, ih]
      rfl
    · rw [Lib.count_cons_ne _ _ _ h, rk_other h, rk_sq l]
      simp [sqB, h]
theorem all_sq (l : List UInt8) : Lib.replaceAll l [39] [39, 92, 39, 39] = sqB l := by
  unfold Lib.replaceAll Lib.replace Lib.replaceNum
  rw [if_neg (by decide), if_pos (.inl (by decide)), rk_sq]
theorem odd_index (c : UInt8) : (0 ≤ Lib.indexByte [92, 34, 36, 96] c) ↔ oddQ c = true := by
  unfold oddQ
  simp only [Lib.indexByte]
  by_cases h1 : c = 92
  · subst h1; decide
  by_cases h2 : c = 34
  · subst h2; decide
  by_cases h3 : c = 36
  · subst h3; decide
  by_cases h4 : c = 96
  · subst h4; decide
  have e1 : ((92 : UInt8) == c) = false := by simpa using fun e => h1 e.symm
  have e2 : ((34 : UInt8) == c) = false := by simpa using fun e => h2 e.symm
  have e3 : ((36 : UInt8) == c) = false := by simpa using fun e => h3 e.symm
  have e4 : ((96 : UInt8) == c) = false := by simpa using fun e => h4 e.symm
  simp [e1, e2, e3, e4, h1, h2, h3, h4]
/-- What may stand in the text, when what may not is blank. -/
def fixC (c : UInt8) : UInt8 := if c.toNat < 32 ∨ c.toNat = 127 then 32 else c
theorem fixC_ok (c : UInt8) : 32 ≤ (fixC c).toNat ∧ (fixC c).toNat ≠ 127 := by
  unfold fixC
  split
  · decide
  · omega
def fixL (k : Nat) (s : List UInt8) : List UInt8 := (s.take k).map fixC ++ s.drop k
theorem fixL_len (k : Nat) (s : List UInt8) : (fixL k s).length = s.length := by
  unfold fixL; rw [List.length_append, List.length_map, List.length_take, List.length_drop]; omega
theorem fixL_zero (s : List UInt8) : fixL 0 s = s := by simp [fixL]
theorem fixL_end (s : List UInt8) : fixL s.length s = s.map fixC := by simp [fixL]
theorem fixL_get {k : Nat} {s : List UInt8} {c : UInt8} (h : s[k]? = some c) : (fixL k s)[k]? = some c := by
  have hk := (List.getElem?_eq_some_iff.1 h).1
  unfold fixL
  rw [List.getElem?_append_right (by rw [List.length_map, List.length_take]; omega), List.length_map, List.length_take, Nat.min_eq_left (by omega), Nat.sub_self, List.getElem?_drop, Nat.add_zero, h]
theorem fixL_next {k : Nat} {s : List UInt8} {c : UInt8} (h : s[k]? = some c) : fixL (k + 1) s = (fixL k s).set k (fixC c) := by
  have hk := (List.getElem?_eq_some_iff.1 h).1
  have hd : s.drop k = c :: s.drop (k + 1) := by
    rw [List.drop_eq_getElem_cons hk]
    rw [List.getElem?_eq_getElem hk] at h
    rw [Option.some.inj h]
  unfold fixL
  rw [hd, List.set_append_right _ _ (by rw [List.length_map, List.length_take]; omega), List.length_map, List.length_take, Nat.min_eq_left (by omega), Nat.sub_self, List.set_cons_zero, List.take_add_one, h, List.map_append]
  simp
theorem fixL_same {k : Nat} {s : List UInt8} {c : UInt8} (h : s[k]? = some c) (hc : fixC c = c) : fixL (k + 1) s = fixL k s := by
  rw [fixL_next h, hc]
  apply List.ext_getElem?
  intro i
  rw [List.getElem?_set]
  split
  · rename_i e
    subst e
    have := fixL_get h
    split
    · exact this.symm
    · rename_i hl
      rw [List.getElem?_eq_none (by omega)] at this
      cases this
  · rfl
/-- Bytes of a word. -/
def FixOk (p : List UInt8) : Prop := ∀ x ∈ p, 32 ≤ x.toNat ∧ x.toNat ≠ 127
theorem fix_ok (s : List UInt8) : FixOk (s.map fixC) := by
  intro x hx
  obtain ⟨c, _, rfl⟩ := List.mem_map.1 hx
  exact fixC_ok c
theorem FixOk.ne {p : List UInt8} (h : FixOk p) : ∀ x ∈ p, x ≠ 10 := fun x hx e => by
  have := (h x hx).1; subst e; exact absurd this (by decide)
theorem FixOk.okB {p : List UInt8} (h : FixOk p) : ∀ x ∈ p, okB x = true := fun x hx => by
  have := h x hx
  unfold Go.Proofs.YtifcgeanippepaaDoor.okB
  simp; omega
theorem flat_len {f : UInt8 → List UInt8} {m : Nat} (hf : ∀ c, (f c).length ≤ m) : ∀ l : List UInt8, (l.flatMap f).length ≤ m * l.length
  | [] => by simp
  | c :: l => by
    have := flat_len hf l; have := hf c
    rw [List.flatMap_cons, List.length_append, List.length_cons, Nat.mul_add, Nat.mul_one]; omega
theorem flat_ok {f : UInt8 → List UInt8} (hf : ∀ c, okB c = true → (f c).all okB = true) : ∀ l : List UInt8, (∀ x ∈ l, okB x = true) → (l.flatMap f).all okB = true
  | [], _ => rfl
  | c :: l, h => by
    rw [List.flatMap_cons, List.all_append, hf c (h c List.mem_cons_self), flat_ok hf l (fun x hx => h x (List.mem_cons_of_mem _ hx))]; rfl
theorem wQ_len {p : List UInt8} (hp : p.length ≤ 200) : ∀ x ∈ wQ p, x.length ≤ 820 := by
  have h1 : (sqB p).length ≤ 4 * p.length := flat_len (fun c => by split <;> simp) p
  have h2 : (dqB p).length ≤ 2 * p.length := flat_len (fun c => by split <;> simp) p
  have h3 : (eaB p).length ≤ 2 * p.length := flat_len (fun c => by simp) p
  intro x hx
  simp only [wQ, List.mem_cons, List.not_mem_nil, or_false] at hx
  rcases hx with rfl | rfl | rfl | rfl | rfl | rfl <;> simp [w1, w2, w3, w4, w5, w6] <;> omega
theorem wQ_okB {p : List UInt8} (hp : FixOk p) : ∀ x ∈ wQ p, x.all okB = true := by
  have h0 := hp.okB
  have h1 : (sqB p).all okB = true := flat_ok (fun c hc => by
    split
    · decide
    · simp [hc]) p h0
  have h2 : (dqB p).all okB = true := flat_ok (fun c hc => by
    split
    · simp only [List.all_cons, hc, List.all_nil]; decide
    · simp [hc]) p h0
  have h3 : (eaB p).all okB = true := flat_ok (fun c hc => by simp only [List.all_cons, hc, List.all_nil]; decide) p h0
  intro x hx
  simp only [wQ, List.mem_cons, List.not_mem_nil, or_false] at hx
  rcases hx with rfl | rfl | rfl | rfl | rfl | rfl <;> simp only [w1, w2, w3, w4, w5, w6, List.cons_append, List.nil_append, List.all_cons, List.all_append, h1, h2, h3, List.all_nil] <;> decide
theorem wQ_head (p : List UInt8) : ∀ x ∈ wQ p, ∃ c y, x = c :: y ∧ (c = 39 ∨ c = 34 ∨ c = 120 ∨ c = 97 ∨ c = 36) := by
  intro x hx
  simp only [wQ, List.mem_cons, List.not_mem_nil, or_false] at hx
  rcases hx with rfl | rfl | rfl | rfl | rfl | rfl
  · exact ⟨39, _, rfl, by simp⟩
  · exact ⟨34, _, rfl, by simp⟩
  · exact ⟨120, _, rfl, by simp⟩
  · exact ⟨97, _, rfl, by simp⟩
  · exact ⟨36, _, rfl, by simp⟩
  · exact ⟨34, _, rfl, by simp⟩
theorem wQ_lex {p : List UInt8} (hp : FixOk p) (hl : p.length ≤ 200) (x : List UInt8) (hx : x ∈ wQ p) : lexT (32 :: x ++ [59]) = .ok [⟨1, x, 1⟩, ⟨3, [59], x.length + 1⟩] :=
  quotes_lex (wQ_ok hp.ne x hx) (wQ_head p x hx) (by have := wQ_len hl x hx; omega) (wQ_okB hp x hx)
theorem dq_next {k : Nat} {p : List UInt8} {c : UInt8} (h : p[k]? = some c) : dqB (p.take (k + 1)) = dqB (p.take k) ++ (if oddQ c then [92, c] else [c]) := by
  unfold dqB; rw [List.take_add_one, h, List.flatMap_append]; simp
theorem ea_next {k : Nat} {p : List UInt8} {c : UInt8} (h : p[k]? = some c) : eaB (p.take (k + 1)) = eaB (p.take k) ++ [92, c] := by
  unfold eaB; rw [List.take_add_one, h, List.flatMap_append]; simp
theorem dq_len (p : List UInt8) : (dqB p).length ≤ 2 * p.length := flat_len (fun c => by split <;> simp) p
theorem ea_len (p : List UInt8) : (eaB p).length ≤ 2 * p.length := flat_len (fun c => by simp) p
theorem sq_len (p : List UInt8) : (sqB p).length ≤ 4 * p.length := flat_len (fun c => by split <;> simp) p
end Go.Proofs.YtifcgeanippepaaDoor
