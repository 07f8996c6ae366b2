/- LexQuotes, plain: quoted texts are one word each. -/
import Derived.Test.YtifcgeanippepaaDoorM09
import Derived.Lib.Replace
namespace Go.Proofs.YtifcgeanippepaaDoor
open Go Go.RowKit Go.Lw
set_option linter.unusedVariables false
set_option linter.unusedSimpArgs false
/-- A piece, whatever stands behind. -/
def Pc (q : Bool) (d : Nat) (p : List UInt8) : Prop := ∃ k, ∀ n, k ≤ n → ∀ T, scan n (.piece q) d (p ++ T) = .ok T
/-- What stands within double quotes, and its end. -/
def Db (d : Nat) (x : List UInt8) : Prop := ∃ k, ∀ n, k ≤ n → ∀ T, scan n .double d (x ++ 34 :: T) = .ok T
/-- What stands within curly brackets, and its end. -/
def Br (d : Nat) (x : List UInt8) : Prop := ∃ k, ∀ n, k ≤ n → ∀ T, scan n .brace d (x ++ 125 :: T) = .ok T
/-- Pieces, one behind the other, of which none begins with what ends a word, a bracket or a line. -/
def Ps (d : Nat) : List (List UInt8) → Prop
  | [] => True
  | p :: l => Pc false d p ∧ (∃ c x, p = c :: x ∧ (braceB c = false ∨ x = []) ∧ endB c = false ∧ c ≠ 125 ∧ c ≠ 10) ∧ Ps d l
theorem brace_end {c : UInt8} (h : braceB c = false) : endB c = false := by
  unfold braceB at h
  cases e : endB c with
  | false => rfl
  | true => rw [e] at h; simp at h
theorem head_ok {c : UInt8} {x : List UInt8} (h : braceB c = false ∧ c ≠ 125 ∧ c ≠ 10) : ∃ c' y, c :: x = c' :: y ∧ (braceB c' = false ∨ y = []) ∧ endB c' = false ∧ c' ≠ 125 ∧ c' ≠ 10 := ⟨c, x, rfl, .inl h.1, brace_end h.1, h.2.1, h.2.2⟩
theorem head_one {c : UInt8} (h : endB c = false ∧ c ≠ 125 ∧ c ≠ 10) : ∃ c' y, [c] = c' :: y ∧ (braceB c' = false ∨ y = []) ∧ endB c' = false ∧ c' ≠ 125 ∧ c' ≠ 10 := ⟨c, [], rfl, .inr rfl, h⟩
theorem Ps.app {d : Nat} : ∀ {a b : List (List UInt8)}, Ps d a → Ps d b → Ps d (a ++ b)
  | [], b, _, h => h
  | p :: a, b, h, k => ⟨h.1, h.2.1, Ps.app h.2.2 k⟩
theorem Db.nil (d : Nat) : Db d [] := ⟨1, fun n hn T => by
  obtain ⟨n, rfl⟩ : ∃ m, n = m + 1 := ⟨n - 1, by omega⟩
  unfold scan; simp⟩
theorem Db.cons {d : Nat} {p x : List UInt8} (h : Pc true d p) (hp : ∃ c y, p = c :: y ∧ c ≠ 34) (hx : Db d x) : Db d (p ++ x) := by
  obtain ⟨k, h⟩ := h; obtain ⟨m, hx⟩ := hx; obtain ⟨c, y, rfl, hc⟩ := hp
  refine ⟨k + m + 1, fun n hn T => ?_⟩
  obtain ⟨n, rfl⟩ : ∃ m, n = m + 1 := ⟨n - 1, by omega⟩
  have e := h n (by omega) (x ++ 34 :: T)
  rw [List.append_assoc]
  rw [List.cons_append] at e ⊢
  unfold scan
  simp only [if_neg hc, e]
  exact hx n (by omega) T
theorem Br.of {d : Nat} : ∀ {l : List (List UInt8)}, Ps d l → Br d l.flatten
  | [], _ => ⟨1, fun n hn T => by
    obtain ⟨n, rfl⟩ : ∃ m, n = m + 1 := ⟨n - 1, by omega⟩
    unfold scan; simp⟩
  | p :: l, ⟨⟨k, h⟩, ⟨c, y, hp, h1, h0, h2, h3⟩, hl⟩ => by
    obtain ⟨m, hx⟩ := Br.of hl
    subst hp
    refine ⟨k + m + 1, fun n hn T => ?_⟩
    obtain ⟨n, rfl⟩ : ∃ m, n = m + 1 := ⟨n - 1, by omega⟩
    have e := h n (by omega) (l.flatten ++ 125 :: T)
    rw [List.flatten_cons, List.append_assoc]
    rw [List.cons_append] at e ⊢
    cases hb : braceB c with
    | false =>
      unfold scan
      simp only [if_neg h2, if_neg h3, hb, Bool.false_eq_true, if_false, e]
      exact hx n (by omega) T
    | true =>
      rcases h1 with h1 | rfl
      · rw [h1] at hb; cases hb
      · unfold scan
        simp only [if_neg h2, if_neg h3, hb, if_true, List.nil_append]
        exact hx n (by omega) T
theorem Ps.word : ∀ {l : List (List UInt8)}, Ps 0 l → ∃ k, ∀ n, k ≤ n → ∀ c T, endB c = true → wordF n (l.flatten ++ c :: T) = .ok (c :: T)
  | [], _ => ⟨1, fun n hn c T hc => by
    obtain ⟨n, rfl⟩ : ∃ m, n = m + 1 := ⟨n - 1, by omega⟩
    show wordF (n + 1) (c :: T) = _
    exact word_end hc⟩
  | p :: l, ⟨⟨k, h⟩, ⟨c, y, hp, _, h1, h2, h3⟩, hl⟩ => by
    obtain ⟨m, hx⟩ := Ps.word hl
    subst hp
    refine ⟨m + 1, fun n hn e T he => ?_⟩
    obtain ⟨n, rfl⟩ : ∃ m, n = m + 1 := ⟨n - 1, by omega⟩
    have hh := h (need (.piece false) (c :: y ++ (l.flatten ++ e :: T)).length + k) (by omega) (l.flatten ++ e :: T)
    rw [scan_fuel _ _ _ _ _ (Nat.le_refl _)] at hh
    rw [List.flatten_cons, List.append_assoc]
    rw [List.cons_append] at hh ⊢
    rw [word_step h1 hh]
    exact hx n (by omega) e T he
/-! The pieces that occur. -/
theorem until_run {c : UInt8} : ∀ {u : List UInt8} {T : List UInt8}, (∀ x ∈ u, x ≠ c) → untilF c (u ++ c :: T) = .ok T
  | [], T, _ => by show untilF c (c :: T) = _; unfold untilF; simp
  | d :: u, T, h => by
    show untilF c (d :: (u ++ c :: T)) = _
    unfold untilF
    rw [if_neg (h d List.mem_cons_self), until_run (fun x hx => h x (List.mem_cons_of_mem _ hx))]
theorem pc_single {d : Nat} {u : List UInt8} (h : ∀ x ∈ u, x ≠ 39) : Pc false d (39 :: u ++ [39]) := ⟨1, fun n hn T => by
  obtain ⟨n, rfl⟩ : ∃ m, n = m + 1 := ⟨n - 1, by omega⟩
  have e := until_run (T := T) h
  show scan (n + 1) (.piece false) d (39 :: ((u ++ [39]) ++ T)) = _
  rw [List.append_assoc]
  unfold scan
  simpa using e⟩
theorem pc_pair {q : Bool} {d : Nat} {c : UInt8} (h : c ≠ 10) : Pc q d [92, c] := ⟨1, fun n hn T => by
  obtain ⟨n, rfl⟩ : ∃ m, n = m + 1 := ⟨n - 1, by omega⟩
  show scan (n + 1) (.piece q) d (92 :: c :: T) = _
  unfold scan pairF
  simp [h]⟩
theorem pc_one {d : Nat} {c : UInt8} (h : c ≠ 92 ∧ c ≠ 39 ∧ c ≠ 34 ∧ c ≠ 36 ∧ c ≠ 96 ∧ c ≠ 40 ∧ c ≠ 41) : Pc false d [c] := ⟨1, fun n hn T => by
  obtain ⟨n, rfl⟩ : ∃ m, n = m + 1 := ⟨n - 1, by omega⟩
  obtain ⟨h1, h2, h3, h4, h5, h6, h7⟩ := h
  show scan (n + 1) (.piece false) d (c :: T) = _
  unfold scan
  simp [h1, h2, h3, h4, h5, h6, h7]⟩
theorem pc_oneq {d : Nat} {c : UInt8} (h : c ≠ 92 ∧ c ≠ 36 ∧ c ≠ 96) : Pc true d [c] := ⟨1, fun n hn T => by
  obtain ⟨n, rfl⟩ : ∃ m, n = m + 1 := ⟨n - 1, by omega⟩
  obtain ⟨h1, h2, h3⟩ := h
  show scan (n + 1) (.piece true) d (c :: T) = _
  unfold scan
  simp [h1, h2, h3]⟩
theorem pc_double {d : Nat} {x : List UInt8} (hd : d < 16) (h : Db (d + 1) x) : Pc false d (34 :: x ++ [34]) := by
  obtain ⟨k, h⟩ := h
  refine ⟨k + 1, fun n hn T => ?_⟩
  obtain ⟨n, rfl⟩ : ∃ m, n = m + 1 := ⟨n - 1, by omega⟩
  have e := h n (by omega) T
  show scan (n + 1) (.piece false) d (34 :: ((x ++ [34]) ++ T)) = _
  rw [List.append_assoc]
  unfold scan
  simp [show ¬ 16 < d + 1 by omega]
  exact e
theorem pc_brace {q : Bool} {d : Nat} {x : List UInt8} (hd : d < 16) (h : Br (d + 1) x) : Pc q d (36 :: 123 :: x ++ [125]) := by
  obtain ⟨k, h⟩ := h
  refine ⟨k + 1, fun n hn T => ?_⟩
  obtain ⟨n, rfl⟩ : ∃ m, n = m + 1 := ⟨n - 1, by omega⟩
  have e := h n (by omega) T
  show scan (n + 1) (.piece q) d (36 :: 123 :: ((x ++ [125]) ++ T)) = _
  rw [List.append_assoc]
  unfold scan
  simp [show ¬ 16 < d + 1 by omega]
  exact e
/-! The texts. -/
def sqB (l : List UInt8) : List UInt8 := l.flatMap fun c => if c = 39 then [39, 92, 39, 39] else [c]
def oddQ (c : UInt8) : Bool := c == 92 || c == 34 || c == 36 || c == 96
def dqB (l : List UInt8) : List UInt8 := l.flatMap fun c => if oddQ c then [92, c] else [c]
def eaB (l : List UInt8) : List UInt8 := l.flatMap fun c => [92, c]
def sqP : List UInt8 → List UInt8 → List (List UInt8)
  | u, [] => [39 :: u ++ [39]]
  | u, c :: l => if c = 39 then (39 :: u ++ [39]) :: [92, 39] :: sqP [] l else sqP (u ++ [c]) l
theorem sqP_flat : ∀ (u l : List UInt8), (sqP u l).flatten = 39 :: u ++ sqB l ++ [39]
  | u, [] => by simp [sqP, sqB]
  | u, c :: l => by
    unfold sqP
    by_cases h : c = 39
    · subst h
      rw [if_pos rfl, List.flatten_cons, List.flatten_cons, sqP_flat [] l]
      simp [sqB]
    · rw [if_neg h, sqP_flat (u ++ [c]) l]
      simp [sqB, h]
theorem sqP_ok {d : Nat} : ∀ {u l : List UInt8}, (∀ x ∈ u, x ≠ 39) → Ps d (sqP u l)
  | u, [], h => ⟨pc_single h, head_ok (by decide), trivial⟩
  | u, c :: l, h => by
    unfold sqP
    by_cases hc : c = 39
    · rw [if_pos hc]
      exact ⟨pc_single h, head_ok (by decide), pc_pair (by decide), head_ok (by decide), sqP_ok (by simp)⟩
    · rw [if_neg hc]
      exact sqP_ok (fun x hx => by
        rcases List.mem_append.1 hx with h1 | h1
        · exact h x h1
        · rw [List.mem_singleton.1 h1]; exact hc)
theorem dq_ok {d : Nat} : ∀ {l : List UInt8}, (∀ x ∈ l, x ≠ 10) → Db d (dqB l)
  | [], _ => Db.nil d
  | c :: l, h => by
    have ih := dq_ok (d := d) (fun x hx => h x (List.mem_cons_of_mem _ hx))
    show Db d ((if oddQ c then [92, c] else [c]) ++ dqB l)
    cases ho : oddQ c with
    | true => exact Db.cons (pc_pair (h c List.mem_cons_self)) ⟨92, [c], rfl, by decide⟩ ih
    | false =>
      have hn : c ≠ 92 ∧ c ≠ 34 ∧ c ≠ 36 ∧ c ≠ 96 := by
        unfold oddQ at ho
        simp only [Bool.or_eq_false_iff, beq_eq_false_iff_ne] at ho
        exact ⟨ho.1.1.1, ho.1.1.2, ho.1.2, ho.2⟩
      exact Db.cons (pc_oneq ⟨hn.1, hn.2.2.1, hn.2.2.2⟩) ⟨c, [], rfl, hn.2.1⟩ ih
def eaP (l : List UInt8) : List (List UInt8) := l.map fun c => [92, c]
theorem eaP_flat : ∀ l : List UInt8, (eaP l).flatten = eaB l
  | [] => rfl
  | c :: l => by have := eaP_flat l; show [92, c] ++ (eaP l).flatten = [92, c] ++ eaB l; rw [this]
theorem eaP_ok {d : Nat} : ∀ {l : List UInt8}, (∀ x ∈ l, x ≠ 10) → Ps d (eaP l)
  | [], _ => trivial
  | c :: l, h => ⟨pc_pair (h c List.mem_cons_self), head_ok (by decide), eaP_ok (fun x hx => h x (List.mem_cons_of_mem _ hx))⟩
def w1 (l : List UInt8) : List UInt8 := 39 :: sqB l ++ [39]
def w2 (l : List UInt8) : List UInt8 := 34 :: dqB l ++ [34]
def w3 (l : List UInt8) : List UInt8 := 120 :: eaB l
def w4 (l : List UInt8) : List UInt8 := 97 :: 35 :: w1 l
def w5 (l : List UInt8) : List UInt8 := [36, 123, 120, 58, 45] ++ w1 l ++ [125]
def w6 (l : List UInt8) : List UInt8 := [34, 36, 123, 120, 58, 45] ++ w2 l ++ [125, 34]
def wQ (l : List UInt8) : List (List UInt8) := [w1 l, w2 l, w3 l, w4 l, w5 l, w6 l]
theorem wQ_ok {l : List UInt8} (h : ∀ x ∈ l, x ≠ 10) : ∀ x ∈ wQ l, ∃ P, Ps 0 P ∧ P.flatten = x := by
  have h1 : ∀ d, ∃ P, Ps d P ∧ P.flatten = w1 l := fun d => ⟨sqP [] l, sqP_ok (by simp), sqP_flat [] l⟩
  have h2 : ∀ d, d < 16 → Pc false d (w2 l) := fun d hd => pc_double hd (dq_ok h)
  have hd : ∀ {d : Nat} {P : List (List UInt8)}, Ps d P → Ps d ([120] :: [58] :: [45] :: P) := fun hP => ⟨pc_one (by decide), head_ok (by decide), pc_one (by decide), head_ok (by decide), pc_one (by decide), head_ok (by decide), hP⟩
  intro x hx
  simp only [wQ, List.mem_cons, List.not_mem_nil, or_false] at hx
  rcases hx with rfl | rfl | rfl | rfl | rfl | rfl
  · exact h1 0
  · exact ⟨[w2 l], ⟨h2 0 (by decide), head_ok (by decide), trivial⟩, by simp⟩
  · exact ⟨[120] :: eaP l, ⟨pc_one (by decide), head_ok (by decide), eaP_ok h⟩, by rw [List.flatten_cons, eaP_flat]; rfl⟩
  · obtain ⟨P, hP, e⟩ := h1 0
    exact ⟨[97] :: [35] :: P, ⟨pc_one (by decide), head_ok (by decide), pc_one (by decide), head_one (by decide), hP⟩, by rw [List.flatten_cons, List.flatten_cons, e]; rfl⟩
  · obtain ⟨P, hP, e⟩ := h1 1
    have hb := Br.of (hd hP)
    exact ⟨[36 :: 123 :: ([120] :: [58] :: [45] :: P).flatten ++ [125]], ⟨pc_brace (by decide) hb, head_ok (by decide), trivial⟩, by simp [e, w5]⟩
  · have hP : Ps 2 [w2 l] := ⟨h2 2 (by decide), head_ok (by decide), trivial⟩
    have hb := Br.of (hd hP)
    have hc := pc_double (d := 0) (by decide) (Db.cons (pc_brace (q := true) (by decide) hb) ⟨36, _, rfl, by decide⟩ (Db.nil 1))
    exact ⟨[_], ⟨hc, head_ok (by decide), trivial⟩, by simp [w6]⟩
/-- A word of such pieces, a blank ahead of it and ';' behind it. -/
theorem quotes_lex {x : List UInt8} (hx : ∃ P, Ps 0 P ∧ P.flatten = x) (hh : ∃ c y, x = c :: y ∧ (c = 39 ∨ c = 34 ∨ c = 120 ∨ c = 97 ∨ c = 36)) (hl : x.length ≤ 2000) (hk : x.all okB = true) :
    lexT (32 :: x ++ [59]) = .ok [⟨1, x, 1⟩, ⟨3, [59], x.length + 1⟩] := by
  obtain ⟨P, hP, hx⟩ := hx
  obtain ⟨k, hw⟩ := hP.word
  rw [hx] at hw
  obtain ⟨c, y, rfl, hc⟩ := hh
  have hc1 : ¬ (c = 32 ∨ c = 9) := by rcases hc with rfl | rfl | rfl | rfl | rfl <;> decide
  have hc2 : ¬ c = 35 := by rcases hc with rfl | rfl | rfl | rfl | rfl <;> decide
  have hop : operF (c :: (y ++ [59])) = none := by
    rcases hc with rfl | rfl | rfl | rfl | rfl <;> simp [operF, opsL, List.find?]
  have hN : (32 :: (c :: y) ++ [59]).length = y.length + 3 := by simp
  have hww : wordF ((y ++ [59]).length + 2) (c :: (y ++ [59])) = .ok [59] := by
    have := hw ((y ++ [59]).length + 2 + k) (by omega) 59 [] (by decide)
    rw [wordF_fuel _ _ _ (by simp)] at this
    exact this
  unfold lexT
  rw [hN, if_neg (by simp at hl; omega), if_neg (by
    rw [List.all_append, List.all_cons, hk]
    decide)]
  show lexF (y.length + 3 + 1) (y.length + 3) (32 :: c :: (y ++ [59])) = _
  rw [lex_blank (.inl rfl), lex_word hc1 hc2 hop hww]
  have hs : lexF (y.length + 2) (y.length + 3) [59] = .ok [⟨3, [59], y.length + 2⟩] := by
    rw [lex_some (k := 3) (t := [59]) (by decide) (by decide) (by decide)]
    rw [if_neg (by decide)]
    show Except.map _ (lexF (y.length + 1) _ []) = _
    unfold lexF
    simp [Except.map]
  rw [hs]
  simp [Except.map]
end Go.Proofs.YtifcgeanippepaaDoor
