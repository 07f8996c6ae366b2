/- ArithSame, plain: what is read hangs on the tokens alone; one deeper, and ahead of a closing bracket, the same is read, or it is too deep. -/
import Derived.Test.YtoedopgjonhemaaGreatDoorWorksS
namespace Go.Proofs.YtoedopgjonhemaaGreatDoor
open Go Go.RowKit Go.Lw
set_option linter.unusedVariables false
set_option linter.unusedSimpArgs false
/-- What may stand behind. -/
def TlOk (tl : List Tok) : Prop := tl = [] ∨ ∃ q, tl = (3, [41]) :: q
/-- The same, j deeper, with tl behind; or too deep. -/
def Sim (j : Nat) (tl : List Tok) (R R' : Rx) : Prop :=
  (∀ y, R = .ok y → (∃ r', R' = .ok (y.1, r') ∧ tokF r' = tokF y.2 ++ tl) ∨ (j ≠ 0 ∧ R' = .error 12)) ∧ (∀ e, R = .error e → tl = [] → j = 0 → R' = .error e)
theorem sim_dp {j d : Nat} {tl : List Tok} {R R' : Rx} (h : Sim j tl R R') : Sim j tl (dpR d R) (dpR (d + j) R') := by
  unfold dpR
  by_cases h1 : 16 < d + 1
  · rw [if_pos h1, if_pos (by omega)]
    exact ⟨fun y e => (by cases e), fun e he _ _ => by cases he; rfl⟩
  · rw [if_neg h1]
    by_cases h2 : 16 < d + j + 1
    · rw [if_pos h2]
      have hj1 : j ≠ 0 := by omega
      exact ⟨fun y _ => .inr ⟨hj1, rfl⟩, fun e _ _ h0 => by omega⟩
    · rw [if_neg h2]; exact h
theorem sim_bnd {j : Nat} {tl : List Tok} {R R' : Rx} {f f' : Ex × List UInt8 → Rx} (h : Sim j tl R R') (hf : ∀ (x : Ex) (r r' : List UInt8), R = .ok (x, r) → tokF r' = tokF r ++ tl → Sim j tl (f (x, r)) (f' (x, r'))) : Sim j tl (bnd R f) (bnd R' f') := by
  cases R with
  | error e => exact ⟨fun y he => (by cases he), fun e' he ht hj => by cases he; rw [h.2 e rfl ht hj]; rfl⟩
  | ok y =>
    rcases h.1 y rfl with ⟨r', e1, e2⟩ | ⟨e1, e2⟩
    · rw [e1]
      exact hf y.1 y.2 r' rfl e2
    · rw [e2]
      exact ⟨fun z _ => .inr ⟨e1, rfl⟩, fun e _ _ h0 => by omega⟩
theorem sim_ok {j : Nat} {tl : List Tok} {x : Ex} {r r' : List UInt8} (h : tokF r' = tokF r ++ tl) : Sim j tl (.ok (x, r)) (.ok (x, r')) :=
  ⟨fun y e => (by cases e; exact .inl ⟨r', rfl, h⟩), fun e he => (by cases he)⟩
theorem sim_err {j : Nat} {tl : List Tok} {e : Nat} {R' : Rx} (h : tl = [] → j = 0 → R' = .error e) : Sim j tl (.error e) R' :=
  ⟨fun y e => (by cases e), fun e' he ht hj => (by cases he; exact h ht hj)⟩
/-- The sign at the front, by the tokens. -/
theorem sign_tl {tl : List Tok} (ht : TlOk tl) {r r' : List UInt8} (h : tokF r' = tokF r ++ tl) {g : List UInt8} (hg : g ∈ signsL) (hg2 : g ≠ [41]) : signF (trimA r') = g ↔ signF (trimA r) = g := by
  rw [← tok_is hg, ← tok_is hg, h]
  cases htk : tokF r with
  | cons t l => simp
  | nil =>
    rw [List.nil_append]
    rcases ht with rfl | ⟨q, rfl⟩
    · simp
    · constructor
      · rintro ⟨l, e⟩; cases e; exact absurd rfl hg2
      · rintro ⟨l, e⟩; cases e
theorem sign_rest {tl : List Tok} {r r' : List UInt8} (h : tokF r' = tokF r ++ tl) {g : List UInt8} (hg : g ∈ signsL) (e1 : signF (trimA r) = g) (e2 : signF (trimA r') = g) : tokF ((trimA r').drop g.length) = tokF ((trimA r).drop g.length) ++ tl := by
  have hg0 : g ≠ [] := by rintro rfl; exact absurd hg (by decide)
  have h1 := tok_sign (s := r) (by rw [e1]; exact hg0)
  have h2 := tok_sign (s := r') (by rw [e2]; exact hg0)
  rw [e1] at h1; rw [e2] at h2
  rw [h1, h2] at h
  simpa using h
theorem sim_par {j : Nat} {tl : List Tok} {R R' : Rx} (h : Sim j tl R R') : Sim j tl (parR R) (parR R') := by
  refine sim_bnd h fun x r r' _ e => ?_
  have hg : ([41] : List UInt8) ∈ signsL := by decide
  by_cases h1 : signF (trimA r) = [41]
  · have h2 : signF (trimA r') = [41] := by
      obtain ⟨l, hl⟩ := (tok_is hg).2 h1
      exact (tok_is hg).1 ⟨l ++ tl, by rw [e, hl]; rfl⟩
    simp only
    rw [if_pos h1, if_pos h2]
    exact sim_ok (sign_rest e hg h1 h2)
  · simp only
    rw [if_neg h1]
    refine sim_err fun ht _ => ?_
    subst ht
    rw [List.append_nil] at e
    have h2 : ¬ signF (trimA r') = [41] := fun h2 => h1 ((tok_is hg).1 (by rw [← e]; exact (tok_is hg).2 h2))
    rw [if_neg h2]
theorem sim_num {j : Nat} {tl : List Tok} (t : List UInt8) {r r' : List UInt8} (h : tokF r' = tokF r ++ tl) : Sim j tl (numK t r) (numK t r') := by
  unfold numK
  cases numR t 0 with
  | none => exact sim_err fun _ _ => rfl
  | some n =>
    simp only
    by_cases e : n = 9223372036854775808
    · rw [if_pos e, if_pos e]; exact sim_err fun _ _ => rfl
    · rw [if_neg e, if_neg e]; exact sim_ok h
/-- The rank at the front, by the tokens. -/
def rkT : List Tok → Nat
  | [] => 0
  | t :: _ => if t.1 = 3 then rankF t.2 else 0
theorem rk_tok (s : List UInt8) : rk s = rkT (tokF s) := by
  by_cases h0 : trimA s = []
  · rw [tok_end h0]
    unfold rk
    rw [h0, show signF [] = [] by decide +kernel]; exact rank_nil
  by_cases h3 : signF (trimA s) = []
  · have hz : rk s = 0 := by unfold rk; rw [h3]; exact rank_nil
    rw [hz]
    by_cases h1 : (trimA s).head?.any digitB = true
    · rw [tok_num h1]; rfl
    · have h1' : (trimA s).head?.any digitB = false := by simpa using h1
      by_cases h2 : nameA (trimA s) = []
      · rw [tok_odd h0 h1' h2 h3]; show 0 = if (3 : Nat) = 3 then rankF [35] else 0; rw [if_pos rfl, rank_odd]
      · rw [tok_name h1' h2]; rfl
  · rw [tok_sign h3]; unfold rkT; simp only; rw [if_pos trivial]
theorem rk_tl {tl : List Tok} (ht : TlOk tl) {r r' : List UInt8} (h : tokF r' = tokF r ++ tl) : rk r' = rk r := by
  rw [rk_tok, rk_tok, h]
  cases tokF r with
  | cons t l => rfl
  | nil =>
    rcases ht with rfl | ⟨q, rfl⟩
    · rfl
    · show (if (3 : Nat) = 3 then rankF [41] else 0) = 0
      decide
/-- What one promises, at texts no longer than n. -/
def SOne (j : Nat) (tl : List Tok) (n : Nat) : Prop := ∀ (d : Nat) (s s' : List UInt8), s.length ≤ n → tokF s' = tokF s ++ tl → Sim j tl (rdA .one d s) (rdA .one (d + j) s')
def SRow (j : Nat) (tl : List Tok) (n : Nat) : Prop := ∀ (k d : Nat) (s s' : List UInt8), k ≤ 10 → s.length ≤ n → tokF s' = tokF s ++ tl → Sim j tl (rdA (.row k) d s) (rdA (.row k) (d + j) s')
def SAll (j : Nat) (tl : List Tok) (n : Nat) : Prop := ∀ (d : Nat) (s s' : List UInt8), s.length ≤ n → tokF s' = tokF s ++ tl → Sim j tl (rdA .all d s) (rdA .all (d + j) s')
theorem same_one {j : Nat} {tl : List Tok} (ht : TlOk tl) {n : Nat} (h1 : ∀ m, m < n → SOne j tl m) (h2 : ∀ m, m < n → SAll j tl m) : SOne j tl n := by
  intro d s s' hs he
  by_cases h0 : trimA s = []
  · rw [one_endW d h0]
    refine sim_err fun htl _ => ?_
    rw [tok_end h0, htl] at he
    exact one_endW _ (trim_ne_tok he)
  · obtain ⟨k, t, r, hk, hrl, _, hc⟩ := one_cases d h0
    have h0' : trimA s' ≠ [] := fun e => by rw [tok_end e, hk] at he; cases he
    obtain ⟨k', t', r', hk', _, _, hc'⟩ := one_cases (d + j) h0'
    rw [hk, hk'] at he
    simp only [List.cons_append, List.cons.injEq, Prod.mk.injEq] at he
    obtain ⟨⟨rfl, rfl⟩, her⟩ := he
    rcases hc with ⟨a1, a2, a3⟩ | ⟨a1, a2, a3⟩ | ⟨a1, a2, a3⟩ | ⟨a1, a3⟩ | ⟨a1, a2, a4, a3⟩ <;> rcases hc' with ⟨b1, b2, b3⟩ | ⟨b1, b2, b3⟩ | ⟨b1, b2, b3⟩ | ⟨b1, b3⟩ | ⟨b1, b2, b4, b3⟩ <;> rw [a3, b3]
    all_goals first
      | (exfalso; omega)
      | exact absurd b2 a2
      | exact absurd a2 b2
      | exact absurd a2 b4
      | exact absurd b2 a4
      | (exfalso; rw [a2] at b2; exact absurd b2 (by decide))
      | (exfalso; rw [b2] at a2; exact absurd a2 (by decide))
      | skip
    · refine sim_dp (sim_bnd ?_ fun x q q' _ e => sim_ok e)
      have := h1 (n - 1) (by omega) (d + 1) r r' (by omega) her
      rw [show d + 1 + j = d + j + 1 by omega] at this
      exact this
    · refine sim_dp (sim_par ?_)
      have := h2 (n - 1) (by omega) (d + 1) r r' (by omega) her
      rw [show d + 1 + j = d + j + 1 by omega] at this
      exact this
    · exact sim_num _ her
    · exact sim_ok her
    · exact sim_err fun _ _ => rfl
theorem same_loop {j : Nat} {tl : List Tok} (ht : TlOk tl) {n : Nat} (hr : ∀ m, m < n → SRow j tl m) (k d : Nat) (hk : k ≤ 10) : ∀ (m : Nat) (x : Ex) (s s' : List UInt8), s.length ≤ m → m ≤ n → tokF s' = tokF s ++ tl → Sim j tl (lpD (10 - k) k x d s) (lpD (10 - k) k x (d + j) s') := by
  intro m
  induction m with
  | zero =>
    intro x s s' hs hm he
    have hz : s = [] := List.eq_nil_of_length_eq_zero (by omega)
    have hrk : rk s = 0 := by rw [hz, rk_tok]; rfl
    obtain ⟨r, e1, e2⟩ := climb_end (x := x) (d := d) hk (by rw [hrk]; exact Nat.zero_le _)
    obtain ⟨r', e3, e4⟩ := climb_end (s := s') (x := x) (d := d + j) hk (by rw [rk_tl ht he, hrk]; exact Nat.zero_le _)
    rw [e1, e3]
    exact sim_ok (by rw [e2, e4, he])
  | succ m ih =>
    intro x s s' hs hm he
    by_cases hrk : rk s ≤ k
    · obtain ⟨r, e1, e2⟩ := climb_end (x := x) (d := d) hk hrk
      obtain ⟨r', e3, e4⟩ := climb_end (s := s') (x := x) (d := d + j) hk (by rw [rk_tl ht he]; exact hrk)
      rw [e1, e3]
      exact sim_ok (by rw [e2, e4, he])
    · have hne : signF (trimA s) ≠ [] := fun e => by
        have : rk s = 0 := by unfold rk; rw [e]; exact rank_nil
        omega
      have hne' : signF (trimA s') ≠ [] := fun e => by
        have : rk s' = 0 := by unfold rk; rw [e]; exact rank_nil
        rw [rk_tl ht he] at this
        omega
      have hs1 := tok_sign hne
      have hs2 := tok_sign hne'
      have hlen := drop_less rfl hne
      have he2 := he
      rw [hs1, hs2] at he2
      simp only [List.cons_append, List.cons.injEq, Prod.mk.injEq, true_and] at he2
      obtain ⟨hg, hrest⟩ := he2
      rw [climb2 (x := x) (d := d) (by omega), climb2 (s := s') (x := x) (d := d + j) (by rw [rk_tl ht he]; omega), rk_tl ht he]
      rw [hg] at hrest ⊢
      refine sim_bnd (hr (n - 1) (by omega) (rk s) d _ _ (rank_le _) (by omega) hrest) fun z r r' hz e => ?_
      have hl2 := rdA_len hz
      simp only at hl2
      exact ih _ r r' (by omega) (by omega) e
theorem same_row {j : Nat} {tl : List Tok} (ht : TlOk tl) {n : Nat} (h1 : SOne j tl n) (hr : ∀ m, m < n → SRow j tl m) : SRow j tl n := by
  intro k d s s' hk hs he
  rw [row_lp hk, row_lp hk]
  refine sim_bnd (h1 d s s' hs he) fun x r r' hz e => ?_
  have hl := rdA_len hz
  simp only at hl
  exact same_loop ht hr k d hk r.length x r r' (Nat.le_refl _) (by omega) e
theorem same_all {j : Nat} {tl : List Tok} (ht : TlOk tl) {n : Nat} (h1 : SRow j tl n) (ha : ∀ m, m < n → SAll j tl m) : SAll j tl n := by
  intro d s s' hs he
  rw [rdA_allR, rdA_allR]
  refine sim_bnd (h1 0 d s s' (by decide) hs he) fun x r r' hz e => ?_
  have hl := rdA_len hz
  simp only at hl ⊢
  have hq : ([63] : List UInt8) ∈ signsL := by decide
  have hc : ([58] : List UInt8) ∈ signsL := by decide
  by_cases h63 : signF (trimA r) = [63]
  · have h63' := (sign_tl ht e hq (by decide)).2 h63
    rw [if_pos h63, if_pos h63']
    have hrest := sign_rest e hq h63 h63'
    have hless := drop_less h63 (by decide)
    simp only [List.length_cons, List.length_nil, Nat.zero_add] at hrest hless
    refine sim_dp ?_
    unfold ynR
    have hA := ha (n - 1) (by omega) (d + 1) _ _ (by omega) hrest
    rw [show d + 1 + j = d + j + 1 by omega] at hA
    refine sim_bnd hA fun y q q' hy e2 => ?_
    have hl2 := rdA_len hy
    simp only at hl2 ⊢
    by_cases h58 : signF (trimA q) = [58]
    · have h58' := (sign_tl ht e2 hc (by decide)).2 h58
      rw [if_pos h58, if_pos h58']
      have hrest2 := sign_rest e2 hc h58 h58'
      have hless2 := drop_less h58 (by decide)
      simp only [List.length_cons, List.length_nil, Nat.zero_add] at hrest2 hless2
      unfold colR
      have hB := ha (n - 1) (by omega) (d + 1) _ _ (by omega) hrest2
      rw [show d + 1 + j = d + j + 1 by omega] at hB
      exact sim_bnd hB fun z p p' _ e3 => sim_ok e3
    · rw [if_neg h58, if_neg (fun h => h58 ((sign_tl ht e2 hc (by decide)).1 h))]
      exact sim_err fun _ _ => rfl
  · rw [if_neg h63, if_neg (fun h => h63 ((sign_tl ht e hq (by decide)).1 h))]
    exact sim_ok (by rw [tokF_trim, tokF_trim, e])
/-- THE LAW: what is read hangs on the tokens. -/
theorem same_read {j : Nat} {tl : List Tok} (ht : TlOk tl) : ∀ n, SOne j tl n ∧ SRow j tl n ∧ SAll j tl n := by
  intro n
  induction n using Nat.strongRecOn with
  | ind n ih =>
    have h1 := same_one ht (n := n) (fun m hm => (ih m hm).1) (fun m hm => (ih m hm).2.2)
    have h2 := same_row ht h1 (fun m hm => (ih m hm).2.1)
    exact ⟨h1, h2, same_all ht h2 (fun m hm => (ih m hm).2.2)⟩
end Go.Proofs.YtoedopgjonhemaaGreatDoor
