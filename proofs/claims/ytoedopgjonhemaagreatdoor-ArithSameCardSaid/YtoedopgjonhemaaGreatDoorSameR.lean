/- ArithSame, plain: brackets about a whole text; what is not asked is not worked out. -/
import Derived.Test.YtoedopgjonhemaaGreatDoorSameQ
namespace Go.Proofs.YtoedopgjonhemaaGreatDoor
open Go Go.RowKit Go.Lw
set_option linter.unusedVariables false
set_option linter.unusedSimpArgs false
/-- A text's error. -/
def errT' (s : List UInt8) : Nat := match readT s with
  | .error e => e
  | .ok _ => 0
theorem dpR_ok' {d : Nat} {R : Rx} (hd : d + 1 ≤ 16) : dpR d R = R := if_neg (by omega)
/-- A text in brackets, by its tokens. -/
def brT (s : List UInt8) (q : List Tok) : List Tok := (3, [40]) :: (tokF s ++ (3, [41]) :: q)
theorem tok_br (s q : List UInt8) : tokF (40 :: (s ++ 41 :: q)) = brT s (tokF q) := by
  rw [tok_one (.inl rfl), tok_app (by decide) q _ s (Nat.le_refl _), tok_one (.inr (.inl rfl))]
  rfl
theorem brk {s : List UInt8} {x : Ex} (hs : readT s = .ok x) (d : Nat) {t : List UInt8} {q : List Tok} (h : tokF t = brT s q) : rdA .one d t = .error 12 ∨ ∃ r, rdA .one d t = .ok (x, r) ∧ tokF r = q := by
  have h0 : trimA t ≠ [] := fun e => by rw [tok_end e] at h; cases h
  obtain ⟨k, u, r, hk, _, _, hc⟩ := one_cases d h0
  rw [h] at hk
  unfold brT at hk
  simp only [List.cons.injEq, Prod.mk.injEq] at hk
  obtain ⟨⟨rfl, rfl⟩, hr⟩ := hk
  have hrd : ∃ r0, rdA .all 0 s = .ok (x, r0) ∧ tokF r0 = [] := by
    unfold readT at hs
    cases hR : rdA .all 0 s with
    | error e => rw [hR] at hs; cases hs
    | ok y =>
      rw [hR] at hs
      simp only at hs
      split at hs
      · rename_i he; cases hs; exact ⟨y.2, rfl, tok_end he⟩
      · cases hs
  obtain ⟨r0, e0, e1⟩ := hrd
  have hS := ((same_read (j := d + 1) (tl := (3, [41]) :: q) (.inr ⟨q, rfl⟩) s.length).2.2 0 s r (Nat.le_refl _) hr.symm).1 _ e0
  rw [Nat.zero_add] at hS
  rcases hc with ⟨_, a2, _⟩ | ⟨_, _, a3⟩ | ⟨a1, _, _⟩ | ⟨a1, _⟩ | ⟨_, _, a4, _⟩
  · exact absurd a2 (by decide)
  · rw [a3]
    unfold dpR
    by_cases hd : 16 < d + 1
    · exact .inl (if_pos hd)
    · rw [if_neg hd]
      rcases hS with ⟨r', e2, e3⟩ | ⟨_, e2⟩
      · right
        rw [e2]
        simp only at e3
        rw [e1, List.nil_append] at e3
        have h41 : signF (trimA r') = [41] := (tok_is (by decide)).1 ⟨q, e3⟩
        have hts := tok_sign (s := r') (by rw [h41]; simp)
        rw [h41, e3] at hts
        simp only [List.cons.injEq, true_and] at hts
        exact ⟨(trimA r').drop 1, if_pos h41, hts.symm⟩
      · left; rw [e2]; rfl
  · exact absurd a1 (by decide)
  · exact absurd a1 (by decide)
  · exact absurd rfl a4
/-- A number at the front. -/
theorem sOne_num {t u : List UInt8} {B : List Tok} {n : Nat} (d : Nat) (h : tokF t = (1, u) :: B) (hn : numR u 0 = some n) (h9 : n ≠ 9223372036854775808) : ∃ r, rdA .one d t = .ok (.num (n : Int), r) ∧ tokF r = B := by
  have h0 : trimA t ≠ [] := fun e => by rw [tok_end e] at h; cases h
  obtain ⟨k, w, r, hk, _, _, hc⟩ := one_cases d h0
  rw [h] at hk
  simp only [List.cons.injEq, Prod.mk.injEq] at hk
  obtain ⟨⟨rfl, rfl⟩, hr⟩ := hk
  rcases hc with ⟨a1, _, _⟩ | ⟨a1, _, _⟩ | ⟨_, _, a3⟩ | ⟨a1, _⟩ | ⟨a1, _, _, _⟩
  · exact absurd a1 (by decide)
  · exact absurd a1 (by decide)
  · refine ⟨r, ?_, hr.symm⟩
    rw [a3]
    unfold numK
    rw [hn]
    exact if_neg h9
  · exact absurd a1 (by decide)
  · exact absurd a1 (by decide)
theorem sRow_of {d k : Nat} {t r : List UInt8} {x : Ex} (hk : k ≤ 10) (h : rdA .one d t = .ok (x, r)) (hr : rk r ≤ k) : ∃ r', rdA (.row k) d t = .ok (x, r') ∧ tokF r' = tokF r := by
  rw [row_lp hk, h]
  obtain ⟨r', e1, e2⟩ := climb_end (x := x) (d := d) hk hr
  exact ⟨r', e1, e2⟩
theorem row_err {d k e : Nat} {t : List UInt8} (hk : k ≤ 10) (h : rdA .one d t = .error e) : rdA (.row k) d t = .error e := by rw [row_lp hk, h]; rfl
theorem not63 {r : List UInt8} (h : ∀ l, tokF r ≠ (3, [63]) :: l) : ¬ signF (trimA r) = [63] := fun e => by
  obtain ⟨l, hl⟩ := (tok_is (by decide)).2 e
  exact h l hl
theorem all_of {d : Nat} {t r : List UInt8} {x : Ex} (h : rdA (.row 0) d t = .ok (x, r)) (h6 : ∀ l, tokF r ≠ (3, [63]) :: l) : ∃ r', rdA .all d t = .ok (x, r') ∧ tokF r' = tokF r := by
  rw [rdA_allR, h]
  refine ⟨trimA r, ?_, tokF_trim r⟩
  exact if_neg (not63 h6)
theorem all_err {d e : Nat} {t : List UInt8} (h : rdA (.row 0) d t = .error e) : rdA .all d t = .error e := by rw [rdA_allR, h]; rfl
theorem readT_of {t r : List UInt8} {x : Ex} (h : rdA .all 0 t = .ok (x, r)) (hr : tokF r = []) : readT t = .ok x := by
  unfold readT
  rw [h]
  exact if_pos (trim_ne_tok hr)
theorem readT_er {t : List UInt8} {e : Nat} (h : rdA .all 0 t = .error e) : readT t = .error e := by unfold readT; rw [h]
theorem rk_nilT {r : List UInt8} (h : tokF r = []) : rk r = 0 := by rw [rk_tok, h]; rfl
theorem rk_hd {r g : List UInt8} {l : List Tok} (h : tokF r = (3, g) :: l) : rk r = rankF g := by rw [rk_tok, h]; unfold rkT; simp only; rw [if_pos trivial]
/-- BRACKETS. -/
theorem read_br {s t : List UInt8} {x : Ex} (hs : readT s = .ok x) (h : tokF t = brT s []) : readT t = .error 12 ∨ readT t = .ok x := by
  rcases brk hs 0 h with e | ⟨r, e, hr⟩
  · exact .inl (readT_er (all_err (row_err (by decide) e)))
  · right
    obtain ⟨r1, e1, h1⟩ := sRow_of (k := 0) (by decide) e (by rw [rk_nilT hr]; exact Nat.le_refl _)
    obtain ⟨r2, e2, h2⟩ := all_of e1 (fun l => by rw [h1, hr]; simp)
    exact readT_of e2 (by rw [h2, h1, hr])
/-- A sign between a number and brackets. -/
theorem read_bin {s t u g : List UInt8} {x : Ex} {n j : Nat} (hs : readT s = .ok x) (h : tokF t = (1, u) :: (3, g) :: brT s []) (hn : numR u 0 = some n) (h9 : n ≠ 9223372036854775808) (hg : g ∈ signsL) (hj : rankF g = j) (hj1 : 1 ≤ j) (hj2 : j ≤ 10) : readT t = .error 12 ∨ readT t = .ok (.bin g (.num (n : Int)) x) := by
  obtain ⟨r, e, hr⟩ := sOne_num 0 h hn h9
  have hrk : rk r = j := by rw [rk_hd hr, hj]
  have hsg : signF (trimA r) = g := (tok_is hg).1 ⟨_, hr⟩
  have hrow : rdA (.row 0) 0 t = mrR 0 0 (.num (n : Int)) g (rdA (.row j) 0 ((trimA r).drop g.length)) := by
    rw [row_lp (by decide), e]
    show lpD (10 - 0) 0 (.num (n : Int)) 0 r = _
    rw [climb2 (by omega), hsg, hrk]
  have hg0 : g ≠ [] := by rintro rfl; exact absurd hg (by decide)
  have hts := tok_sign (s := r) (by rw [hsg]; exact hg0)
  rw [hsg, hr] at hts
  simp only [List.cons.injEq, true_and] at hts
  rcases brk hs 0 hts.symm with e1 | ⟨r1, e1, h1⟩
  · left
    refine readT_er (all_err ?_)
    rw [hrow, row_err hj2 e1]; rfl
  · right
    obtain ⟨r2, e2, h2⟩ := sRow_of hj2 e1 (by rw [rk_nilT h1]; exact Nat.zero_le _)
    obtain ⟨r3, e3, h3⟩ := climb_end (k := 0) (x := .bin g (.num (n : Int)) x) (d := 0) (s := r2) (by decide) (by rw [rk_nilT (h2.trans h1)]; exact Nat.le_refl _)
    have hrow2 : rdA (.row 0) 0 t = .ok (.bin g (.num (n : Int)) x, r3) := by rw [hrow, e2]; exact e3
    obtain ⟨r4, e4, h4⟩ := all_of hrow2 (fun l => by rw [h3, h2, h1]; simp)
    exact readT_of e4 (by rw [h4, h3, h2, h1])
/-- One of two. -/
theorem read_q {t u : List UInt8} {n : Nat} {Y Z : List Tok} {y z : Ex} (h : tokF t = (1, u) :: (3, [63]) :: Y) (hn : numR u 0 = some n) (h9 : n ≠ 9223372036854775808)
    (hy : ∀ p, tokF p = Y → rdA .all 1 p = .error 12 ∨ ∃ r, rdA .all 1 p = .ok (y, r) ∧ tokF r = (3, [58]) :: Z) (hz : ∀ p, tokF p = Z → rdA .all 1 p = .error 12 ∨ ∃ r, rdA .all 1 p = .ok (z, r) ∧ tokF r = []) : readT t = .error 12 ∨ readT t = .ok (.cond (.num (n : Int)) y z) := by
  obtain ⟨r, e, hr⟩ := sOne_num 0 h hn h9
  obtain ⟨r1, e1, h1⟩ := sRow_of (k := 0) (by decide) e (by rw [rk_hd hr]; decide)
  have hq : signF (trimA r1) = [63] := (tok_is (by decide)).1 ⟨_, h1.trans hr⟩
  have hall : rdA .all 0 t = ynR (.num (n : Int)) 0 (rdA .all 1 ((trimA r1).drop 1)) := by
    rw [rdA_allR, e1]
    show (if signF (trimA r1) = [63] then dpR 0 _ else _) = _
    rw [if_pos hq, dpR_ok' (by decide)]
  have hts := tok_sign (s := r1) (by rw [hq]; simp)
  rw [hq, h1, hr] at hts
  simp only [List.cons.injEq, true_and] at hts
  rcases hy _ hts.symm with e2 | ⟨r2, e2, h2⟩
  · left; refine readT_er ?_; rw [hall]; unfold ynR; rw [show ([63] : List UInt8).length = 1 from rfl] at e2; rw [e2]; rfl
  · have hc : signF (trimA r2) = [58] := (tok_is (by decide)).1 ⟨_, h2⟩
    have hts2 := tok_sign (s := r2) (by rw [hc]; simp)
    rw [hc, h2] at hts2
    simp only [List.cons.injEq, true_and] at hts2
    have hall2 : rdA .all 0 t = colR (.num (n : Int)) y (rdA .all 1 ((trimA r2).drop 1)) := by
      rw [hall]
      unfold ynR
      rw [show ([63] : List UInt8).length = 1 from rfl] at e2
      rw [e2]
      exact if_pos hc
    rcases hz _ hts2.symm with e3 | ⟨r3, e3, h3⟩
    · left; refine readT_er ?_; rw [hall2]; rw [show ([58] : List UInt8).length = 1 from rfl] at e3; rw [e3]; rfl
    · right
      refine readT_of (r := r3) ?_ h3
      rw [hall2]
      rw [show ([58] : List UInt8).length = 1 from rfl] at e3
      rw [e3]; rfl
/-- A number alone; brackets alone: one deeper. -/
theorem all_num {p u : List UInt8} {n : Nat} {B : List Tok} (h : tokF p = (1, u) :: B) (hn : numR u 0 = some n) (h9 : n ≠ 9223372036854775808) (hB : B = [] ∨ ∃ Z, B = (3, [58]) :: Z) : ∃ r, rdA .all 1 p = .ok (.num (n : Int), r) ∧ tokF r = B := by
  obtain ⟨r, e, hr⟩ := sOne_num 1 h hn h9
  obtain ⟨r1, e1, h1⟩ := sRow_of (k := 0) (by decide) e (by rcases hB with rfl | ⟨Z, rfl⟩; rw [rk_nilT hr]; exact Nat.le_refl _; rw [rk_hd hr]; decide)
  obtain ⟨r2, e2, h2⟩ := all_of e1 (fun l => by rw [h1, hr]; rcases hB with rfl | ⟨Z, rfl⟩ <;> simp)
  exact ⟨r2, e2, by rw [h2, h1, hr]⟩
theorem all_br {s p : List UInt8} {x : Ex} {B : List Tok} (hs : readT s = .ok x) (h : tokF p = brT s B) (hB : B = [] ∨ ∃ Z, B = (3, [58]) :: Z) : rdA .all 1 p = .error 12 ∨ ∃ r, rdA .all 1 p = .ok (x, r) ∧ tokF r = B := by
  rcases brk hs 1 h with e | ⟨r, e, hr⟩
  · exact .inl (all_err (row_err (by decide) e))
  · right
    obtain ⟨r1, e1, h1⟩ := sRow_of (k := 0) (by decide) e (by rcases hB with rfl | ⟨Z, rfl⟩; rw [rk_nilT hr]; exact Nat.le_refl _; rw [rk_hd hr]; decide)
    obtain ⟨r2, e2, h2⟩ := all_of e1 (fun l => by rw [h1, hr]; rcases hB with rfl | ⟨Z, rfl⟩ <;> simp)
    exact ⟨r2, e2, by rw [h2, h1, hr]⟩
/-! The statement's texts. -/
def brS (s : List UInt8) : List UInt8 := 40 :: (s ++ [41])
def bwS (s : List UInt8) : List UInt8 := 40 :: 32 :: (s ++ [9, 41])
def andS (s : List UInt8) : List UInt8 := [48, 38, 38] ++ brS s
def orS (s : List UInt8) : List UInt8 := [49, 124, 124] ++ brS s
def thenS (s : List UInt8) : List UInt8 := [49, 63, 55, 58] ++ brS s
def elseS (s : List UInt8) : List UInt8 := [48, 63] ++ 40 :: (s ++ [41, 58, 56])
theorem tok_brS (s : List UInt8) : tokF (brS s) = brT s [] := tok_br s []
theorem tok_bwS (s : List UInt8) : tokF (bwS s) = brT s [] := by
  unfold bwS brT
  rw [tok_one (.inl rfl), tok_blank (by decide), show ([9, 41] : List UInt8) = 9 :: [41] from rfl, tok_app (by decide) _ _ s (Nat.le_refl _), tok_blank (by decide), tok_one (.inr (.inl rfl))]
  rfl
theorem tok_pre (p s q : List UInt8) : tokF (p ++ 40 :: (s ++ 41 :: q)) = tokF p ++ brT s (tokF q) := by
  rw [tok_app (by decide) _ _ p (Nat.le_refl _), tok_br]
section
variable {s : List UInt8} {x : Ex} (env : List UInt8 → List UInt8)
theorem law_bracket (hs : readT s = .ok x) (h : errT' (brS s) ≠ 12) : evalF env (bwS s) = evalF env s := by
  have h1 : readT (bwS s) = readT (brS s) := readT_tok (by rw [tok_bwS, tok_brS])
  rcases read_br hs (tok_brS s) with e | e
  · exact absurd (by unfold errT'; rw [e]) h
  · unfold evalF; rw [h1, e, hs]
theorem law_and (hs : readT s = .ok x) : errT' (andS s) = 12 ∨ evalF env (andS s) = ⟨0, 0, []⟩ := by
  have ht : tokF (andS s) = (1, [48]) :: (3, [38, 38]) :: brT s [] := by
    unfold andS brS
    rw [tok_pre, show tokF [48, 38, 38] = [(1, [48]), (3, [38, 38])] by decide +kernel]; rfl
  rcases read_bin hs ht (n := 0) (by decide) (by decide) (by decide) (j := 2) (by decide) (by decide) (by decide) with e | e
  · left; unfold errT'; rw [e]
  · right; unfold evalF; rw [e]; rfl
theorem law_or (hs : readT s = .ok x) : errT' (orS s) = 12 ∨ evalF env (orS s) = ⟨1, 0, []⟩ := by
  have ht : tokF (orS s) = (1, [49]) :: (3, [124, 124]) :: brT s [] := by
    unfold orS brS
    rw [tok_pre, show tokF [49, 124, 124] = [(1, [49]), (3, [124, 124])] by decide +kernel]; rfl
  rcases read_bin hs ht (n := 1) (by decide) (by decide) (by decide) (j := 1) (by decide) (by decide) (by decide) with e | e
  · left; unfold errT'; rw [e]
  · right; unfold evalF; rw [e]; rfl
theorem law_then (hs : readT s = .ok x) : errT' (thenS s) = 12 ∨ evalF env (thenS s) = ⟨7, 0, []⟩ := by
  have ht : tokF (thenS s) = (1, [49]) :: (3, [63]) :: (1, [55]) :: (3, [58]) :: brT s [] := by
    unfold thenS brS
    rw [tok_pre, show tokF [49, 63, 55, 58] = [(1, [49]), (3, [63]), (1, [55]), (3, [58])] by decide +kernel]; rfl
  rcases read_q ht (n := 1) (by decide) (by decide) (y := .num 7) (z := x) (Z := brT s []) (fun p hp => .inr (all_num hp (n := 7) (by decide) (by decide) (.inr ⟨_, rfl⟩))) (fun p hp => all_br hs hp (.inl rfl)) with e | e
  · left; unfold errT'; rw [e]
  · right; unfold evalF; rw [e]; rfl
theorem law_else (hs : readT s = .ok x) : errT' (elseS s) = 12 ∨ evalF env (elseS s) = ⟨8, 0, []⟩ := by
  have ht : tokF (elseS s) = (1, [48]) :: (3, [63]) :: brT s ((3, [58]) :: [(1, [56])]) := by
    unfold elseS
    rw [tok_pre, show tokF [48, 63] = [(1, [48]), (3, [63])] by decide +kernel, show tokF [58, 56] = [(3, [58]), (1, [56])] by decide +kernel]; rfl
  rcases read_q ht (n := 0) (by decide) (by decide) (y := x) (z := .num 8) (Z := [(1, [56])]) (fun p hp => all_br hs hp (.inr ⟨_, rfl⟩)) (fun p hp => .inr (all_num hp (n := 8) (by decide) (by decide) (.inl rfl))) with e | e
  · left; unfold errT'; rw [e]
  · right; unfold evalF; rw [e]; rfl
end
end Go.Proofs.YtoedopgjonhemaaGreatDoor
