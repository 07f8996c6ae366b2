/- ArithNumbers, plain: names and texts of numbers; what signs between them are worth. -/
import Derived.Test.YtoedopgjonhemaaDoorChainsP
import Derived.Test.YtoedopgjonhemaaDoorAKnownP
namespace Go.Proofs.YtoedopgjonhemaaDoor
open Go Go.RowKit Go.Lw
set_option linter.unusedVariables false
set_option linter.unusedSimpArgs false
set_option maxRecDepth 100000
theorem value_itoa (a : Int) (h0 : -9223372036854775808 ≤ a) (h1 : a ≤ 9223372036854775807) : valueF (Lib.itoa a) = (a, 0) := by
  have hp := parse_itoa a h0 h1
  obtain ⟨c, r, hc, _⟩ := itoa_cons a
  have hne : Lib.itoa a ≠ [] := by rw [hc]; simp
  have hb : bareA (Lib.itoa a) ≠ [] ∧ (bareA (Lib.itoa a)).all digitB = true := by
    unfold Lib.itoa
    split
    · have e : bareA (45 :: Lib.decDigits a.natAbs) = Lib.decDigits a.natAbs := rfl
      rw [e]; exact ⟨dec_ne _, dec_all _⟩
    · obtain ⟨d, q, hd, hdd⟩ := dec_cons a.toNat
      have hn := digit_nat hdd
      have e : bareA (Lib.decDigits a.toNat) = Lib.decDigits a.toNat := by
        unfold bareA
        rw [if_neg]
        rw [hd]
        rintro (e | e)
        · rw [Option.some.inj e] at hn; revert hn; decide
        · rw [Option.some.inj e] at hn; revert hn; decide
      rw [e]; exact ⟨dec_ne _, dec_all _⟩
  unfold valueF
  rw [if_neg hne, if_neg (by rintro (h | h); exact hb.1 h; rw [hb.2] at h; cases h), hp]
def varsN (a b : Int) : List (List UInt8 × List UInt8) := [([121], Lib.itoa b), ([120], Lib.itoa a)]
def envA (a b : Int) : List UInt8 → List UInt8 := envOf (varsN a b)
theorem envA_len (a b : Int) (ha : -9223372036854775808 ≤ a ∧ a ≤ 9223372036854775807) (hb : -9223372036854775808 ≤ b ∧ b ≤ 9223372036854775807) (s : List UInt8) : (envA a b s).length ≤ 1000000 := by
  have h1 := Lib.itoa_length_le a ha.1 ha.2; have h2 := Lib.itoa_length_le b hb.1 hb.2
  refine envOf_len _ 1000000 ?_ s
  simp only [varsN, List.all_cons, List.all_nil, Bool.and_true, Bool.and_eq_true, decide_eq_true_eq]
  omega
theorem envA_x (a b : Int) : envA a b [120] = Lib.itoa a := rfl
theorem envA_y (a b : Int) : envA a b [121] = Lib.itoa b := rfl
theorem of_x (a b : Int) (h0 : -9223372036854775808 ≤ a) (h1 : a ≤ 9223372036854775807) : ofF (envA a b) (.name [120]) = ⟨a, 0, [[120]]⟩ := by
  show (⟨(valueF (envA a b [120])).1, (valueF (envA a b [120])).2, [[120]]⟩ : Va) = _
  rw [envA_x, value_itoa a h0 h1]
theorem of_y (a b : Int) (h0 : -9223372036854775808 ≤ b) (h1 : b ≤ 9223372036854775807) : ofF (envA a b) (.name [121]) = ⟨b, 0, [[121]]⟩ := by
  show (⟨(valueF (envA a b [121])).1, (valueF (envA a b [121])).2, [[121]]⟩ : Va) = _
  rw [envA_y, value_itoa b h0 h1]
/-- A text that is read as this. -/
def readsB (s : List UInt8) (x : Ex) : Bool := match readT s with
  | .ok y => decide (y = x)
  | .error _ => false
theorem reads_of {s : List UInt8} {x : Ex} (h : readsB s x = true) : readT s = .ok x := by
  unfold readsB at h
  cases hr : readT s with
  | error e => rw [hr] at h; cases h
  | ok y => rw [hr] at h; rw [of_decide_eq_true h]
def sgsN : List (List UInt8) := [[43], [45], [42], [38], [124], [94], [60], [60, 61], [62], [62, 61], [61, 61], [33, 61], [38, 38], [124, 124]]
theorem xy_all : sgsN.all (fun g => readsB ([120] ++ g ++ [32, 121]) (.bin g (.name [120]) (.name [121]))) = true := by decide +kernel
theorem xy_read {g : List UInt8} (hg : g ∈ sgsN) : readT ([120] ++ g ++ [32, 121]) = .ok (.bin g (.name [120]) (.name [121])) := reads_of (List.all_eq_true.1 xy_all g hg)
/-- What a sign between two numbers is worth. -/
def wantF (g : List UInt8) (a b : Int) : Int := if g = [38, 38] then truthI (decide (a ≠ 0 ∧ b ≠ 0)) else if g = [124, 124] then truthI (decide (a ≠ 0 ∨ b ≠ 0)) else (binF g a b).1
theorem binF_e {g : List UInt8} (hg : g ∈ sgsN) (h1 : g ≠ [38, 38]) (h2 : g ≠ [124, 124]) (a b : Int) : (binF g a b).2 = 0 := by
  simp only [sgsN, List.mem_cons, List.not_mem_nil, or_false] at hg
  rcases hg with rfl | rfl | rfl | rfl | rfl | rfl | rfl | rfl | rfl | rfl | rfl | rfl | rfl | rfl
  · rw [binF_12]
  · rw [binF_13]
  · rw [binF_14]
  · rw [binF_3]
  · rw [binF_1]
  · rw [binF_2]
  · rw [binF_6]
  · rw [binF_7]
  · rw [binF_8]
  · rw [binF_9]
  · rw [binF_4]
  · rw [binF_5]
  · exact absurd rfl h1
  · exact absurd rfl h2
theorem binV_want {g : List UInt8} (hg : g ∈ sgsN) {A B : Va} (hA : A.e = 0) (hB : B.e = 0) : (evR (binV g A B)).v = wantF g A.v B.v ∧ (evR (binV g A B)).e = 0 := by
  have key : (binV g A B).v = wantF g A.v B.v ∧ (binV g A B).e = 0 := by
    unfold binV wantF
    rw [if_neg (by simp [hA])]
    by_cases h1 : g = [38, 38]
    · rw [if_pos h1, if_pos h1]
      by_cases ha : A.v = 0
      · rw [if_neg (by simp [ha])]; simp [ha, truthI]
      · rw [if_pos ha]
        refine ⟨?_, hB⟩
        by_cases hb : B.v = 0 <;> simp [ha, hb, truthI]
    · rw [if_neg h1, if_neg h1]
      by_cases h2 : g = [124, 124]
      · rw [if_pos h2, if_pos h2]
        by_cases ha : A.v = 0
        · rw [if_neg (by simp [ha])]
          refine ⟨?_, hB⟩
          by_cases hb : B.v = 0 <;> simp [ha, hb, truthI]
        · rw [if_pos ha]; simp [ha, truthI]
      · rw [if_neg h2, if_neg h2, if_neg (by simp [hB])]
        exact ⟨rfl, binF_e hg h1 h2 _ _⟩
  unfold evR
  rw [if_neg (by simp [key.2])]
  exact ⟨key.1, rfl⟩
theorem xy_law {g : List UInt8} (hg : g ∈ sgsN) (a b : Int) (ha : -9223372036854775808 ≤ a ∧ a ≤ 9223372036854775807) (hb : -9223372036854775808 ≤ b ∧ b ≤ 9223372036854775807) :
    (evalF (envA a b) ([120] ++ g ++ [32, 121])).v = wantF g a b ∧ (evalF (envA a b) ([120] ++ g ++ [32, 121])).e = 0 := by
  rw [evalF_ok (xy_read hg), ofF_bin, of_x a b ha.1 ha.2, of_y a b hb.1 hb.2]
  exact binV_want hg rfl rfl
/-! Numbers in brackets. -/
/-- What is read tightest, ahead of what no row takes, is what a row reads. -/
theorem row_one (d : Nat) (s r : List UInt8) (x : Ex) (h : rdA .one d s = .ok (x, r)) (ht : trimA r = r) : ∀ j k, j + k = 10 → (∀ i, k ≤ i → i < 10 → signF r ∉ rowsL.getD i []) → rdA (.row k) d s = .ok (x, r)
  | 0, k, hk, _ => by rw [rdA_row10 k d s (by omega)]; exact h
  | j + 1, k, hk, hno => by
    rw [rdA_row k d s (by omega), row_one d s r x h ht j (k + 1) (by omega) (fun i hi => hno i (by omega))]
    simp only
    rw [rdA_loop, ht, if_neg (hno k (Nat.le_refl _) (by omega))]
theorem sign_close (r : List UInt8) : signF (41 :: r) = [41] := by unfold signF signsL; simp [List.find?]
theorem sign_open (r : List UInt8) : signF (40 :: r) = [40] := by unfold signF signsL; simp [List.find?]
theorem close_no : ∀ i, i < 10 → ([41] : List UInt8) ∉ rowsL.getD i [] := by
  intro i hi
  have key : (List.range 10).all (fun i => decide (([41] : List UInt8) ∉ rowsL.getD i [])) = true := by decide +kernel
  exact of_decide_eq_true (List.all_eq_true.1 key i (List.mem_range.2 hi))
/-- A bracket. -/
theorem one_bracket (s r : List UInt8) (x : Ex) (h : rdA (.row 0) 1 (s ++ 41 :: r) = .ok (x, 41 :: r)) : rdA .one 0 (40 :: (s ++ 41 :: r)) = .ok (x, r) := by
  have ht : trimA (40 :: (s ++ 41 :: r)) = 40 :: (s ++ 41 :: r) := rfl
  have ht2 : trimA (41 :: r) = 41 :: r := rfl
  rw [rdA_one, ht, if_neg (by simp), sign_open, if_neg (by decide), if_pos rfl, if_neg (by decide)]
  have e : List.drop 1 (40 :: (s ++ 41 :: r)) = s ++ 41 :: r := rfl
  rw [e, rdA_all, h]
  simp only [ht2, sign_close]
  rw [if_neg (by decide)]
  simp only [ht2, sign_close, if_true]
  rfl
/-- A number's text. -/
def txS (a : Int) : List UInt8 := if a = -9223372036854775808 then [40, 45, 57, 50, 50, 51, 51, 55, 50, 48, 51, 54, 56, 53, 52, 55, 55, 53, 56, 48, 55, 45, 49, 41] else 40 :: (Lib.itoa a ++ [41])
def txE (a : Int) : Ex := if a = -9223372036854775808 then .bin [45] (.un [45] (.num 9223372036854775807)) (.num 1) else numEx a
theorem row_down (d : Nat) (s r : List UInt8) (x : Ex) (ht : trimA r = r) (k0 : Nat) (h : rdA (.row k0) d s = .ok (x, r)) (hk0 : k0 ≤ 10) : ∀ j k, j + k = k0 → (∀ i, i < k0 → signF r ∉ rowsL.getD i []) → rdA (.row k) d s = .ok (x, r)
  | 0, k, hk, _ => by
    obtain rfl : k = k0 := by omega
    exact h
  | j + 1, k, hk, hno => by
    rw [rdA_row k d s (by omega), row_down d s r x ht k0 h hk0 j (k + 1) (by omega) hno]
    simp only
    rw [rdA_loop, ht, if_neg (hno k (by omega))]
theorem nil_no : ∀ i, i < 10 → signF ([] : List UInt8) ∉ rowsL.getD i [] := by
  intro i hi
  have key : (List.range 10).all (fun i => decide (signF ([] : List UInt8) ∉ rowsL.getD i [])) = true := by decide +kernel
  exact of_decide_eq_true (List.all_eq_true.1 key i (List.mem_range.2 hi))
theorem itoa_low : Lib.itoa (-9223372036854775807) = [45, 57, 50, 50, 51, 51, 55, 50, 48, 51, 54, 56, 53, 52, 55, 55, 53, 56, 48, 55] := by decide +kernel
theorem itoa_1 : Lib.itoa 1 = [49] := by decide +kernel
theorem low_row (r : List UInt8) : rdA (.row 0) 1 ([45, 57, 50, 50, 51, 51, 55, 50, 48, 51, 54, 56, 53, 52, 55, 55, 53, 56, 48, 55, 45, 49] ++ 41 :: r) = .ok (.bin [45] (.un [45] (.num 9223372036854775807)) (.num 1), 41 :: r) := by
  have h1 := one_itoa 1 (-9223372036854775807) (45 :: 49 :: 41 :: r) (by decide) (by decide) (by decide) (fun c hc => by cases hc; decide)
  have h2 := one_itoa 1 1 (41 :: r) (by decide) (by decide) (by decide) (fun c hc => by cases hc; decide)
  rw [itoa_low] at h1
  rw [itoa_1] at h2
  have e : ([45, 57, 50, 50, 51, 51, 55, 50, 48, 51, 54, 56, 53, 52, 55, 55, 53, 56, 48, 55, 45, 49] : List UInt8) ++ 41 :: r = [45, 57, 50, 50, 51, 51, 55, 50, 48, 51, 54, 56, 53, 52, 55, 55, 53, 56, 48, 55] ++ 45 :: 49 :: 41 :: r := rfl
  rw [e]
  have ht : trimA (45 :: 49 :: 41 :: r) = 45 :: 49 :: 41 :: r := rfl
  have ht2 : trimA (41 :: r) = 41 :: r := rfl
  have r9 := row_one 1 _ _ _ h1 ht 1 9 rfl (fun i hi hi2 => by
    obtain rfl : i = 9 := by omega
    rw [sign_minus]; decide)
  have q9 := row_one 1 _ _ _ h2 ht2 1 9 rfl (fun i hi hi2 => by rw [sign_close]; exact close_no i hi2)
  refine row_down 1 _ _ _ ht2 8 ?_ (by decide) 8 0 rfl (fun i hi => by rw [sign_close]; exact close_no i (by omega))
  rw [rdA_row 8 1 _ (by decide), r9]
  simp only
  rw [rdA_loop, ht, sign_minus, if_pos (by decide)]
  have e2 : List.drop ([45] : List UInt8).length (45 :: 49 :: 41 :: r) = [49] ++ 41 :: r := rfl
  rw [e2, q9]
  simp only
  rw [rdA_loop, ht2, sign_close, if_neg (close_no 8 (by decide))]
  rfl
theorem one_text (a : Int) (r : List UInt8) (h0 : -9223372036854775808 ≤ a) (h1 : a ≤ 9223372036854775807) : rdA .one 0 (txS a ++ r) = .ok (txE a, r) := by
  unfold txS txE
  by_cases h : a = -9223372036854775808
  · rw [if_pos h, if_pos h]
    have hb := one_bracket [45, 57, 50, 50, 51, 51, 55, 50, 48, 51, 54, 56, 53, 52, 55, 55, 53, 56, 48, 55, 45, 49] r (.bin [45] (.un [45] (.num 9223372036854775807)) (.num 1)) (low_row r)
    simp only [List.cons_append, List.nil_append] at hb ⊢
    exact hb
  · rw [if_neg h, if_neg h]
    have e : 40 :: (Lib.itoa a ++ [41]) ++ r = 40 :: (Lib.itoa a ++ 41 :: r) := by simp
    rw [e]
    refine one_bracket _ r _ ?_
    have ho := one_itoa 1 a (41 :: r) (by decide) (by omega) h1 (fun c hc => by cases hc; decide)
    exact row_one 1 _ _ _ ho rfl 10 0 rfl (fun i _ hi => by rw [sign_close]; exact close_no i hi)
theorem of_txE (env : List UInt8 → List UInt8) (a : Int) (h0 : -9223372036854775808 ≤ a) (h1 : a ≤ 9223372036854775807) : ofF env (txE a) = ⟨a, 0, []⟩ := by
  unfold txE
  by_cases h : a = -9223372036854775808
  · rw [if_pos h, h]
    have e1 : ofF env (.un [45] (.num 9223372036854775807)) = ⟨-9223372036854775807, 0, []⟩ := by
      show (⟨aheadF [45] 9223372036854775807, 0, []⟩ : Va) = _
      decide +kernel
    have e2 : ofF env (.num 1) = ⟨1, 0, []⟩ := rfl
    rw [ofF_bin, e1, e2]
    decide +kernel
  · rw [if_neg h]; exact of_numEx env a (by omega) h1
theorem tx_head (a : Int) : ∃ q, txS a = 40 :: q := by
  unfold txS
  split
  · exact ⟨_, rfl⟩
  · exact ⟨_, rfl⟩
theorem sg_front {g : List UInt8} (hg : g ∈ sgsN) (q : List UInt8) : signF (g ++ 40 :: q) = g ∧ trimA (g ++ 40 :: q) = g ++ 40 :: q := by
  simp only [sgsN, List.mem_cons, List.not_mem_nil, or_false] at hg
  rcases hg with rfl | rfl | rfl | rfl | rfl | rfl | rfl | rfl | rfl | rfl | rfl | rfl | rfl | rfl <;> exact ⟨by unfold signF signsL; simp [List.find?], rfl⟩
theorem sg_rank {g : List UInt8} (hg : g ∈ sgsN) : ∃ j, j < 10 ∧ g ∈ rowsL.getD j [] ∧ ∀ i, j + 1 ≤ i → i < 10 → g ∉ rowsL.getD i [] := by
  have key : sgsN.all (fun g => (List.range 10).any (fun j => decide (g ∈ rowsL.getD j []) && (List.range 10).all (fun i => decide (j + 1 ≤ i → g ∉ rowsL.getD i [])))) = true := by decide +kernel
  have h := List.all_eq_true.1 key g hg
  obtain ⟨j, hj, h⟩ := List.any_eq_true.1 h
  rw [Bool.and_eq_true] at h
  exact ⟨j, List.mem_range.1 hj, of_decide_eq_true h.1, fun i hi hi2 => of_decide_eq_true (List.all_eq_true.1 h.2 i (List.mem_range.2 hi2)) hi⟩
/-- Two numbers in brackets, a sign between. -/
theorem tt_read {g : List UInt8} (hg : g ∈ sgsN) (a b : Int) (ha : -9223372036854775808 ≤ a ∧ a ≤ 9223372036854775807) (hb : -9223372036854775808 ≤ b ∧ b ≤ 9223372036854775807) : readT (txS a ++ g ++ txS b) = .ok (.bin g (txE a) (txE b)) := by
  obtain ⟨q, hq⟩ := tx_head b
  obtain ⟨hs, ht⟩ := sg_front hg q
  rw [← hq] at hs ht
  obtain ⟨j, hj, hm, hno⟩ := sg_rank hg
  rw [List.append_assoc]
  have h1 := row_one 0 _ _ _ (one_text a (g ++ txS b) ha.1 ha.2) ht (9 - j) (j + 1) (by omega) (fun i hi hi2 => by rw [hs]; exact hno i hi hi2)
  have h2 : rdA (.row (j + 1)) 0 (txS b) = .ok (txE b, []) := by
    have := one_text b [] hb.1 hb.2
    rw [List.append_nil] at this
    exact row_one 0 _ _ _ this rfl (9 - j) (j + 1) (by omega) (fun i _ hi2 => nil_no i hi2)
  have hjr : rdA (.row j) 0 (txS a ++ (g ++ txS b)) = .ok (.bin g (txE a) (txE b), []) := by
    rw [rdA_row j 0 _ hj, h1]
    simp only
    rw [rdA_loop, ht, hs, if_pos hm, List.drop_left, h2]
    exact loop_nil j hj _ 0
  have h0 := row_down 0 _ _ _ rfl j hjr (by omega) j 0 (by omega) (fun i hi => nil_no i (by omega))
  unfold readT
  rw [rdA_all, h0]
  have e : signF ([] : List UInt8) = [] := by decide +kernel
  have e2 : trimA ([] : List UInt8) = [] := rfl
  simp [e, e2]
theorem tt_law {g : List UInt8} (hg : g ∈ sgsN) (env : List UInt8 → List UInt8) (a b : Int) (ha : -9223372036854775808 ≤ a ∧ a ≤ 9223372036854775807) (hb : -9223372036854775808 ≤ b ∧ b ≤ 9223372036854775807) :
    (evalF env (txS a ++ g ++ txS b)).v = wantF g a b ∧ (evalF env (txS a ++ g ++ txS b)).e = 0 := by
  rw [evalF_ok (tt_read hg a b ha hb), ofF_bin, of_txE env a ha.1 ha.2, of_txE env b hb.1 hb.2]
  exact binV_want hg rfl rfl
end Go.Proofs.YtoedopgjonhemaaDoor
