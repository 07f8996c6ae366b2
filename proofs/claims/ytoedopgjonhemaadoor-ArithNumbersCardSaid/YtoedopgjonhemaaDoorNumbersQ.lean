/- ArithNumbers, plain: signs ahead, shifts, a choice; quotients and rests. -/
import Derived.Test.YtoedopgjonhemaaDoorNumbersP
namespace Go.Proofs.YtoedopgjonhemaaDoor
open Go Go.RowKit Go.Lw
set_option linter.unusedVariables false
set_option linter.unusedSimpArgs false
set_option maxRecDepth 100000
theorem binV_plain {g : List UInt8} (h1 : g ≠ [38, 38]) (h2 : g ≠ [124, 124]) {A B : Va} (hA : A.e = 0) (hB : B.e = 0) : binV g A B = ⟨(binF g A.v B.v).1, (binF g A.v B.v).2, A.l ++ B.l⟩ := by
  unfold binV
  rw [if_neg (by simp [hA]), if_neg h1, if_neg h2, if_neg (by simp [hB])]
abbrev In64 (a : Int) : Prop := -9223372036854775808 ≤ a ∧ a ≤ 9223372036854775807
theorem evR_un (env : List UInt8 → List UInt8) (g : List UInt8) (x : Ex) {v : Int} {l : List (List UInt8)} (h : ofF env x = ⟨v, 0, l⟩) : evR (ofF env (.un g x)) = ⟨aheadF g v, 0, l⟩ := by
  have e : ofF env (.un g x) = ⟨aheadF g (ofF env x).v, (ofF env x).e, (ofF env x).l⟩ := rfl
  rw [e, h]; rfl
def ahN : List (List UInt8) := [[45], [43], [33], [126]]
theorem ah_all : ahN.all (fun g => readsB (g ++ [120]) (.un g (.name [120]))) = true := by decide +kernel
theorem ah_law {g : List UInt8} (hg : g ∈ ahN) (a b : Int) (ha : In64 a) : evalF (envA a b) (g ++ [120]) = ⟨aheadF g a, 0, [[120]]⟩ := by
  rw [evalF_ok (reads_of (List.all_eq_true.1 ah_all g hg))]
  exact evR_un _ _ _ (of_x a b ha.1 ha.2)
theorem and63 (b : Int) : W64 ((BitVec.ofInt 64 b &&& BitVec.ofInt 64 63).toNat : Int) = b % 64 := by
  have h1 : (BitVec.ofInt 64 63).toNat = 2 ^ 6 - 1 := by decide
  rw [BitVec.toNat_and, h1, Nat.and_two_pow_sub_one_eq_mod, BitVec.toNat_ofInt]
  rw [W64_in] <;> omega
def shN : List (List UInt8) := [[60, 60], [62, 62]]
theorem sh_all : shN.all (fun g => readsB ([120] ++ g ++ [40, 121, 38, 54, 51, 41]) (.bin g (.name [120]) (.bin [38] (.name [121]) (.num 63)))) = true := by decide +kernel
theorem of_and (a b : Int) (hb : In64 b) : ofF (envA a b) (.bin [38] (.name [121]) (.num 63)) = ⟨b % 64, 0, [[121]]⟩ := by
  have e2 : ofF (envA a b) (.num 63) = ⟨63, 0, []⟩ := rfl
  rw [ofF_bin, of_y a b hb.1 hb.2, e2]
  rw [binV_plain (by decide) (by decide) rfl rfl, binF_3]
  simp only
  rw [and63]; rfl
theorem sh_law {g : List UInt8} (hg : g ∈ shN) (a b : Int) (ha : In64 a) (hb : In64 b) : (evalF (envA a b) ([120] ++ g ++ [40, 121, 38, 54, 51, 41])).v = (binF g a (b % 64)).1 ∧ (evalF (envA a b) ([120] ++ g ++ [40, 121, 38, 54, 51, 41])).e = 0 := by
  rw [evalF_ok (reads_of (List.all_eq_true.1 sh_all g hg)), ofF_bin, of_x a b ha.1 ha.2, of_and a b hb]
  have hr : ¬ (b % 64 < 0 ∨ 63 < b % 64) := by omega
  simp only [shN, List.mem_cons, List.not_mem_nil, or_false] at hg
  rcases hg with rfl | rfl
  · rw [binV_plain (by decide) (by decide) rfl rfl]
    simp only
    rw [binF_10, if_neg hr]
    exact ⟨rfl, rfl⟩
  · rw [binV_plain (by decide) (by decide) rfl rfl]
    simp only
    rw [binF_11, if_neg hr]
    exact ⟨rfl, rfl⟩
theorem ch_law (a b : Int) (ha : In64 a) (hb : In64 b) : (evalF (envA a b) [120, 63, 121, 58, 51]).v = (if a ≠ 0 then b else 3) ∧ (evalF (envA a b) [120, 63, 121, 58, 51]).e = 0 := by
  have hr : readT [120, 63, 121, 58, 51] = .ok (.cond (.name [120]) (.name [121]) (.num 3)) := reads_of (by decide +kernel)
  have e2 : ofF (envA a b) (.num 3) = ⟨3, 0, []⟩ := rfl
  rw [evalF_ok hr, ofF_cond, of_x a b ha.1 ha.2, of_y a b hb.1 hb.2, e2]
  unfold condV evR
  by_cases h : a = 0 <;> simp [h]
/-! Quotients. -/
theorem bad_e (a b : Int) (hb : b = 0 ∨ (a = minI ∧ b = -1)) : binF [47] a b = (0, 25) ∧ binF [37] a b = (0, 25) := by
  rw [binF_15, binF_16, if_pos hb, if_pos hb]; exact ⟨rfl, rfl⟩
theorem good_e (a b : Int) (hb : ¬ (b = 0 ∨ (a = minI ∧ b = -1))) : binF [47] a b = (W64 (a.tdiv b), 0) ∧ binF [37] a b = (a.tmod b, 0) := by
  rw [binF_15, binF_16, if_neg hb, if_neg hb]; exact ⟨rfl, rfl⟩
theorem md_read : readT [120, 37, 121] = .ok (.bin [37] (.name [120]) (.name [121])) := reads_of (by decide +kernel)
theorem qr_read : readT [120, 47, 121, 42, 121, 43, 120, 37, 121] = .ok (.bin [43] (.bin [42] (.bin [47] (.name [120]) (.name [121])) (.name [121])) (.bin [37] (.name [120]) (.name [121]))) := reads_of (by decide +kernel)
theorem binV_err {g : List UInt8} {A B : Va} (hA : A.e ≠ 0) : (binV g A B).e = A.e := by
  unfold binV
  rw [if_pos hA]
theorem md_bad (a b : Int) (ha : In64 a) (hb : In64 b) (h : b = 0 ∨ (a = minI ∧ b = -1)) : (evalF (envA a b) [120, 37, 121]).e = 25 := by
  rw [evalF_ok md_read, ofF_bin, of_x a b ha.1 ha.2, of_y a b hb.1 hb.2, binV_plain (by decide) (by decide) rfl rfl]
  simp only
  rw [(bad_e a b h).2]; rfl
theorem qr_bad (a b : Int) (ha : In64 a) (hb : In64 b) (h : b = 0 ∨ (a = minI ∧ b = -1)) : (evalF (envA a b) [120, 47, 121, 42, 121, 43, 120, 37, 121]).e = 25 := by
  have e1 : (ofF (envA a b) (.bin [47] (.name [120]) (.name [121]))).e = 25 := by
    rw [ofF_bin, of_x a b ha.1 ha.2, of_y a b hb.1 hb.2, binV_plain (by decide) (by decide) rfl rfl]
    simp only
    rw [(bad_e a b h).1]
  have e2 : (ofF (envA a b) (.bin [42] (.bin [47] (.name [120]) (.name [121])) (.name [121]))).e = 25 := by
    rw [ofF_bin, binV_err (by rw [e1]; decide), e1]
  have e3 : (ofF (envA a b) (.bin [43] (.bin [42] (.bin [47] (.name [120]) (.name [121])) (.name [121])) (.bin [37] (.name [120]) (.name [121])))).e = 25 := by
    rw [ofF_bin, binV_err (by rw [e2]; decide), e2]
  rw [evalF_ok qr_read]
  unfold evR
  rw [if_pos (by rw [e3]; decide)]
  exact e3
theorem md_good (a b : Int) (ha : In64 a) (hb : In64 b) (h : ¬ (b = 0 ∨ (a = minI ∧ b = -1))) : (evalF (envA a b) [120, 37, 121]).v = a.tmod b ∧ (evalF (envA a b) [120, 37, 121]).e = 0 := by
  rw [evalF_ok md_read, ofF_bin, of_x a b ha.1 ha.2, of_y a b hb.1 hb.2, binV_plain (by decide) (by decide) rfl rfl]
  simp only
  rw [(good_e a b h).2]; exact ⟨rfl, rfl⟩
theorem qr_good (a b : Int) (ha : In64 a) (hb : In64 b) (h : ¬ (b = 0 ∨ (a = minI ∧ b = -1))) : (evalF (envA a b) [120, 47, 121, 42, 121, 43, 120, 37, 121]).v = a ∧ (evalF (envA a b) [120, 47, 121, 42, 121, 43, 120, 37, 121]).e = 0 := by
  have e1 : ofF (envA a b) (.bin [47] (.name [120]) (.name [121])) = ⟨W64 (a.tdiv b), 0, [[120], [121]]⟩ := by
    rw [ofF_bin, of_x a b ha.1 ha.2, of_y a b hb.1 hb.2, binV_plain (by decide) (by decide) rfl rfl]
    simp only
    rw [(good_e a b h).1]; rfl
  have e2 : ofF (envA a b) (.bin [42] (.bin [47] (.name [120]) (.name [121])) (.name [121])) = ⟨W64 (W64 (a.tdiv b) * b), 0, [[120], [121], [121]]⟩ := by
    rw [ofF_bin, e1, of_y a b hb.1 hb.2, binV_plain (by decide) (by decide) rfl rfl]
    simp only
    rw [binF_14]; rfl
  have e3 : ofF (envA a b) (.bin [37] (.name [120]) (.name [121])) = ⟨a.tmod b, 0, [[120], [121]]⟩ := by
    rw [ofF_bin, of_x a b ha.1 ha.2, of_y a b hb.1 hb.2, binV_plain (by decide) (by decide) rfl rfl]
    simp only
    rw [(good_e a b h).2]; rfl
  rw [evalF_ok qr_read, ofF_bin, e2, e3, binV_plain (by decide) (by decide) rfl rfl]
  simp only
  rw [binF_12]
  refine ⟨?_, rfl⟩
  show W64 (W64 (W64 (a.tdiv b) * b) + a.tmod b) = a
  have h1 : W64 (W64 (a.tdiv b) * b) % M64 = (a.tdiv b * b) % M64 := (W64_mod _).trans (cMul (W64_mod _) rfl)
  have h2 : a.tdiv b * b + a.tmod b = a := by rw [Int.tmod_def, Int.mul_comm]; omega
  have h3 := W64_eq (cAdd h1 (rfl : a.tmod b % M64 = a.tmod b % M64))
  rw [h3, h2]
  exact W64_in ha.1 ha.2
/-- The rest's sign and size. -/
theorem rest_sign (a b : Int) (h : a.tmod b ≠ 0) : (a.tmod b < 0) ↔ (a < 0) := by
  rcases Int.lt_or_le a 0 with ha | ha
  · have : a.tmod b ≤ 0 := by
      have := Int.tmod_nonneg (a := -a) b (by omega)
      rw [Int.neg_tmod] at this; omega
    constructor <;> intro _ <;> omega
  · have := Int.tmod_nonneg (a := a) b ha
    constructor <;> intro _ <;> omega
theorem rest_size (a b : Int) (h : b ≠ 0) : (a.tmod b).natAbs < b.natAbs := by
  rw [Int.natAbs_tmod]
  exact Nat.mod_lt _ (by omega)
end Go.Proofs.YtoedopgjonhemaaDoor
