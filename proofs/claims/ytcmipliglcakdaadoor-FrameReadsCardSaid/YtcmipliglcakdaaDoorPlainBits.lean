/- Plain facts on the check: a burst of four bytes changes it. No program in sight. -/
import Derived.Test.YtcmipliglcakdaaDoorPlainCrc
namespace Go.Lw
theorem xor_move {a b c : Nat} (h : a ^^^ b = c) : a = c ^^^ b := by rw [← h, Nat.xor_assoc, Nat.xor_self, Nat.xor_zero]
theorem xor_zero_eq {a b : Nat} (h : a ^^^ b = 0) : a = b := by have := xor_move h; rwa [Nat.zero_xor] at this
theorem bitN_ker (n : Nat) (h : n < 4294967296) (h0 : bitN n = 0) : n = 0 := by
  unfold bitN at h0
  split at h0
  · exfalso
    have := xor_zero_eq h0
    omega
  · omega
theorem bitN_lt' (n : Nat) (h : n < 4294967296) : bitN n < 4294967296 := by
  unfold bitN; split
  · exact Nat.xor_lt_two_pow (n := 32) (by omega) (by decide)
  · omega
theorem bits8_xor (a b : Nat) : bits8 (a ^^^ b) = bits8 a ^^^ bits8 b := by simp only [bits8, bitN_xor]
theorem bits8_lt (n : Nat) (h : n < 4294967296) : bits8 n < 4294967296 := by
  unfold bits8; iterate 8 apply bitN_lt'
  exact h
theorem bits8_ker (n : Nat) (h : n < 4294967296) (h0 : bits8 n = 0) : n = 0 := by
  unfold bits8 at h0
  have b1 := bitN_lt' n h
  have b2 := bitN_lt' _ b1
  have b3 := bitN_lt' _ b2
  have b4 := bitN_lt' _ b3
  have b5 := bitN_lt' _ b4
  have b6 := bitN_lt' _ b5
  have b7 := bitN_lt' _ b6
  exact bitN_ker _ h (bitN_ker _ b1 (bitN_ker _ b2 (bitN_ker _ b3 (bitN_ker _ b4 (bitN_ker _ b5 (bitN_ker _ b6 (bitN_ker _ b7 h0)))))))
theorem bits8_inj (a b : Nat) (ha : a < 4294967296) (hb : b < 4294967296) (h : bits8 a = bits8 b) : a = b := by
  have h1 : bits8 (a ^^^ b) = 0 := by rw [bits8_xor, h, Nat.xor_self]
  have := bits8_ker _ (Nat.xor_lt_two_pow (n := 32) ha hb) h1
  exact xor_zero_eq this
theorem bits8_shift (a : Nat) : bits8 (256 * a) = a := by
  unfold bits8
  rw [show 256 * a = 2 * (2 * (2 * (2 * (2 * (2 * (2 * (2 * a))))))) by omega]
  simp only [bitN_zero]
theorem xor_low (a y : Nat) (h : a < 256) : 256 * y ^^^ a = 256 * y + a := by
  have h0 := Nat.two_pow_add_eq_or_of_lt (i := 8) (b := a) (by omega) y
  have h2 : 2 ^ 8 * y ||| a = 2 ^ 8 * y ^^^ a := by
    apply Nat.eq_of_testBit_eq; intro i
    rw [Nat.testBit_or, Nat.testBit_xor, Nat.testBit_two_pow_mul]
    by_cases hi : 8 ≤ i
    · have : a.testBit i = false := Nat.testBit_lt_two_pow (Nat.lt_of_lt_of_le (by omega : a < 2 ^ 8) (Nat.pow_le_pow_right (by decide) hi))
      simp [this]
    · simp [hi]
  simp only [Nat.reducePow] at h0 h2
  rw [h0, h2]
theorem four_ker (d0 d1 d2 d3 : Nat) (h0 : d0 < 256) (h1 : d1 < 256) (h2 : d2 < 256) (h3 : d3 < 256)
    (h : bits8 (bits8 (bits8 (bits8 d0 ^^^ d1) ^^^ d2) ^^^ d3) = 0) : d0 = 0 ∧ d1 = 0 ∧ d2 = 0 ∧ d3 = 0 := by
  have x32 : ∀ a b : Nat, a < 4294967296 → b < 4294967296 → a ^^^ b < 4294967296 := fun a b ha hb => Nat.xor_lt_two_pow (n := 32) ha hb
  have u0 := bits8_lt d0 (by omega)
  have u1 := bits8_lt _ (x32 _ d1 u0 (by omega))
  have u2 := bits8_lt _ (x32 _ d2 u1 (by omega))
  have e3 := bits8_ker _ (x32 _ d3 u2 (by omega)) h
  have e3' := xor_zero_eq e3
  rw [← bits8_shift d3] at e3'
  have e2 := bits8_inj _ _ (x32 _ d2 u1 (by omega)) (by omega) e3'
  have e2' := xor_move e2
  rw [xor_low _ _ h2, ← bits8_shift (256 * d3 + d2)] at e2'
  have e1 := bits8_inj _ _ (x32 _ d1 u0 (by omega)) (by omega) e2'
  have e1' := xor_move e1
  rw [xor_low _ _ h1, ← bits8_shift (256 * (256 * d3 + d2) + d1)] at e1'
  have e0 := bits8_inj _ _ (by omega) (by omega) e1'
  omega
/-- The register's difference: by the difference of the bytes alone. -/
theorem reg_xor : ∀ (l m : List UInt8) (_ : l.length = m.length) (r s : Nat), l.foldl crcStep r ^^^ m.foldl crcStep s = (List.zipWith (· ^^^ ·) l m).foldl crcStep (r ^^^ s)
  | [], [], _, r, s => rfl
  | [], _ :: _, h, _, _ => by simp at h
  | _ :: _, [], h, _, _ => by simp at h
  | a :: l, b :: m, h, r, s => by
    simp only [List.foldl_cons, List.zipWith_cons_cons]
    rw [reg_xor l m (by simpa using h)]
    congr 1
    rw [step_eq, step_eq, step_eq, ← bits8_xor, UInt8.toNat_xor]
    congr 1
    ac_rfl
theorem zeros_reg (k : Nat) : (List.replicate k (0 : UInt8)).foldl crcStep 0 = 0 := by
  induction k with
  | zero => rfl
  | succ k ih => rw [List.replicate_succ, List.foldl_cons]; exact ih
theorem zeros_ker (k : Nat) : ∀ r, r < 4294967296 → (List.replicate k (0 : UInt8)).foldl crcStep r = 0 → r = 0 := by
  induction k with
  | zero => intro r _ h; exact h
  | succ k ih =>
    intro r hr h
    rw [List.replicate_succ, List.foldl_cons] at h
    have h1 := ih _ (crcStep_lt r 0 hr) h
    rw [step_eq] at h1
    have h2 := bits8_ker _ (by simpa using hr) h1
    simpa using h2
/-- The bytes of the burst. -/
def burst (by_ : Nat) : List UInt8 := [UInt8.ofNat (by_ / 16777216), UInt8.ofNat (by_ / 65536), UInt8.ofNat (by_ / 256), UInt8.ofNat by_]
def mask (k m by_ : Nat) : List UInt8 := List.replicate k 0 ++ burst by_ ++ List.replicate m 0
theorem mask_get (k m by_ j : Nat) (h : j < (mask k m by_).length) : (mask k m by_)[j] = if k ≤ j ∧ j < k + 4 then (burst by_).getD (j - k) 0 else 0 := by
  have hb : (burst by_).length = 4 := rfl
  rw [List.getElem_eq_iff]
  unfold mask at *
  by_cases h1 : j < k
  · rw [List.getElem?_append_left (by simp; omega), List.getElem?_append_left (by simpa using h1), List.getElem?_replicate, if_pos h1, if_neg (by omega)]
  by_cases h2 : j < k + 4
  · rw [List.getElem?_append_left (by simp [hb]; omega), List.getElem?_append_right (by simp; omega), if_pos (by omega), List.length_replicate, List.getD_eq_getElem?_getD, List.getElem?_eq_getElem (by omega)]
    rfl
  · have h3 : (List.replicate k (0 : UInt8) ++ burst by_).length = k + 4 := by simp [hb]
    have h4 : (List.replicate k (0 : UInt8) ++ burst by_ ++ List.replicate m 0).length = k + 4 + m := by rw [List.length_append, h3, List.length_replicate]
    rw [List.getElem?_append_right (by omega), List.getElem?_replicate, if_pos (by omega), if_neg (by omega)]
/-- What a burst has made of bytes behind i of its bytes. -/
def xr (B : List UInt8) (k by_ i : Nat) : List UInt8 := B.mapIdx fun j c => c ^^^ if k ≤ j ∧ j < k + i then (burst by_).getD (j - k) 0 else 0
theorem xr_at (B : List UInt8) (k by_ i j : Nat) : (xr B k by_ i)[j]? = (B[j]?).map fun c => c ^^^ if k ≤ j ∧ j < k + i then (burst by_).getD (j - k) 0 else 0 := by
  unfold xr; rw [List.getElem?_mapIdx]
theorem xr_zero (B : List UInt8) (k by_ : Nat) : xr B k by_ 0 = B := by
  apply List.ext_getElem?
  intro j
  rw [xr_at, if_neg (by omega)]
  cases B[j]? <;> simp
theorem xr_len (B : List UInt8) (k by_ i : Nat) : (xr B k by_ i).length = B.length := by simp [xr]
theorem xr_four (B : List UInt8) (k m by_ : Nat) (hl : B.length = k + 4 + m) : xr B k by_ 4 = List.zipWith (· ^^^ ·) B (mask k m by_) := by
  have hml : (mask k m by_).length = k + 4 + m := by simp [mask, burst]; omega
  apply List.ext_getElem?
  intro j
  rw [xr_at, List.getElem?_zipWith']
  rcases Nat.lt_or_ge j B.length with h | h
  · rw [List.getElem?_eq_getElem h, List.getElem?_eq_getElem (by omega : j < (mask k m by_).length), mask_get]
    rfl
  · rw [List.getElem?_eq_none h]; rfl
theorem xr_get (B : List UInt8) (k by_ i : Nat) (hk : k + i < B.length) : (xr B k by_ i)[k + i]? = some B[k + i] := by
  rw [xr_at, if_neg (by omega), List.getElem?_eq_getElem hk]; simp
theorem xr_step (B : List UInt8) (k by_ i : Nat) (hk : k + i < B.length) : (xr B k by_ i).set (k + i) (B[k + i] ^^^ (burst by_).getD i 0) = xr B k by_ (i + 1) := by
  apply List.ext_getElem?
  intro j
  rw [List.getElem?_set, xr_len, xr_at, xr_at]
  by_cases e : k + i = j
  · subst e
    rw [if_pos rfl, if_pos hk, if_pos (by omega), List.getElem?_eq_getElem hk, Nat.add_sub_cancel_left]; rfl
  · rw [if_neg e]
    by_cases hj : k ≤ j ∧ j < k + i
    · rw [if_pos hj, if_pos (by omega)]
    · rw [if_neg hj, if_neg (by omega)]
theorem crc_burst (b : List UInt8) (k m by_ : Nat) (hl : b.length = k + 4 + m) (hb : by_ < 4294967296) :
    (crcN b == crcN (List.zipWith (· ^^^ ·) b (mask k m by_))) = (by_ == 0) := by
  have hml : (mask k m by_).length = k + 4 + m := by simp [mask, burst]; omega
  have hzl : (List.zipWith (· ^^^ ·) b (mask k m by_)).length = b.length := by rw [List.length_zipWith]; omega
  have key : crcReg b ^^^ crcReg (List.zipWith (· ^^^ ·) b (mask k m by_)) = (mask k m by_).foldl crcStep 0 := by
    unfold crcReg
    rw [reg_xor _ _ hzl.symm, Nat.xor_self]
    congr 1
    apply List.ext_getElem
    · rw [List.length_zipWith]; omega
    · intro i h1 h2
      simp only [List.getElem_zipWith]
      rw [← UInt8.xor_assoc, UInt8.xor_self, UInt8.zero_xor]
  have hr1 := crcReg_lt b
  have hr2 := crcReg_lt (List.zipWith (· ^^^ ·) b (mask k m by_))
  generalize List.zipWith (· ^^^ ·) b (mask k m by_) = c at *
  have hk : (mask k m by_).foldl crcStep 0 = 0 ↔ by_ = 0 := by
    unfold mask
    rw [List.foldl_append, List.foldl_append, zeros_reg]
    constructor
    · intro h
      have h1 := zeros_ker m _ (crcReg_lt' _ _ (by decide)) h
      simp only [burst, List.foldl_cons, List.foldl_nil, step_eq, Nat.zero_xor] at h1
      obtain ⟨e0, e1, e2, e3⟩ := four_ker _ _ _ _ (UInt8.toNat_lt _) (UInt8.toNat_lt _) (UInt8.toNat_lt _) (UInt8.toNat_lt _) h1
      simp at e0 e1 e2 e3
      omega
    · rintro rfl
      simp only [burst, List.foldl_cons, List.foldl_nil]
      exact zeros_reg m
  rw [Bool.eq_iff_iff, beq_iff_eq, beq_iff_eq, ← hk, ← key]
  unfold crcN
  constructor
  · intro h
    have : crcReg b = crcReg c := by omega
    rw [this, Nat.xor_self]
  · intro h
    rw [xor_zero_eq h]
end Go.Lw
