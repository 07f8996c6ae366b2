/- Chapter 13's closed statement, plain. -/
import Derived.Test.YtbmfnepbdfnlaaaBack13P
namespace Go.Proofs.Ytbmfnepbdfnlaaa
open Go Go.RowKit Go.Lw
def oneL : List Hv := [⟨2, 258, 1, true⟩]
def oneB : List UInt8 := [0, 0, 0, 3, 1, 0, 0, 0, 2, 0, 0, 1, 2, 0, 0, 0, 1, 1]
theorem oneL_ok : ∀ h ∈ oneL, h.ok := by
  intro h hh
  simp only [oneL, List.mem_singleton] at hh
  subst hh; exact ⟨by decide, by decide, by decide⟩
theorem one_bytes : bytesF 3 oneL = (oneB, 0) := by decide
theorem one_odd : parseF (oneB.set 17 2) = (0, [], 5) := by decide
theorem nil_parse : parseF [] = (0, [], 4) := by decide
theorem zero_parse : parseF [0, 0, 0, 0, 0] = (0, [], 5) := by decide
theorem one_fits3 : fitsF 3 3 oneL = 5 := by decide
theorem one_fits0 : fitsF 3 0 oneL = 6 := by decide
theorem one_fits1 : fitsF 3 1 oneL = 0 := by decide
def zH : Hv := ⟨0, 0, 0, false⟩
def badL : List (Nat × List Hv) := [(0, []), (2, [⟨0, 0, 0, false⟩]), (2, [⟨2, 0, 0, false⟩]), (9, [⟨3, 0, 0, false⟩, ⟨3, 0, 0, false⟩]), (9, [⟨3, 0, 0, false⟩, ⟨2, 0, 0, false⟩]), (99, List.replicate 17 zH)]
theorem bad_may : ∀ p ∈ badL, mayF p.1 p.2 = false := by decide
theorem bad_bytes {nx : Nat} {l : List Hv} (h : mayF nx l = false) : bytesF nx l = ([], 1) := by unfold bytesF; rw [if_neg (by rw [h]; simp)]
theorem bad_fits {nx last : Nat} {l : List Hv} (h : mayF nx l = false) : fitsF nx last l = 1 := by unfold fitsF; rw [if_pos h]
def fullL : List Hv := (List.range 16).map fun k => ⟨4294967279 + k, 4294967295, 0, false⟩
theorem full_ok : ∀ h ∈ fullL, h.ok := by
  intro h hh
  unfold fullL at hh
  obtain ⟨k, hk, rfl⟩ := List.mem_map.1 hh
  have := List.mem_range.1 hk
  exact ⟨by simp; omega, by simp, by simp⟩
theorem full_may : mayF 4294967295 fullL = true := by decide +kernel
theorem full_len : fullL.length = 16 := by decide
theorem full_bytes : bytesF 4294967295 fullL = (askB 4294967295 fullL, 0) := by unfold bytesF; rw [if_pos full_may]
theorem full_blen : (askB 4294967295 fullL).length = 213 := by rw [askB_len, full_len]
theorem full_fits : fitsF 4294967295 4294967278 fullL = 0 := by rw [fits_ref full_may (by decide), if_pos (by decide +kernel)]
theorem full_fits1 : fitsF 4294967295 4294967294 fullL = 0 := by rw [fits_ref full_may (by decide), if_pos (by decide +kernel)]
theorem full_fits2 : fitsF 4294967295 4294967295 fullL = 5 := by unfold fitsF; rw [if_neg (by rw [full_may]; simp), if_pos (by decide)]
theorem full_again : ((againF 4294967295 4294967278 fullL).take 99).length = 16 := by unfold againF; rw [if_pos full_fits]; simp [upto]
theorem full_past : 4 ≤ (pastF 4294967295 4294967278 fullL).length := by
  unfold pastF
  rw [if_pos full_fits]
  have h1 : upto 1 4 <+: upto 1 4294967278 := upto_pre 1 (by decide)
  have h2 := (filter_pre (fun x => !hasF fullL x) h1).length_le
  have h3 : ((upto 1 4).filter fun x => !hasF fullL x).length = 4 := by decide +kernel
  omega
theorem empty_fits : fitsF 1 0 [] = 0 := by decide
end Go.Proofs.Ytbmfnepbdfnlaaa
