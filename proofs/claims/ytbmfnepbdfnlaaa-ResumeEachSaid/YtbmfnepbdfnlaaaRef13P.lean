/- Chapter 13, plain: what the document's own answers are. -/
import Derived.Test.YtbmfnepbdfnlaaaRWakes
namespace Go.Proofs.Ytbmfnepbdfnlaaa
open Go Go.RowKit Go.Lw
theorem mayL_ids {nx : Nat} : ∀ {least : Nat} {l : List Hv}, mayL nx least l = true → ∀ h ∈ l, least ≤ h.id ∧ h.id < nx
  | least, [], _, h, hh => by cases hh
  | least, t :: l, hm, h, hh => by
    unfold mayL at hm
    split at hm
    · cases hm
    · rename_i hc
      rcases List.mem_cons.1 hh with rfl | hh
      · omega
      · have := mayL_ids hm h hh
        omega
theorem upto_cons (a n : Nat) : upto a (n + 1) = a :: upto (a + 1) n := by
  unfold upto
  rw [List.range_succ_eq_map, List.map_cons, List.map_map]
  congr 1
  apply List.map_congr_left
  intro x _
  show a + (x + 1) = a + 1 + x
  omega
theorem hasF_cons (h : Hv) (l : List Hv) (x : Nat) : hasF (h :: l) x = (decide (h.id = x) || hasF l x) := by unfold hasF; simp
def aboveL (last : Nat) (l : List Hv) : List Hv := l.filter fun h => decide (last < h.id)
theorem above_cov {nx last : Nat} : ∀ {least : Nat} {l : List Hv}, mayL nx least l = true → ∀ a, a = max least (last + 1) → a ≤ nx →
    (aboveL last l).length ≤ nx - a ∧ ((aboveL last l).length = nx - a → (∀ x, a ≤ x → x < nx → hasF l x = true) ∧ (aboveL last l).map Hv.id = upto a (nx - a)) ∧ ((∀ x, a ≤ x → x < nx → hasF l x = true) → (aboveL last l).length = nx - a)
  | least, [], _, a, ha, hle => by
    refine ⟨by simp [aboveL], fun h => ?_, fun h => ?_⟩
    · have : nx - a = 0 := by simpa [aboveL] using h.symm
      exact ⟨fun x h1 h2 => by omega, by rw [this]; rfl⟩
    · by_cases hn : a < nx
      · have := h a (Nat.le_refl _) hn
        simp [hasF] at this
      · simp [aboveL]; omega
  | least, t :: l, hm, a, ha, hle => by
    have hids := mayL_ids hm
    unfold mayL at hm
    split at hm
    · cases hm
    · rename_i hc
      by_cases ht : last < t.id
      · have hta : a ≤ t.id := by omega
        have hab : aboveL last (t :: l) = t :: aboveL last l := by unfold aboveL; rw [List.filter_cons_of_pos (by simpa using ht)]
        obtain ⟨i1, i2, i3⟩ := above_cov (last := last) hm (t.id + 1) (by omega) (by omega)
        rw [hab]
        refine ⟨by simp; omega, fun h => ?_, fun h => ?_⟩
        · have h1 : a = t.id := by simp at h; omega
          subst h1
          obtain ⟨j1, j2⟩ := i2 (by simp at h; omega)
          refine ⟨fun x h1 h2 => ?_, ?_⟩
          · rw [hasF_cons]
            by_cases e : t.id = x
            · simp [e]
            · rw [j1 x (by omega) h2]; simp
          · rw [List.map_cons, j2, show nx - t.id = (nx - (t.id + 1)) + 1 by omega, upto_cons]
        · have h1 : a = t.id := by
            by_cases e : a = t.id
            · exact e
            · have h2 := h a (Nat.le_refl _) (by omega)
              rw [hasF_cons, decide_eq_false (by omega), Bool.false_or] at h2
              unfold hasF at h2
              rw [List.any_eq_true] at h2
              obtain ⟨u, hu, he⟩ := h2
              have := mayL_ids hm u hu
              simp at he
              omega
          subst h1
          have := i3 (fun x h1 h2 => by
            have h3 := h x (by omega) h2
            rw [hasF_cons, decide_eq_false (by omega), Bool.false_or] at h3
            exact h3)
          simp; omega
      · have hab : aboveL last (t :: l) = aboveL last l := by unfold aboveL; rw [List.filter_cons_of_neg (by simpa using ht)]
        obtain ⟨i1, i2, i3⟩ := above_cov (last := last) hm a (by omega) hle
        have hx : ∀ x, a ≤ x → hasF (t :: l) x = hasF l x := fun x h1 => by rw [hasF_cons, decide_eq_false (by omega), Bool.false_or]
        rw [hab]
        refine ⟨i1, fun h => ?_, fun h => i3 (fun x h1 h2 => by rw [← hx x h1]; exact h x h1 h2)⟩
        obtain ⟨j1, j2⟩ := i2 h
        exact ⟨fun x h1 h2 => by rw [hx x h1]; exact j1 x h1 h2, j2⟩
theorem mem_upto {a n x : Nat} : x ∈ upto a n ↔ a ≤ x ∧ x < a + n := by
  unfold upto
  rw [List.mem_map]
  constructor
  · rintro ⟨y, hy, rfl⟩
    have := List.mem_range.1 hy
    omega
  · rintro ⟨h1, h2⟩
    exact ⟨x - a, List.mem_range.2 (by omega), by omega⟩
theorem mayF_parts {nx : Nat} {l : List Hv} (h : mayF nx l = true) : mayL nx 1 l = true ∧ 0 < nx ∧ l.length ≤ 16 := by
  unfold mayF at h
  simp only [Bool.and_eq_true, decide_eq_true_eq] at h
  exact ⟨h.1.1, h.1.2, h.2⟩
/-- The document's Fits, in its own words. -/
theorem fits_ref {nx last : Nat} {l : List Hv} (hm : mayF nx l = true) (hl : last < nx) : fitsF nx last l = if (aboveL last l).length = nx - 1 - last then 0 else 6 := by
  obtain ⟨h1, h2, _⟩ := mayF_parts hm
  obtain ⟨i1, i2, i3⟩ := above_cov (last := last) h1 (last + 1) (by omega) (by omega)
  have hi : missF nx last l = [] ↔ (aboveL last l).length = nx - 1 - last := by
    rw [show nx - 1 - last = nx - (last + 1) by omega]
    unfold missF
    rw [List.filter_eq_nil_iff]
    constructor
    · intro h
      refine i3 (fun x hx hxn => ?_)
      have := h x (mem_upto.2 ⟨hx, by omega⟩)
      simpa using this
    · intro h x hx
      obtain ⟨a, b⟩ := mem_upto.1 hx
      rw [(i2 h).1 x a (by omega)]
      simp
  unfold fitsF
  rw [if_neg (by rw [hm]; simp), if_neg (by omega)]
  by_cases e : missF nx last l = []
  · rw [if_pos e, if_pos (hi.1 e)]
  · rw [if_neg e, if_neg (fun h => e (hi.2 h))]
theorem again_ref {nx last : Nat} {l : List Hv} (h : fitsF nx last l = 0) : (aboveL last l).map Hv.id = againF nx last l := by
  obtain ⟨hl, hm⟩ := fits0 h
  have hf := h
  rw [fits_ref hm hl] at h
  have hc : (aboveL last l).length = nx - 1 - last := by
    by_cases e : (aboveL last l).length = nx - 1 - last
    · exact e
    · rw [if_neg e] at h; cases h
  obtain ⟨h1, h2, _⟩ := mayF_parts hm
  obtain ⟨i1, i2, i3⟩ := above_cov (last := last) h1 (last + 1) (by omega) (by omega)
  rw [(i2 (by omega)).2]
  unfold againF
  rw [if_pos hf]
theorem again_len {nx last : Nat} {l : List Hv} : (againF nx last l).length ≤ l.length := by
  by_cases h : fitsF nx last l = 0
  · rw [← again_ref h, List.length_map]; exact List.length_filter_le _ _
  · unfold againF; rw [if_neg h]; simp
end Go.Proofs.Ytbmfnepbdfnlaaa
