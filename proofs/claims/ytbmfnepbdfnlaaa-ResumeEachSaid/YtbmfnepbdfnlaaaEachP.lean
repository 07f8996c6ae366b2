/- ResumeEach, plain: each id once. -/
import Derived.Test.YtbmfnepbdfnlaaaRef13P
import Derived.Test.YtbmfnepbdfnlaaaMade13
namespace Go.Proofs.Ytbmfnepbdfnlaaa
open Go Go.RowKit Go.Lw
set_option linter.unusedVariables false
theorem mayL_pw {nx : Nat} : ∀ {least : Nat} {l : List Hv}, mayL nx least l = true → l.Pairwise (fun x y => x.id < y.id)
  | _, [], _ => List.Pairwise.nil
  | least, h :: l, hm => by
    have hm' : mayL nx (h.id + 1) l = true := by
      unfold mayL at hm
      split at hm
      · cases hm
      · exact hm
    exact List.Pairwise.cons (fun y hy => by have := (mayL_ids hm' y hy).1; omega) (mayL_pw hm')
theorem has_iff {l : List Hv} {x : Nat} : hasF l x = true ↔ ∃ h ∈ l, h.id = x := by unfold hasF; simp
/-- What the three ranges go through, for one of them that may be. -/
structure Ea (nx n : Nat) (l : List Hv) : Prop where
  may : mayF nx l = true
theorem Ea.pw {nx n : Nat} {l : List Hv} (h : Ea nx n l) : l.Pairwise (fun x y => x.id < y.id) := mayL_pw (mayF_parts h.may).1
theorem Ea.ids {nx n : Nat} {l : List Hv} (h : Ea nx n l) : ∀ x ∈ l, 1 ≤ x.id ∧ x.id < nx := mayL_ids (mayF_parts h.may).1
theorem mem_again {nx n : Nat} {l : List Hv} {x : Nat} (h : x ∈ againF nx n l) : n < x ∧ x < nx := by
  unfold againF at h
  split at h
  · have := mem_upto.1 h; omega
  · simp at h
theorem mem_past {nx n : Nat} {l : List Hv} {x : Nat} (h : x ∈ pastF nx n l) : 1 ≤ x ∧ x ≤ n ∧ hasF l x = false := by
  unfold pastF at h
  split at h
  · obtain ⟨h1, h2⟩ := List.mem_filter.1 h
    have := mem_upto.1 h1
    exact ⟨by omega, by omega, by simpa using h2⟩
  · simp at h
theorem mem_replay {nx n : Nat} {l : List Hv} {x : Hv} (h : x ∈ replayF nx n l) : x ∈ l ∧ x.id ≤ n := by
  unfold replayF at h
  split at h
  · obtain ⟨h1, h2⟩ := List.mem_filter.1 h
    exact ⟨h1, by simpa using h2⟩
  · simp at h
theorem upto_pw (a n : Nat) : (upto a n).Pairwise (· < ·) := by
  unfold upto
  rw [List.pairwise_map]
  exact List.Pairwise.imp (fun h => by omega) List.pairwise_lt_range
theorem again_pw (nx n : Nat) (l : List Hv) : (againF nx n l).Pairwise (· < ·) := by
  unfold againF; split
  · exact upto_pw _ _
  · exact List.Pairwise.nil
theorem past_pw (nx n : Nat) (l : List Hv) : (pastF nx n l).Pairwise (· < ·) := by
  unfold pastF; split
  · exact (upto_pw _ _).filter _
  · exact List.Pairwise.nil
theorem Ea.replay_pw {nx n : Nat} {l : List Hv} (h : Ea nx n l) : ((replayF nx n l).map Hv.id).Pairwise (· < ·) := by
  unfold replayF; split
  · rw [List.pairwise_map]; exact h.pw.filter _
  · exact List.Pairwise.nil
def keysF (nx n : Nat) (l : List Hv) : List Nat := againF nx n l ++ (replayF nx n l).map Hv.id ++ pastF nx n l
/-- The next one of a range. -/
theorem pre_get {α : Type} {pre xs : List α} {x : α} (h : pre ++ [x] <+: xs) : xs[pre.length]? = some x := by
  obtain ⟨t, rfl⟩ := h
  rw [List.append_assoc, List.getElem?_append_right (Nat.le_refl _)]; simp
theorem pre_mem {α : Type} {pre xs : List α} {x : α} (h : pre ++ [x] <+: xs) : x ∈ xs := List.mem_of_getElem? (pre_get h)
theorem pre_lt {pre xs : List Nat} {x : Nat} (h : pre ++ [x] <+: xs) (hp : xs.Pairwise (· < ·)) : ∀ y ∈ pre, y < x := by
  have := List.Pairwise.sublist h.sublist hp
  intro y hy
  exact (List.pairwise_append.1 this).2.2 y hy x (by simp)
theorem again_next {nx n : Nat} {l : List Hv} {pre : List Nat} {x : Nat} (h : pre ++ [x] <+: againF nx n l) : x = n + pre.length + 1 ∧ n < x ∧ x < nx ∧ x ∉ pre := by
  have h1 := pre_get h
  have h2 := mem_again (pre_mem h)
  refine ⟨?_, h2.1, h2.2, fun hm => by have := pre_lt h (again_pw _ _ _) x hm; omega⟩
  unfold againF at h1
  split at h1
  · unfold upto at h1
    rw [List.getElem?_map] at h1
    cases e : (List.range (nx - (n + 1)))[pre.length]? with
    | none => rw [e] at h1; cases h1
    | some i =>
      rw [e] at h1
      have := List.getElem?_eq_some_iff.1 e
      obtain ⟨hl, hi⟩ := this
      rw [List.getElem_range] at hi
      simp only [Option.map_some, Option.some.injEq] at h1
      omega
  · simp at h1
theorem Ea.replay_next {nx n : Nat} {l : List Hv} (e : Ea nx n l) {pre : List Hv} {h : Hv} (hp : pre ++ [h] <+: replayF nx n l) : h ∈ l ∧ h.id ≤ n ∧ h.id ∉ againF nx n l ++ pre.map Hv.id := by
  obtain ⟨h1, h2⟩ := mem_replay (pre_mem hp)
  refine ⟨h1, h2, fun hm => ?_⟩
  rcases List.mem_append.1 hm with hm | hm
  · have := mem_again hm; omega
  · have := pre_lt (pre := pre.map Hv.id) (x := h.id) (by have := hp.map Hv.id; simpa using this) e.replay_pw h.id hm
    omega
theorem Ea.past_next {nx n : Nat} {l : List Hv} (e : Ea nx n l) {pre : List Nat} {x : Nat} (hp : pre ++ [x] <+: pastF nx n l) : pre.getLastD 0 < x ∧ x ≤ n ∧ hasF l x = false ∧ x ∉ againF nx n l ++ (replayF nx n l).map Hv.id ++ pre := by
  obtain ⟨h1, h2, h3⟩ := mem_past (pre_mem hp)
  have hlt := pre_lt hp (past_pw _ _ _)
  refine ⟨?_, h2, h3, fun hm => ?_⟩
  · rcases List.eq_nil_or_concat pre with rfl | ⟨p, y, rfl⟩
    · show 0 < x; omega
    · have := hlt y (by simp)
      simpa using this
  · rcases List.mem_append.1 hm with hm | hm
    · rcases List.mem_append.1 hm with hm | hm
      · have := mem_again hm; omega
      · obtain ⟨y, hy, rfl⟩ := List.mem_map.1 hm
        have := has_iff.2 ⟨y, (mem_replay hy).1, rfl⟩
        rw [h3] at this; cases this
    · have := hlt x hm; omega
/-- Does it fit? As the law finds it. -/
def okF (nx n : Nat) (l : List Hv) : Nat → Bool
  | 0 => decide (n < nx)
  | k + 1 => okF nx n l k && hasF l (n + 1 + k)
theorem ok_iff {nx n : Nat} {l : List Hv} : ∀ k, okF nx n l k = true ↔ n < nx ∧ ∀ x, n < x → x < n + 1 + k → hasF l x = true
  | 0 => by
    unfold okF
    simp only [decide_eq_true_eq]
    exact ⟨fun h => ⟨h, fun x h1 h2 => by omega⟩, fun h => h.1⟩
  | k + 1 => by
    unfold okF
    rw [Bool.and_eq_true, ok_iff k]
    constructor
    · rintro ⟨⟨h1, h2⟩, h3⟩
      refine ⟨h1, fun x hx hx2 => ?_⟩
      by_cases e : x = n + 1 + k
      · rw [e]; exact h3
      · exact h2 x hx (by omega)
    · rintro ⟨h1, h2⟩
      exact ⟨⟨h1, fun x hx hx2 => h2 x hx (by omega)⟩, h2 _ (by omega) (by omega)⟩
theorem Ea.ok {nx n : Nat} {l : List Hv} (h : Ea nx n l) : okF nx n l (nx - (n + 1)) = decide (fitsF nx n l = 0) := by
  have hz : fitsF nx n l = 0 ↔ n < nx ∧ missF nx n l = [] := by
    unfold fitsF
    rw [if_neg (by rw [h.may]; simp)]
    by_cases h1 : nx ≤ n
    · rw [if_pos h1]; simp; omega
    · rw [if_neg h1]
      by_cases h2 : missF nx n l = []
      · rw [if_pos h2]; simp [h2]; omega
      · rw [if_neg h2]; simp [h2]
  have hm : n < nx → (missF nx n l = [] ↔ ∀ x, n < x → x < n + 1 + (nx - (n + 1)) → hasF l x = true) := fun hn => by
    unfold missF
    rw [List.filter_eq_nil_iff]
    constructor
    · intro h x h1 h2
      have := h x (mem_upto.2 ⟨by omega, h2⟩)
      simpa using this
    · intro h x hx
      obtain ⟨h1, h2⟩ := mem_upto.1 hx
      simp [h x (by omega) h2]
  rw [Bool.eq_iff_iff, ok_iff, decide_eq_true_eq, hz]
  constructor
  · rintro ⟨h1, h2⟩; exact ⟨h1, (hm h1).2 h2⟩
  · rintro ⟨h1, h2⟩; exact ⟨h1, (hm h1).1 h2⟩
theorem keys_none {nx n : Nat} {l : List Hv} (h : fitsF nx n l ≠ 0) : keysF nx n l = [] := by
  unfold keysF againF replayF pastF; simp [h]
theorem Ea.mem {nx n : Nat} {l : List Hv} (h : Ea nx n l) (hf : fitsF nx n l = 0) {x : Nat} : x ∈ keysF nx n l ↔ 1 ≤ x ∧ x < nx := by
  have hn := (fits0 hf).1
  unfold keysF
  constructor
  · intro hm
    rcases List.mem_append.1 hm with hm | hm
    · rcases List.mem_append.1 hm with hm | hm
      · have := mem_again hm; omega
      · obtain ⟨y, hy, rfl⟩ := List.mem_map.1 hm
        exact h.ids y (mem_replay hy).1
    · have := mem_past hm; omega
  · rintro ⟨h1, h2⟩
    by_cases hx : n < x
    · exact List.mem_append_left _ (List.mem_append_left _ (by unfold againF; rw [if_pos hf]; exact mem_upto.2 ⟨by omega, by omega⟩))
    · cases e : hasF l x with
      | true =>
        obtain ⟨y, hy, rfl⟩ := has_iff.1 e
        refine List.mem_append_left _ (List.mem_append_right _ (List.mem_map.2 ⟨y, ?_, rfl⟩))
        unfold replayF; rw [if_pos hf]
        exact List.mem_filter.2 ⟨hy, by simp; omega⟩
      | false =>
        refine List.mem_append_right _ ?_
        unfold pastF; rw [if_pos hf]
        exact List.mem_filter.2 ⟨mem_upto.2 ⟨h1, by omega⟩, by simp [e]⟩
theorem Ea.nodup {nx n : Nat} {l : List Hv} (h : Ea nx n l) : (keysF nx n l).Nodup := by
  unfold keysF
  refine List.nodup_append.2 ⟨List.nodup_append.2 ⟨(again_pw _ _ _).imp (fun h => by omega), h.replay_pw.imp (fun h => by omega), ?_⟩, (past_pw _ _ _).imp (fun h => by omega), ?_⟩
  · intro a ha b hb e
    obtain ⟨y, hy, rfl⟩ := List.mem_map.1 hb
    have := mem_again ha; have := (mem_replay hy).2; omega
  · intro a ha b hb e
    subst e
    obtain ⟨h1, h2, h3⟩ := mem_past hb
    rcases List.mem_append.1 ha with hm | hm
    · have := mem_again hm; omega
    · obtain ⟨y, hy, rfl⟩ := List.mem_map.1 hm
      have := has_iff.2 ⟨y, (mem_replay hy).1, rfl⟩
      rw [h3] at this; cases this
theorem Ea.len {nx n : Nat} {l : List Hv} (h : Ea nx n l) (hf : fitsF nx n l = 0) : (keysF nx n l).length = nx - 1 := by
  have hp : (keysF nx n l).Perm (upto 1 (nx - 1)) := (List.perm_ext_iff_of_nodup h.nodup ((upto_pw _ _).imp (fun h => by omega))).2 (fun x => by
    rw [h.mem hf, mem_upto]; have := (fits0 hf).1; omega)
  rw [hp.length_eq]; simp [upto]
theorem Ea.klen {nx n : Nat} {l : List Hv} (h : Ea nx n l) : (keysF nx n l).length ≤ nx := by
  by_cases hf : fitsF nx n l = 0
  · rw [h.len hf]; omega
  · rw [keys_none hf]; simp
end Go.Proofs.Ytbmfnepbdfnlaaa
