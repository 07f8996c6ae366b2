/- A buffer of bytes that is filled from the front. -/
import Derived.Test.YtoedopgjonhemaaGreatDoorReplP
import Derived.Test.YtoedopgjonhemaaGreatDoorStr
import Derived.Test.YtoedopgjonhemaaGreatDoorCopy
namespace Go.Proofs.YtoedopgjonhemaaGreatDoor
open Go Go.RowKit Go.Lw
set_option linter.unusedVariables false
set_option linter.unusedSimpArgs false
/-- What a buffer of N bytes holds, whose front is P. -/
def bfB (P : List UInt8) (N : Nat) : List UInt8 := P ++ List.replicate (N - P.length) 0
theorem bfB_len {P : List UInt8} {N : Nat} (h : P.length ≤ N) : (bfB P N).length = N := by unfold bfB; rw [List.length_append, List.length_replicate]; omega
theorem bfB_full {P : List UInt8} {N : Nat} (h : P.length = N) : bfB P N = P := by unfold bfB; rw [h, Nat.sub_self]; simp
theorem bfB_copy {P news : List UInt8} {N : Nat} (h : P.length + news.length ≤ N) : (bfB P N).take P.length ++ (news ++ (bfB P N).drop (P.length + news.length)) = bfB (P ++ news) N := by
  unfold bfB
  rw [List.take_left, List.drop_append, List.length_append, List.append_assoc]
  congr 1
  congr 1
  rw [List.drop_eq_nil_of_le (by omega), List.nil_append, List.drop_replicate]
  congr 1
  omega
theorem bfB_set {P : List UInt8} {N : Nat} (c : UInt8) (h : P.length < N) : (bfB P N).set P.length c = bfB (P ++ [c]) N := by
  unfold bfB
  obtain ⟨k, hk⟩ : ∃ k, N - P.length = k + 1 := ⟨N - P.length - 1, by omega⟩
  rw [hk, List.replicate_succ, List.set_append, if_neg (by omega), Nat.sub_self, List.set_cons_zero, List.length_append, List.length_cons, List.length_nil, show N - (P.length + (0 + 1)) = k by omega, List.append_assoc]
  rfl
/-- Block bb is a buffer. -/
def BufAt (w : World) (bb N : Nat) (l : List UInt8) : Prop := ∃ A : Array Value, w.heap[bb]? = some (.cells A 5 (0, 0)) ∧ A.toList = l.map bv ∧ l.length = N
theorem buf_of_own {w : World} {bb N : Nat} {l : List UInt8} (hN : l.length = N) (h : w.ownsRow 0 5 1 (.slice (some ⟨bb, 0, none⟩) N N) N (l.map bv)) : BufAt w bb N l := by
  obtain ⟨h0, h1⟩ := h
  rcases h1 with ⟨e, _⟩ | ⟨g, cap, cur, e, _, hg, _, _, hs, ht⟩
  · cases e
  · cases e
    refine ⟨cur, hg, ?_, hN⟩
    rw [← ht, List.take_of_length_le (by simp; omega)]
theorem own_of_buf {w : World} {bb N : Nat} {l : List UInt8} (hN : N ≤ maxLen) (h : BufAt w bb N l) : w.ownsRow 0 5 1 (.slice (some ⟨bb, 0, none⟩) N N) N (l.map bv) := by
  obtain ⟨A, h1, h2, h3⟩ := h
  have hl : A.size = N := by rw [← Array.length_toList, h2, List.length_map, h3]
  refine ⟨by simp [h3], .inr ⟨bb, N, A, rfl, Nat.zero_le _, h1, Nat.le_refl _, hN, by omega, ?_⟩⟩
  rw [h2, List.take_of_length_le (by simp [h3])]
theorem buf_cell {w : World} {bb N : Nat} {l : List UInt8} (h : BufAt w bb N l) (j : Nat) (hj : j < N) : ∃ x, w.cell? ⟨bb, j, none⟩ = some x := by
  obtain ⟨A, h1, h2, h3⟩ := h
  have hl : A.size = N := by rw [← Array.length_toList, h2, List.length_map, h3]
  exact ⟨A[j]'(by omega), (heap_cell h1 j).trans (Array.getElem?_eq_getElem (by omega))⟩
theorem buf_free {w : World} {bb N : Nat} {l : List UInt8} (h : BufAt w bb N l) (j : Nat) : w.frozen? ⟨bb, j, none⟩ = false := by
  obtain ⟨A, h1, h2, h3⟩ := h
  exact heap_free h1 j
theorem buf_set {w : World} {bb N : Nat} {l : List UInt8} (h : BufAt w bb N l) (j : Nat) (c : UInt8) : BufAt (w.setCell ⟨bb, j, none⟩ (bv c)) bb N (l.set j c) := by
  obtain ⟨A, h1, h2, h3⟩ := h
  refine ⟨A.setIfInBounds j (bv c), heap_set h1 j _, ?_, by rw [List.length_set, h3]⟩
  rw [Array.toList_setIfInBounds, h2, List.map_set]
theorem buf_kept {S : Nat → Prop} {w w' : World} {bb N : Nat} {l : List UInt8} (h : BufAt w bb N l) (k : Kept S w w') (hb : ¬ S bb) : BufAt w' bb N l := by
  obtain ⟨A, h1, h2, h3⟩ := h
  exact ⟨A, k.heap h1 hb, h2, h3⟩
theorem made_bufB (n : Nat) : (madeCells (Value.cells (.int .u8 0)) (n * 1)).toList = (bfB [] n).map bv := by
  rw [Nat.mul_one, show Value.cells (.int .u8 0) = #[.int .u8 0] from rfl]
  unfold bfB
  apply List.ext_getElem
  · simp [madeCells]
  · intro i h1 h2
    simp [madeCells, bv, Nat.mod_one]
end Go.Proofs.YtoedopgjonhemaaGreatDoor
