/- seq.Span.All, those, Missing: iterators. -/
import Derived.Test.YtbmfnepbdfnlaaaIter
import Derived.Test.YtbmfnepbdfnlaaaStr
import Derived.Test.YtbmfnepbdfnlaaaProg
namespace Go.Proofs.Ytbmfnepbdfnlaaa
open Go Go.RowKit Go.Lw
set_option maxRecDepth 100000
set_option linter.unusedVariables false
set_option linter.unusedSimpArgs false
attribute [local go_sem] Oper.semAt_some
/-- from, from + 1, .. -/
def upto (a n : Nat) : List Nat := (List.range n).map (a + ·)
theorem upto_succ (a n : Nat) : upto a (n + 1) = upto a n ++ [a + n] := by simp [upto, List.range_succ]
theorem upto_pre (a : Nat) {k n : Nat} (h : k ≤ n) : upto a k <+: upto a n := by
  obtain ⟨m, rfl⟩ : ∃ m, n = k + m := ⟨n - k, by omega⟩
  induction m with
  | zero => exact List.prefix_refl _
  | succ m ih => exact (ih (by omega)).trans ⟨[a + (k + m)], (upto_succ a (k + m)).symm⟩
abbrev u32v (n : Nat) : Value := .int .u32 (n : Int)
set_option maxHeartbeats 4000000 in
theorem all1_iter (w : World) (B a n : Nat) (hB : w.heap[B]? = some (.cells #[u32v a, u32v (a + n)] 76 (0, 0))) (hm : a + n < 4294967296) :
    Iter Try.prog 57 #[.pointer (some ⟨B, 0, none⟩)] (fun x : Nat => #[u32v x]) (fun k => k = B) (upto a n) w := by
  intro l J Jx X W hW hX hJ hJx hY h0
  have hBW := hW.heap hB rfl
  have HY := Lw.hid hY
  clear hY
  refine (callsIn_wide (n := 0)).1 (callsIn_of_wp Try.func57 rfl trivial ?_)
  simp only [Try.ntmps57, List.size_toArray, List.length_cons, List.length_nil, Nat.reduceAdd, Nat.reduceSub, Array.replicate_succ, Array.replicate_zero, List.push_toArray, List.append_toArray, List.nil_append, List.cons_append]
  have c0 : W.cell? ⟨B, 0, none⟩ = some (u32v a) := heap_cell hBW 0
  gi_wp2
  gi_loopw [3] (fun p wr => ∃ k : Nat, k ≤ n ∧ p = u32v (a + k) ∧ J X (upto a k) wr ∧ Keeps (fun i => i = B) W wr ∧ (∀ i, X i → i < wr.heap.size)) (fun p _ => a + n - (intOf p).toNat)
  case atStart => exact ⟨0, Nat.zero_le _, rfl, h0, Keeps.refl _ _, hX⟩
  case round =>
    obtain ⟨k, hk, rfl, hjs, hkp, hXr⟩ := hrel
    have hb1 := hkp.heap hBW rfl
    have c1 : wr.cell? ⟨B, 1, none⟩ = some (u32v (a + n)) := heap_cell hb1 1
    by_cases hlt : k < n
    · obtain ⟨fn, tmps, assign, body, hy, hR⟩ := HY.out X (upto a k) (a + k) wr hjs hXr (by rw [← upto_succ]; exact upto_pre a hlt)
      gi_wp2
      refine ⟨rfl, (roundAny hR).mono ?_⟩
      rintro e W3 (⟨rfl, hj3, hk3⟩ | ⟨rfl, hx3, hk3⟩)
      · gi_wp2
        go_roundw
        case rel => exact ⟨k + 1, hlt, by go_num, by rw [upto_succ]; exact hj3, hkp.trans (hk3.mono (fun i h => .inl h)), fun i hi => Nat.lt_of_lt_of_le (hXr i hi) hk3.1⟩
        case measure => simp [intOf]; omega
      · gi_wp2
        refine bodyPost_ret (results_none rfl _ _ _) rfl ?_
        exact ⟨⟨_, rfl⟩, .inr ⟨X, upto a k ++ [a + k], fun i hi => Nat.lt_of_lt_of_le (hXr i hi) hk3.1, fun _ h => h, by rw [← upto_succ]; exact upto_pre a hlt, by simp, hx3⟩⟩
    · obtain rfl : k = n := by omega
      gi_wp2
      go_end0
      exact ⟨⟨_, rfl⟩, .inl ⟨X, hXr, fun _ h => h, hjs⟩⟩
end Go.Proofs.Ytbmfnepbdfnlaaa
