/- ArithNumbers: what the walk asks. -/
import Derived.Test.YtoedopgjonhemaaDoorANumbers1
import Derived.Test.YtoedopgjonhemaaDoorANumbersI
namespace Go.Proofs.YtoedopgjonhemaaDoor
open Go Go.RowKit Go.Lw
set_option maxRecDepth 100000
set_option linter.unusedVariables false
set_option linter.unusedSimpArgs false
attribute [local go_sem] BA_toList
theorem wantF_12 (a b : Int) : wantF [43] a b = (binF [43] a b).1 := by unfold wantF; rw [if_neg (by decide), if_neg (by decide)]
theorem wantF_13 (a b : Int) : wantF [45] a b = (binF [45] a b).1 := by unfold wantF; rw [if_neg (by decide), if_neg (by decide)]
theorem wantF_14 (a b : Int) : wantF [42] a b = (binF [42] a b).1 := by unfold wantF; rw [if_neg (by decide), if_neg (by decide)]
theorem wantF_3 (a b : Int) : wantF [38] a b = (binF [38] a b).1 := by unfold wantF; rw [if_neg (by decide), if_neg (by decide)]
theorem wantF_1 (a b : Int) : wantF [124] a b = (binF [124] a b).1 := by unfold wantF; rw [if_neg (by decide), if_neg (by decide)]
theorem wantF_2 (a b : Int) : wantF [94] a b = (binF [94] a b).1 := by unfold wantF; rw [if_neg (by decide), if_neg (by decide)]
theorem wantF_6 (a b : Int) : wantF [60] a b = (binF [60] a b).1 := by unfold wantF; rw [if_neg (by decide), if_neg (by decide)]
theorem wantF_7 (a b : Int) : wantF [60, 61] a b = (binF [60, 61] a b).1 := by unfold wantF; rw [if_neg (by decide), if_neg (by decide)]
theorem wantF_8 (a b : Int) : wantF [62] a b = (binF [62] a b).1 := by unfold wantF; rw [if_neg (by decide), if_neg (by decide)]
theorem wantF_9 (a b : Int) : wantF [62, 61] a b = (binF [62, 61] a b).1 := by unfold wantF; rw [if_neg (by decide), if_neg (by decide)]
theorem wantF_4 (a b : Int) : wantF [61, 61] a b = (binF [61, 61] a b).1 := by unfold wantF; rw [if_neg (by decide), if_neg (by decide)]
theorem wantF_5 (a b : Int) : wantF [33, 61] a b = (binF [33, 61] a b).1 := by unfold wantF; rw [if_neg (by decide), if_neg (by decide)]
theorem wantF_and {a b : Int} {pa pb : Bool} (h1 : (a != 0) = pa) (h2 : (b != 0) = pb) : wantF [38, 38] a b = truthI (pa && pb) := by
  unfold wantF
  have e1 : (a != 0) = decide (a ≠ 0) := by by_cases h : a = 0 <;> simp [h]
  have e2 : (b != 0) = decide (b ≠ 0) := by by_cases h : b = 0 <;> simp [h]
  rw [if_pos rfl, ← h1, ← h2, e1, e2]
  by_cases ha : a = 0 <;> by_cases hb : b = 0 <;> simp [ha, hb]
theorem wantF_or {a b : Int} {pa pb : Bool} (h1 : (a != 0) = pa) (h2 : (b != 0) = pb) : wantF [124, 124] a b = truthI (pa || pb) := by
  unfold wantF
  have e1 : (a != 0) = decide (a ≠ 0) := by by_cases h : a = 0 <;> simp [h]
  have e2 : (b != 0) = decide (b ≠ 0) := by by_cases h : b = 0 <;> simp [h]
  rw [if_neg (by decide), if_pos rfl, ← h1, ← h2, e1, e2]
  by_cases ha : a = 0 <;> by_cases hb : b = 0 <;> simp [ha, hb]
def wlN (a b : Int) : List (List UInt8 × Value) := sgsN.reverse.map fun g => (g, Value.int .i64 (wantF g a b))
theorem wlN_eq (a b : Int) : wlN a b = [([124, 124], .int .i64 (wantF [124, 124] a b)), ([38, 38], .int .i64 (wantF [38, 38] a b)), ([33, 61], .int .i64 (wantF [33, 61] a b)), ([61, 61], .int .i64 (wantF [61, 61] a b)), ([62, 61], .int .i64 (wantF [62, 61] a b)), ([62], .int .i64 (wantF [62] a b)), ([60, 61], .int .i64 (wantF [60, 61] a b)), ([60], .int .i64 (wantF [60] a b)), ([94], .int .i64 (wantF [94] a b)), ([124], .int .i64 (wantF [124] a b)), ([38], .int .i64 (wantF [38] a b)), ([42], .int .i64 (wantF [42] a b)), ([45], .int .i64 (wantF [45] a b)), ([43], .int .i64 (wantF [43] a b))] := rfl
theorem wlN_mem {a b : Int} {ks : List UInt8} {v : Value} (h : assocS (wlN a b) ks = some v) : ks ∈ sgsN ∧ v = .int .i64 (wantF ks a b) := by
  have := assocS_mem h
  obtain ⟨g, hg, e⟩ := List.mem_map.1 this
  cases e
  exact ⟨List.mem_reverse.1 hg, rfl⟩
theorem sgs_len {g : List UInt8} (h : g ∈ sgsN) : g.length ≤ 2 := by
  have key : sgsN.all (fun g => decide (g.length ≤ 2)) = true := by decide +kernel
  exact of_decide_eq_true (List.all_eq_true.1 key g h)
theorem txS_len (a : Int) (h : In64 a) : (txS a).length ≤ 30 := by
  have := Lib.itoa_length_le a h.1 h.2
  unfold txS
  split
  · decide
  · simp only [List.length_cons, List.length_append, List.length_nil]; omega
theorem consV {g : List UInt8} {x y : Int} {l r : List (List UInt8 × Value)} (h : x = y) (k : l = r) : (g, Value.int .i64 x) :: l = (g, Value.int .i64 y) :: r := by subst h; subst k; rfl
theorem srange_eq {W0 w : World} {P : Program} {k : TypeId} {b r n cnt : Nat} {l l' : List (List UInt8 × Value)} (h : SRange W0 w P k b r n l cnt) (e : l = l') : SRange W0 w P k b r n l' cnt := by subst e; exact h
end Go.Proofs.YtoedopgjonhemaaDoor
