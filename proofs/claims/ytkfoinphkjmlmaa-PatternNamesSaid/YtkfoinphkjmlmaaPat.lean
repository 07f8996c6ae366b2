/- package pattern: one, taken. -/
import Derived.Test.YtkfoinphkjmlmaaChecked
import Derived.Test.YtkfoinphkjmlmaaStr
namespace Go.Proofs.Ytkfoinphkjmlmaa
open Go Go.RowKit Go.Lw
set_option maxRecDepth 100000
/-- A block is a set of bytes. -/
def SetAt (w : World) (g : Nat) (f : Nat → Bool) : Prop := ∃ A : Array Value, w.heap[g]? = some (.cells A 45 (0, 0)) ∧ A.size = 256 ∧ ∀ i, i < 256 → A[i]? = some (.bool (f i))
theorem SetAt.kept {S : Nat → Prop} {w w' : World} {g : Nat} {f : Nat → Bool} (h : SetAt w g f) (k : Kept S w w') (hg : ¬ S g) : SetAt w' g f := by
  obtain ⟨A, h1, h2, h3⟩ := h
  exact ⟨A, k.heap h1 hg, h2, h3⟩
theorem SetAt.cell {w : World} {g : Nat} {f : Nat → Bool} (h : SetAt w g f) (i : Nat) (hi : i < 256) : w.cell? ⟨g, i, none⟩ = some (.bool (f i)) := by
  obtain ⟨A, h1, h2, h3⟩ := h
  rw [heap_cell h1]; exact h3 i hi
theorem SetAt.free {w : World} {g : Nat} {f : Nat → Bool} (h : SetAt w g f) (i : Nat) : w.frozen? ⟨g, i, none⟩ = false := by
  obtain ⟨A, h1, h2, h3⟩ := h
  exact heap_free h1 i
theorem SetAt.lt {w : World} {g : Nat} {f : Nat → Bool} (h : SetAt w g f) : g < w.heap.size := by
  obtain ⟨A, h1, _⟩ := h
  exact heap_lt h1
theorem SetAt.stored {w : World} {g : Nat} {f : Nat → Bool} (h : SetAt w g f) (c : Nat) (b : Bool) (hc : c < 256) : SetAt (w.setCell ⟨g, c, none⟩ (.bool b)) g (fun i => if i = c then b else f i) := by
  obtain ⟨A, h1, h2, h3⟩ := h
  refine ⟨_, heap_set h1 c (.bool b), by simpa using h2, fun i hi => ?_⟩
  by_cases e : c = i
  · subst e
    simp [h2, hc]
  · rw [Array.getElem?_setIfInBounds_ne e, h3 i hi]
    simp only [if_neg (Ne.symm e)]
theorem SetAt.new {w : World} {A : Array Value} {f : Nat → Bool} (h2 : A.size = 256) (h3 : ∀ i, i < 256 → A[i]? = some (.bool (f i))) : SetAt (w.alloc (.cells A 45)) w.heap.size f := ⟨A, heap_alloc _ _, h2, h3⟩
/-- The zero set. -/
theorem zero_set : ∃ Z : Array Value, Z.size = 256 ∧ (∀ i, i < 256 → Z[i]? = some (.bool false)) ∧ ∀ w, (zeroValue 45).run Try.prog w = .ok (.agg Z) w := by
  refine ⟨Array.replicate 256 (.bool false), by simp, fun i hi => by simp [hi], fun w => ?_⟩
  kernel_rfl
set_option maxHeartbeats 1000000 in
theorem one_any (w : World) (c : Nat) (hc : c < 256) :
    Calls Try.prog 23 #[.int .u8 (c : Int)] w fun e w' => ∃ g, e = .returned (.agg #[.bool false, .pointer (some ⟨g, 0, none⟩), .bool true]) ∧ SetAt w' g (fun i => if i = c then true else false) ∧ Kept (fun _ => False) w w' ∧ w.heap.size ≤ g := by
  obtain ⟨Z, hz1, hz2, hz3⟩ := zero_set
  have hz4 := hz2 c hc
  have HZ1 := Lw.hid hz1; have HZ2 := Lw.hid hz2
  clear hz1 hz2
  go_enter Try.func23, Try.ntmps23
  go_wp2_with fail
  have h1 := SetAt.new (w := w.alloc (.cells #[.bool false, .pointer (some ⟨w.heap.size + 1, 0, none⟩), .bool true] 44)) (A := Z.setIfInBounds c (.bool true)) (f := fun i => if i = c then true else false) (by simpa using HZ1.out) (fun i hi => by
    by_cases e : c = i
    · subst e; simp [HZ1.out, hc]
    · rw [Array.getElem?_setIfInBounds_ne e, HZ2.out i hi]; simp only [if_neg (Ne.symm e)])
  have h2 := h1.kept ((Kept.refl (fun _ => False) _).alloc (.cells #[.bool false, .pointer (some ⟨w.heap.size + 1, 0, none⟩), .bool true] 44)) (fun h => h)
  rw [World.size_alloc] at h2
  exact bodyPost_ret (v := .agg #[.bool false, .pointer (some ⟨w.heap.size + 1, 0, none⟩), .bool true]) (by simp [results, go_sem]) rfl
    ⟨w.heap.size + 1, rfl, h2, (((Kept.refl _ w).alloc _).alloc _).alloc _, by omega⟩
/-- A byte, perhaps behind a backslash, from the front. -/
def takenF (c : UInt8) : List UInt8 → UInt8 × List UInt8
  | [] => (c, [])
  | d :: l => if c.toNat = 92 then (d, l) else (c, d :: l)
theorem takenF_len (c : UInt8) (l : List UInt8) : (takenF c l).2.length ≤ l.length := by
  cases l with
  | nil => exact Nat.le_refl _
  | cons d l => by_cases h : c.toNat = 92 <;> simp [takenF, h]
set_option maxHeartbeats 1000000 in
theorem taken_any (w : World) (c : UInt8) (l : List UInt8) (hl : l.length ≤ 1000000) :
    Calls Try.prog 22 #[.string (BA (c :: l))] w fun e w' => e = .returned (.tuple #[.int .u8 ((takenF c l).1.toNat : Int), .string (BA (takenF c l).2)]) ∧ Kept (fun _ => False) w w' := by
  cases l with
  | nil =>
    have hs : (BA [c]).size = 1 := BA_size _
    have g0 := BA_get (l := [c]) (k := 0) rfl
    have e1 := BA_tail [c] 1 1 rfl
    simp only [List.drop_succ_cons, List.drop_zero] at e1
    go_enter Try.func22, Try.ntmps22
    go_wp2_with fail
    go_quiet (fail)
    go_wp2_with fail
    go_ret2
    exact ⟨rfl, kept_drewN' _ _⟩
  | cons d l =>
    have hs : (BA (c :: d :: l)).size = l.length + 2 := BA_size _
    have g0 := BA_get (l := c :: d :: l) (k := 0) rfl
    have g1 := BA_get (l := c :: d :: l) (k := 1) rfl
    have e2 := BA_tail (c :: d :: l) 2 (l.length + 2) rfl
    have e1 := BA_tail (c :: d :: l) 1 (l.length + 2) rfl
    simp only [List.drop_succ_cons, List.drop_zero] at e1 e2
    by_cases hc : c.toNat = 92
    · have HF : Hid (takenF c (d :: l) = (d, l)) := Lw.hid (if_pos hc)
      have h : ((c.toNat : Int) == 92) = true := by rw [hc]; rfl
      clear hc
      go_enter Try.func22, Try.ntmps22
      go_wp2_with fail
      go_quiet (fail)
      go_wp2_with fail
      go_ret2
      rw [HF.out]
      exact ⟨rfl, kept_drewN' _ _⟩
    · have HF : Hid (takenF c (d :: l) = (c, d :: l)) := Lw.hid (if_neg hc)
      have h : ((c.toNat : Int) == 92) = false := by simp; omega
      clear hc
      go_enter Try.func22, Try.ntmps22
      go_wp2_with fail
      go_quiet (fail)
      go_wp2_with fail
      go_ret2
      rw [HF.out]
      exact ⟨rfl, kept_drewN' _ _⟩
end Go.Proofs.Ytkfoinphkjmlmaa
