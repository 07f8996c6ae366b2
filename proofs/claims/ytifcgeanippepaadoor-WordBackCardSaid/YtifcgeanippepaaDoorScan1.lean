/- package lex: the scanner's small methods. -/
import Derived.Test.YtifcgeanippepaaDoorScanP
import Derived.Test.YtifcgeanippepaaDoorChecked
import Derived.Test.YtifcgeanippepaaDoorShelf
import Derived.BigQuiet
namespace Go.Proofs.YtifcgeanippepaaDoor
open Go Go.RowKit Go.Lw
set_option maxRecDepth 100000
set_option linter.unusedVariables false
set_option linter.unusedSimpArgs false
attribute [local go_sem] BA_toList
/-- Block g is a scanner: its text, where it stands, how deep, its error. -/
def ScAt (w : World) (g : Nat) (s : List UInt8) (a d e : Nat) : Prop := w.heap[g]? = some (.cells #[.string (BA s), .int .i64 (a : Int), .int .i64 (d : Int), .int .i64 (e : Int)] 74 (0, 0))
theorem ScAt.cells {w : World} {g : Nat} {s : List UInt8} {a d e : Nat} (h : ScAt w g s a d e) :
    (w.cell? ⟨g, 0, none⟩ = some (.string (BA s)) ∧ w.cell? ⟨g, 1, none⟩ = some (.int .i64 (a : Int)) ∧ w.cell? ⟨g, 2, none⟩ = some (.int .i64 (d : Int)) ∧ w.cell? ⟨g, 3, none⟩ = some (.int .i64 (e : Int))) ∧
    (w.frozen? ⟨g, 1, none⟩ = false ∧ w.frozen? ⟨g, 2, none⟩ = false ∧ w.frozen? ⟨g, 3, none⟩ = false) :=
  ⟨⟨heap_cell h 0, heap_cell h 1, heap_cell h 2, heap_cell h 3⟩, heap_free h 1, heap_free h 2, heap_free h 3⟩
theorem ScAt.kept {S : Nat → Prop} {w w' : World} {g : Nat} {s : List UInt8} {a d e : Nat} (h : ScAt w g s a d e) (k : Kept S w w') (hg : ¬ S g) : ScAt w' g s a d e := k.heap h hg
theorem ScAt.drewN {w : World} {g : Nat} {s : List UInt8} {a d e : Nat} (h : ScAt w g s a d e) (n : Nat) : ScAt (w.drewN n) g s a d e := h
theorem ScAt.lt {w : World} {g : Nat} {s : List UInt8} {a d e : Nat} (h : ScAt w g s a d e) : g < w.heap.size := heap_lt h
theorem ScAt.at' {w : World} {g : Nat} {s : List UInt8} {a d e : Nat} (h : ScAt w g s a d e) (b : Nat) : ScAt (w.setCell ⟨g, 1, none⟩ (.int .i64 (b : Int))) g s b d e := heap_set h 1 _
theorem ScAt.deep' {w : World} {g : Nat} {s : List UInt8} {a d e : Nat} (h : ScAt w g s a d e) (b : Nat) : ScAt (w.setCell ⟨g, 2, none⟩ (.int .i64 (b : Int))) g s a b e := heap_set h 2 _
theorem ScAt.err' {w : World} {g : Nat} {s : List UInt8} {a d e : Nat} (h : ScAt w g s a d e) (b : Nat) : ScAt (w.setCell ⟨g, 3, none⟩ (.int .i64 (b : Int))) g s a d b := heap_set h 3 _
theorem ScAt.stepAt {w : World} {g : Nat} {s : List UInt8} {a d e n : Nat} {B : Int} (h : ScAt w g s a d e) (b : Nat) (hB : B = (b : Int)) : ScAt ((w.drewN n).setCell ⟨g, 1, none⟩ (.int .i64 B)) g s b d e := by
  subst hB; exact (h.drewN n).at' b
theorem ScAt.step0 {w : World} {g : Nat} {s : List UInt8} {a d e : Nat} {B : Int} (h : ScAt w g s a d e) (b : Nat) (hB : B = (b : Int)) : ScAt (w.setCell ⟨g, 1, none⟩ (.int .i64 B)) g s b d e := by
  subst hB; exact h.at' b
theorem quiet_add_same {P : Program} {f : FuncId} {args : Array Value} {w : World} {a n : Nat} {v : Value}
    (h : Calls P f args (w.drewN (a + n)) fun e w' => e = .returned v ∧ w' = w.drewN (a + n)) :
    Calls P f args (w.drewN (a + n)) fun e w'' => e = .returned v ∧ ∃ m, w'' = w.drewN (a + m) :=
  h.mono fun _ _ ⟨he, hm⟩ => ⟨he, n, hm⟩
abbrev K1 (g : Nat) : World → World → Prop := Kept (fun k => k = g)
theorem K1.refl (g : Nat) (w : World) : K1 g w w := Kept.refl _ w
theorem K1.set {g i : Nat} {a b : World} (h : K1 g a b) (u : Value) : K1 g a (b.setCell ⟨g, i, none⟩ u) := Kept.set h g i (fun _ => rfl) u
theorem K1.drewN (g : Nat) (w : World) (n : Nat) : K1 g w (w.drewN n) := ⟨rfl, rfl, rfl, Nat.le_refl _, fun _ _ _ => rfl⟩
theorem K1.then {g : Nat} {a b c : World} (h : K1 g a b) (k : K1 g b c) : K1 g a c := h.trans k (fun _ _ h => h)
/-- The first error stays. -/
def failE (e er : Nat) : Nat := if e = 0 then er else e
set_option maxHeartbeats 1000000 in
theorem fail_any (w : World) (g : Nat) (s : List UInt8) (a d e : Nat) (h : ScAt w g s a d e) (er : Nat) (E : Int) (hE : E = (er : Int)) :
    Calls Tryd.prog 79 #[.pointer (some ⟨g, 0, none⟩), .int .i64 E] w fun x w' => x = .returned (.tuple #[]) ∧ ScAt w' g s a d (failE e er) ∧ K1 g w w' := by
  subst hE
  obtain ⟨⟨c0, c1, c2, c3⟩, f1, f2, f3⟩ := h.cells
  have H := Lw.hid h
  clear h
  by_cases he : e = 0
  · have hb : ((e : Int) == 0) = true := by rw [he]; rfl
    have HE : Hid (failE e er = er) := Lw.hid (if_pos he)
    clear he
    go_enter Tryd.func79, Tryd.ntmps79
    go_wp2_with fail
    go_end0
    rw [HE.out]
    exact ⟨rfl, H.out.err' er, K1.set (Kept.refl _ _) _⟩
  · have hb : ((e : Int) == 0) = false := by simp; omega
    have HE : Hid (failE e er = e) := Lw.hid (if_neg he)
    clear he
    go_enter Tryd.func79, Tryd.ntmps79
    go_wp2_with fail
    go_end0
    rw [HE.out]
    exact ⟨rfl, H.out, Kept.refl _ _⟩
set_option maxHeartbeats 1000000 in
theorem more_any (w : World) (g : Nat) (s : List UInt8) (a d e : Nat) (h : ScAt w g s a d e) (b : Bool) (hb : (decide (e = 0) && decide (a < s.length)) = b) :
    Calls Tryd.prog 43 #[.pointer (some ⟨g, 0, none⟩)] w fun x w' => x = .returned (.bool b) ∧ ∃ n, w' = w.drewN n := by
  obtain ⟨⟨c0, c1, c2, c3⟩, f1, f2, f3⟩ := h.cells
  have hs := BA_size s
  obtain ⟨N, hN⟩ : ∃ N, s.length = N := ⟨_, rfl⟩
  rw [hN] at hs hb
  have HB := Lw.hid hb
  clear h hN hb
  by_cases he : e = 0
  · have hb : ((e : Int) == 0) = true := by rw [he]; rfl
    by_cases ha : a < N
    · have HE : Hid (b = true) := Lw.hid (by rw [← HB.out]; simp [he, ha])
      have ha2 : decide (a < N) = true := decide_eq_true ha
      clear he
      go_enter Tryd.func43, Tryd.ntmps43
      go_wp2_with fail
      go_quiet (fail)
      go_wp2_with fail
      go_ret
      rw [HE.out]
      exact ⟨rfl, _, rfl⟩
    · have HE : Hid (b = false) := Lw.hid (by rw [← HB.out]; simp [ha])
      have ha2 : decide (a < N) = false := decide_eq_false ha
      clear he
      go_enter Tryd.func43, Tryd.ntmps43
      go_wp2_with fail
      go_quiet (fail)
      go_wp2_with fail
      go_ret
      rw [HE.out]
      exact ⟨rfl, _, rfl⟩
  · have hb : ((e : Int) == 0) = false := by simp; omega
    have HE : Hid (b = false) := Lw.hid (by rw [← HB.out]; simp [he])
    clear he
    go_enter Tryd.func43, Tryd.ntmps43
    go_wp2_with fail
    go_quiet (fail)
    go_wp2_with fail
    go_ret
    rw [HE.out]
    exact ⟨rfl, _, rfl⟩
theorem letter_any (w : World) (c : UInt8) (first : Bool) :
    Calls Tryd.prog 57 #[.int .u8 (c.toNat : Int), .bool first] w fun x w' => x = .returned (.bool (letterB c first)) ∧ w' = w := by
  have hc := c.toNat_lt
  cases first
  all_goals
    go_enter Tryd.func57, Tryd.ntmps57
    go_wp2_with fail
    all_goals
      go_ret
      refine ⟨congrArg (fun b => Ending.returned (.bool b)) ?_, rfl⟩
      (try simp only [beq_iff_eq, beq_eq_false_iff_ne, ne_eq, Bool.or_eq_true, Bool.or_eq_false_iff, Bool.and_eq_true, Bool.and_eq_false_iff, decide_eq_true_eq, decide_eq_false_iff_not] at *)
      rw [Bool.eq_iff_iff]
      simp only [letterB, startB, digitB, beq_iff_eq, Bool.or_eq_true, Bool.and_eq_true, decide_eq_true_eq, Bool.not_true, Bool.not_false, Bool.false_eq_true, false_and, true_and, or_false, true_iff, false_iff, iff_true]
      omega
end Go.Proofs.YtifcgeanippepaaDoor
