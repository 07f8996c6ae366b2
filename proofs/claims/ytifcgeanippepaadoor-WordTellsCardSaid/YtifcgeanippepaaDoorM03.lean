/- package lex: the scanner's small methods. -/
import Derived.Test.YtifcgeanippepaaDoorM01
import Derived.Test.YtifcgeanippepaaDoorChecked
import Derived.Test.YtifcgeanippepaaDoorShelf
import Derived.BigQuiet
import Derived.Deep.DeepCutAuto
namespace Go.Proofs.YtifcgeanippepaaDoor
open Go Go.RowKit Go.Lw
set_option maxRecDepth 100000
set_option linter.unusedVariables false
set_option linter.unusedSimpArgs false
attribute [local go_sem] BA_toList
/-- Block g is a scanner: its text, where it stands, how deep, its error. -/
def ScAt (w : World) (g : Nat) (s : List UInt8) (a d e : Nat) : Prop := w.heap[g]? = some (.cells #[.string (BA s), .int .i64 (a : Int), .int .i64 (d : Int), .int .i64 (e : Int)] 74 (0, 0))
theorem ScAt.cells {w : World} {g : Nat} {s : List UInt8} {a d e : Nat} (h : ScAt w g s a d e) :
    (w.cell? ⟨g, 0, none⟩ = some (.string (BA s)) ∧ w.cell? ⟨g, 1, none⟩ = some (.int .i64 (a : Int)) ∧ w.cell? ⟨g, 2, none⟩ = some (.int .i64 (d : Int)) ∧ w.cell? ⟨g, 3, none⟩ = some (.int .i64 (e : Int))) ∧
    (w.frozen? ⟨g, 1, none⟩ = false ∧ w.frozen? ⟨g, 2, none⟩ = false ∧ w.frozen? ⟨g, 3, none⟩ = false) :=
  ⟨⟨heap_cell h 0, heap_cell h 1, heap_cell h 2, heap_cell h 3⟩, heap_free h 1, heap_free h 2, heap_free h 3⟩
theorem ScAt.kept {S : Nat → Prop} {w w' : World} {g : Nat} {s : List UInt8} {a d e : Nat} (h : ScAt w g s a d e) (k : Kept S w w') (hg : ¬ S g) : ScAt w' g s a d e := k.heap h hg
theorem ScAt.drewN {w : World} {g : Nat} {s : List UInt8} {a d e : Nat} (h : ScAt w g s a d e) (n : Nat) : ScAt (w.drewN n) g s a d e := h
theorem ScAt.lt {w : World} {g : Nat} {s : List UInt8} {a d e : Nat} (h : ScAt w g s a d e) : g < w.heap.size := heap_lt h
theorem ScAt.at' {w : World} {g : Nat} {s : List UInt8} {a d e : Nat} (h : ScAt w g s a d e) (b : Nat) : ScAt (w.setCell ⟨g, 1, none⟩ (.int .i64 (b : Int))) g s b d e := heap_set h 1 _
theorem ScAt.deep' {w : World} {g : Nat} {s : List UInt8} {a d e : Nat} (h : ScAt w g s a d e) (b : Nat) : ScAt (w.setCell ⟨g, 2, none⟩ (.int .i64 (b : Int))) g s a b e := heap_set h 2 _
theorem ScAt.err' {w : World} {g : Nat} {s : List UInt8} {a d e : Nat} (h : ScAt w g s a d e) (b : Nat) : ScAt (w.setCell ⟨g, 3, none⟩ (.int .i64 (b : Int))) g s a d b := heap_set h 3 _
theorem ScAt.stepAt {w : World} {g : Nat} {s : List UInt8} {a d e n : Nat} {B : Int} (h : ScAt w g s a d e) (b : Nat) (hB : B = (b : Int)) : ScAt ((w.drewN n).setCell ⟨g, 1, none⟩ (.int .i64 B)) g s b d e := by
  subst hB; exact (h.drewN n).at' b
theorem ScAt.step0 {w : World} {g : Nat} {s : List UInt8} {a d e : Nat} {B : Int} (h : ScAt w g s a d e) (b : Nat) (hB : B = (b : Int)) : ScAt (w.setCell ⟨g, 1, none⟩ (.int .i64 B)) g s b d e := by
  subst hB; exact h.at' b
theorem quiet_add_same {P : Program} {f : FuncId} {args : Array Value} {w : World} {a n : Nat} {v : Value}
    (h : Calls P f args (w.drewN (a + n)) fun e w' => e = .returned v ∧ w' = w.drewN (a + n)) :
    Calls P f args (w.drewN (a + n)) fun e w'' => e = .returned v ∧ ∃ m, w'' = w.drewN (a + m) :=
  h.mono fun _ _ ⟨he, hm⟩ => ⟨he, n, hm⟩
abbrev K1 (g : Nat) : World → World → Prop := Kept (fun k => k = g)
theorem K1.refl (g : Nat) (w : World) : K1 g w w := Kept.refl _ w
theorem K1.set {g i : Nat} {a b : World} (h : K1 g a b) (u : Value) : K1 g a (b.setCell ⟨g, i, none⟩ u) := Kept.set h g i (fun _ => rfl) u
theorem K1.drewN (g : Nat) (w : World) (n : Nat) : K1 g w (w.drewN n) := ⟨rfl, rfl, rfl, Nat.le_refl _, fun _ _ _ => rfl⟩
theorem K1.then {g : Nat} {a b c : World} (h : K1 g a b) (k : K1 g b c) : K1 g a c := h.trans k (fun _ _ h => h)
/-- The first error stays. -/
def failE (e er : Nat) : Nat := if e = 0 then er else e
set_option maxHeartbeats 1000000 in
theorem fail_any (w : World) (g : Nat) (s : List UInt8) (a d e : Nat) (h : ScAt w g s a d e) (er : Nat) (E : Int) (hE : E = (er : Int)) :
    Calls Tryd.prog 79 #[.pointer (some ⟨g, 0, none⟩), .int .i64 E] w fun x w' => x = .returned (.tuple #[]) ∧ ScAt w' g s a d (failE e er) ∧ K1 g w w' := by
  subst hE
  obtain ⟨⟨c0, c1, c2, c3⟩, f1, f2, f3⟩ := h.cells
  have H := Lw.hid h
  clear h
  by_cases he : e = 0
  · have hb : ((e : Int) == 0) = true := by rw [he]; rfl
    have HE : Hid (failE e er = er) := Lw.hid (if_pos he)
    clear he
    go_enter Tryd.func79, Tryd.ntmps79
    go_wp2_with fail
    go_end0
    rw [HE.out]
    exact ⟨rfl, H.out.err' er, K1.set (Kept.refl _ _) _⟩
  · have hb : ((e : Int) == 0) = false := by simp; omega
    have HE : Hid (failE e er = e) := Lw.hid (if_neg he)
    clear he
    go_enter Tryd.func79, Tryd.ntmps79
    go_wp2_with fail
    go_end0
    rw [HE.out]
    exact ⟨rfl, H.out, Kept.refl _ _⟩
set_option maxHeartbeats 1000000 in
theorem more_any (w : World) (g : Nat) (s : List UInt8) (a d e : Nat) (h : ScAt w g s a d e) (b : Bool) (hb : (decide (e = 0) && decide (a < s.length)) = b) :
    Calls Tryd.prog 43 #[.pointer (some ⟨g, 0, none⟩)] w fun x w' => x = .returned (.bool b) ∧ ∃ n, w' = w.drewN n := by
  obtain ⟨⟨c0, c1, c2, c3⟩, f1, f2, f3⟩ := h.cells
  have hs := BA_size s
  obtain ⟨N, hN⟩ : ∃ N, s.length = N := ⟨_, rfl⟩
  rw [hN] at hs hb
  have HB := Lw.hid hb
  clear h hN hb
  by_cases he : e = 0
  · have hb : ((e : Int) == 0) = true := by rw [he]; rfl
    by_cases ha : a < N
    · have HE : Hid (b = true) := Lw.hid (by rw [← HB.out]; simp [he, ha])
      have ha2 : decide (a < N) = true := decide_eq_true ha
      clear he
      go_enter Tryd.func43, Tryd.ntmps43
      go_wp2_with fail
      go_quiet (fail)
      go_wp2_with fail
      go_ret
      rw [HE.out]
      exact ⟨rfl, _, rfl⟩
    · have HE : Hid (b = false) := Lw.hid (by rw [← HB.out]; simp [ha])
      have ha2 : decide (a < N) = false := decide_eq_false ha
      clear he
      go_enter Tryd.func43, Tryd.ntmps43
      go_wp2_with fail
      go_quiet (fail)
      go_wp2_with fail
      go_ret
      rw [HE.out]
      exact ⟨rfl, _, rfl⟩
  · have hb : ((e : Int) == 0) = false := by simp; omega
    have HE : Hid (b = false) := Lw.hid (by rw [← HB.out]; simp [he])
    clear he
    go_enter Tryd.func43, Tryd.ntmps43
    go_wp2_with fail
    go_quiet (fail)
    go_wp2_with fail
    go_ret
    rw [HE.out]
    exact ⟨rfl, _, rfl⟩
theorem letter_any (w : World) (c : UInt8) (first : Bool) :
    Calls Tryd.prog 57 #[.int .u8 (c.toNat : Int), .bool first] w fun x w' => x = .returned (.bool (letterB c first)) ∧ w' = w := by
  have hc := c.toNat_lt
  cases first
  all_goals
    go_enter Tryd.func57, Tryd.ntmps57
    go_wp2_with fail
    all_goals
      go_ret
      refine ⟨congrArg (fun b => Ending.returned (.bool b)) ?_, rfl⟩
      (try simp only [beq_iff_eq, beq_eq_false_iff_ne, ne_eq, Bool.or_eq_true, Bool.or_eq_false_iff, Bool.and_eq_true, Bool.and_eq_false_iff, decide_eq_true_eq, decide_eq_false_iff_not] at *)
      rw [Bool.eq_iff_iff]
      simp only [letterB, startB, digitB, beq_iff_eq, Bool.or_eq_true, Bool.and_eq_true, decide_eq_true_eq, Bool.not_true, Bool.not_false, Bool.false_eq_true, false_and, true_and, or_false, true_iff, false_iff, iff_true]
      omega
end Go.Proofs.YtifcgeanippepaaDoor
/- package lex: the scanner's until, pair, arith. -/
namespace Go.Proofs.YtifcgeanippepaaDoor
open Go Go.RowKit Go.Lw
set_option maxRecDepth 100000
set_option linter.unusedVariables false
set_option linter.unusedSimpArgs false
attribute [local go_sem] BA_toList
theorem u8ne {c k : UInt8} {n : Int} (hn : n = (k.toNat : Int)) (h : ¬ c = k) : ((c.toNat : Int) == n) = false := by
  subst hn
  apply beq_eq_false_iff_ne.2
  intro e
  exact h (UInt8.toNat_inj.1 (by omega))
theorem u8eq {c k : UInt8} {n : Int} (hn : n = (k.toNat : Int)) (h : c = k) : ((c.toNat : Int) == n) = true := by
  subst hn; subst h; simp
/-- An error stands. -/
def ScBad (w : World) (g : Nat) (s : List UInt8) (d e : Nat) : Prop := ∃ a' d', a' ≤ s.length ∧ d ≤ d' ∧ d' ≤ 17 ∧ ScAt w g s a' d' e ∧ e ≠ 0
/-- How the scanner stands behind something. -/
def ScRes (w : World) (g : Nat) (s : List UInt8) (d : Nat) : Rs → Prop
  | .ok r' => ScAt w g s (s.length - r'.length) d 0
  | .error e => ScBad w g s d e
theorem until_index (c : UInt8) : ∀ l : List UInt8, (Lib.indexByte l c = -1 ∧ untilF c l = .error 5) ∨ ∃ i : Nat, Lib.indexByte l c = (i : Int) ∧ i < l.length ∧ untilF c l = .ok (l.drop (i + 1))
  | [] => .inl ⟨rfl, rfl⟩
  | b :: l => by
    unfold Lib.indexByte untilF
    by_cases h : b = c
    · subst h
      right
      exact ⟨0, by simp, by simp, by simp⟩
    · have hb : (b == c) = false := beq_eq_false_iff_ne.2 h
      rw [hb, if_neg h]
      rcases until_index c l with ⟨h1, h2⟩ | ⟨i, h1, h2, h3⟩
      · left
        exact ⟨by simp [h1], h2⟩
      · right
        refine ⟨i + 1, ?_, by simp; omega, by rw [h3]; simp⟩
        have hne : ((i : Int) == -1) = false := beq_eq_false_iff_ne.2 (by omega)
        simp [h1, hne]
theorem idx_any (l : List UInt8) (c : UInt8) (k : Int) (hk : Lib.indexByte l c = k) (w : World) : Calls Tryd.prog 20 #[.string (BA l), .int .u8 (c.toNat : Int)] w fun e w' => e = .returned (.int .i64 k) ∧ w' = w := by
  refine (Tryd.strings_IndexByte _ _ w).mono ?_
  rintro e w' ⟨rfl, rfl⟩
  refine ⟨?_, rfl⟩
  have : ((c.toNat : Int).toNat).toUInt8 = c := by simp
  rw [this, BA_list, hk]
/-- IndexByte, asked for whether a byte is there. -/
theorem idx_in (l : List UInt8) (c : UInt8) : (l.contains c = true → ∃ i : Nat, Lib.indexByte l c = (i : Int)) ∧ (l.contains c = false → Lib.indexByte l c = -1) := by
  induction l with
  | nil => exact ⟨fun h => by simp at h, fun _ => rfl⟩
  | cons b l ih =>
    unfold Lib.indexByte
    by_cases h : b = c
    · subst h
      exact ⟨fun _ => ⟨0, by simp⟩, fun h => by simp at h⟩
    · have hb : (b == c) = false := beq_eq_false_iff_ne.2 h
      have hc : (b :: l).contains c = l.contains c := by simp [Ne.symm h]
      rw [hb, hc]
      refine ⟨fun h => ?_, fun h => ?_⟩
      · obtain ⟨i, hi⟩ := ih.1 h
        have hne : ((i : Int) == -1) = false := beq_eq_false_iff_ne.2 (by omega)
        exact ⟨i + 1, by simp [hi, hne]⟩
      · simp [ih.2 h]
set_option maxHeartbeats 1000000 in
theorem until_ok (w : World) (g : Nat) (s : List UInt8) (a d : Nat) (h : ScAt w g s a d 0) (ha : a ≤ s.length) (hs9 : s.length ≤ 1000000) (hd : d ≤ 17) (c : UInt8) :
    Calls Tryd.prog 75 #[.pointer (some ⟨g, 0, none⟩), .int .u8 (c.toNat : Int)] w fun x w' => x = .returned (.tuple #[]) ∧ ScRes w' g s d (untilF c (s.drop a)) ∧ K1 g w w' := by
  obtain ⟨⟨c0, c1, c2, c3⟩, f1, f2, f3⟩ := h.cells
  have hs := BA_size s
  have ht := BA_tail s a s.length rfl
  have HL : Hid ((s.drop a).length = s.length - a) := Lw.hid (by rw [List.length_drop])
  have H := Lw.hid h
  obtain ⟨R, hR⟩ : ∃ R, s.drop a = R := ⟨_, rfl⟩
  rw [hR] at ht HL ⊢
  obtain ⟨N, hN⟩ : ∃ N, s.length = N := ⟨_, rfl⟩
  have HN := Lw.hid hN
  rw [hN] at hs ht ha hs9 HL
  clear h hR hN
  rcases until_index c R with ⟨h1, h2⟩ | ⟨i, h1, h2, h3⟩
  · have HI := Lw.hid h1; have HU := Lw.hid h2
    clear h1 h2
    go_enter Tryd.func75, Tryd.ntmps75
    go_wp2_with fail
    go_quiet ((go_at_call 20; exact Calls.quiet_of_same (idx_any R c (-1) HI.out _)))
    go_wp2_with fail
    refine (fail_any _ g s a d 0 (H.out.drewN _) 5 5 rfl).mono ?_
    rintro e w' ⟨rfl, h', k'⟩
    go_wp2_with fail
    refine bodyPost_ret (results_none rfl _ _ _) rfl ?_
    rw [HU.out]
    exact ⟨rfl, ⟨a, d, by rw [HN.out]; exact ha, Nat.le_refl _, hd, h', by decide⟩, (K1.drewN g w nq).then k'⟩
  · have HI := Lw.hid h1; have HU := Lw.hid h3
    have hi9 : a + i + 1 ≤ N := by have := HL.out; omega
    have HE : Hid (N - (R.drop (i + 1)).length = a + (i + 1)) := Lw.hid (by rw [List.length_drop, HL.out]; omega)
    clear h1 h2 h3
    go_enter Tryd.func75, Tryd.ntmps75
    go_wp2_with fail
    go_quiet ((go_at_call 20; exact Calls.quiet_of_same (idx_any R c (i : Int) HI.out _)))
    go_wp2_with fail
    go_end0
    rw [HU.out]
    refine ⟨rfl, ?_, (K1.drewN g w nq).set _⟩
    show ScAt _ g s _ d 0
    rw [HN.out, HE.out]
    have := (H.out.drewN nq).at' (a + (i + 1))
    simpa using this
/-- What until leaves, whatever the error ahead. -/
def UntilPost (w' : World) (g : Nat) (s : List UInt8) (a d e : Nat) (c : UInt8) : Prop :=
  (untilF c (s.drop a) = .error 5 ∧ ScAt w' g s a d (failE e 5)) ∨ ∃ i, a + i + 1 ≤ s.length ∧ ScAt w' g s (a + (i + 1)) d e
set_option maxHeartbeats 1000000 in
theorem until_raw (w : World) (g : Nat) (s : List UInt8) (a d e : Nat) (h : ScAt w g s a d e) (ha : a ≤ s.length) (hs9 : s.length ≤ 1000000) (c : UInt8) :
    Calls Tryd.prog 75 #[.pointer (some ⟨g, 0, none⟩), .int .u8 (c.toNat : Int)] w fun x w' => x = .returned (.tuple #[]) ∧ UntilPost w' g s a d e c ∧ K1 g w w' := by
  obtain ⟨⟨c0, c1, c2, c3⟩, f1, f2, f3⟩ := h.cells
  have hs := BA_size s
  have ht := BA_tail s a s.length rfl
  have HL : Hid ((s.drop a).length = s.length - a) := Lw.hid (by rw [List.length_drop])
  have H := Lw.hid h
  have HUP : Hid (∀ w', (untilF c (s.drop a) = .error 5 ∧ ScAt w' g s a d (failE e 5)) ∨ (∃ i, a + i + 1 ≤ s.length ∧ ScAt w' g s (a + (i + 1)) d e) → UntilPost w' g s a d e c) := Lw.hid (fun w' h => h)
  obtain ⟨R, hR⟩ : ∃ R, s.drop a = R := ⟨_, rfl⟩
  rw [hR] at ht HL HUP
  obtain ⟨N, hN⟩ : ∃ N, s.length = N := ⟨_, rfl⟩
  rw [hN] at hs ht ha hs9 HL HUP
  clear h hR hN
  rcases until_index c R with ⟨h1, h2⟩ | ⟨i, h1, h2, h3⟩
  · have HI := Lw.hid h1; have HU := Lw.hid h2
    clear h1 h2
    go_enter Tryd.func75, Tryd.ntmps75
    go_wp2_with fail
    go_quiet ((go_at_call 20; exact Calls.quiet_of_same (idx_any R c (-1) HI.out _)))
    go_wp2_with fail
    refine (fail_any _ g s a d e (H.out.drewN _) 5 5 rfl).mono ?_
    rintro x w' ⟨rfl, h', k'⟩
    go_wp2_with fail
    refine bodyPost_ret (results_none rfl _ _ _) rfl ?_
    exact ⟨rfl, HUP.out _ (.inl ⟨HU.out, h'⟩), (K1.drewN g w nq).then k'⟩
  · have HI := Lw.hid h1
    have hi9 : a + i + 1 ≤ N := by have := HL.out; omega
    clear h1 h2 h3
    go_enter Tryd.func75, Tryd.ntmps75
    go_wp2_with fail
    go_quiet ((go_at_call 20; exact Calls.quiet_of_same (idx_any R c (i : Int) HI.out _)))
    go_wp2_with fail
    go_end0
    refine ⟨rfl, HUP.out _ (.inr ⟨i, hi9, ?_⟩), (K1.drewN g w nq).set _⟩
    have := (H.out.drewN nq).at' (a + (i + 1))
    simpa using this
theorem until_bad (w : World) (g : Nat) (s : List UInt8) (d e : Nat) (h : ScBad w g s d e) (hs9 : s.length ≤ 1000000) (c : UInt8) :
    Calls Tryd.prog 75 #[.pointer (some ⟨g, 0, none⟩), .int .u8 (c.toNat : Int)] w fun x w' => x = .returned (.tuple #[]) ∧ ScBad w' g s d e ∧ K1 g w w' := by
  obtain ⟨a, d', ha, hd, hd', hsc, he⟩ := h
  refine (until_raw w g s a d' e hsc ha hs9 c).mono ?_
  rintro x w' ⟨rfl, h', k'⟩
  refine ⟨rfl, ?_, k'⟩
  rcases h' with ⟨_, h'⟩ | ⟨i, hi, h'⟩
  · rw [show failE e 5 = e from if_neg he] at h'
    exact ⟨a, d', ha, hd, hd', h', he⟩
  · exact ⟨a + (i + 1), d', by omega, hd, hd', h', he⟩
set_option maxHeartbeats 1000000 in
theorem pair_ok (w : World) (g : Nat) (s : List UInt8) (a d : Nat) (h : ScAt w g s a d 0) (ha : a ≤ s.length) (hs9 : s.length ≤ 1000000) (hd : d ≤ 17) :
    Calls Tryd.prog 74 #[.pointer (some ⟨g, 0, none⟩)] w fun x w' => x = .returned (.tuple #[]) ∧ ScRes w' g s d (pairF (s.drop a)) ∧ K1 g w w' := by
  obtain ⟨⟨c0, c1, c2, c3⟩, f1, f2, f3⟩ := h.cells
  have hs := BA_size s
  have H := Lw.hid h
  have HL : Hid ((s.drop a).length = s.length - a) := Lw.hid (by rw [List.length_drop])
  obtain ⟨R, hR⟩ : ∃ R, s.drop a = R := ⟨_, rfl⟩
  rw [hR] at HL ⊢
  obtain ⟨N, hN⟩ : ∃ N, s.length = N := ⟨_, rfl⟩
  have HN := Lw.hid hN
  rw [hN] at hs ha hs9 HL
  have HR := Lw.hid hR
  clear h hN hR
  cases R with
  | nil =>
    have hb : decide (N ≤ a) = true := decide_eq_true (by have := HL.out; simp at this; omega)
    have hna : N ≤ a := by have := HL.out; simp at this; omega
    go_enter Tryd.func74, Tryd.ntmps74
    go_wp2_with fail
    go_quiet (fail)
    go_wp2_with fail
    refine (fail_any _ g s a d 0 (H.out.drewN _) 5 5 rfl).mono ?_
    rintro x w' ⟨rfl, h', k'⟩
    go_wp2_with fail
    refine bodyPost_ret (results_none rfl _ _ _) rfl ?_
    exact ⟨rfl, ⟨a, d, by rw [HN.out]; exact ha, Nat.le_refl _, hd, h', by decide⟩, (K1.drewN g w nq).then k'⟩
  | cons c r =>
    have hlt : a < N := by have := HL.out; simp at this; omega
    have hb : decide (N ≤ a) = false := decide_eq_false (by omega)
    have g0 := BA_get (l := s) (k := a) (c := c) (by have := HR.out; rw [← List.head?_drop, this]; rfl)
    have HE : Hid (N - r.length = a + 1) := Lw.hid (by have := HL.out; simp at this; omega)
    by_cases hc : c = 10
    · have hb2 : ((c.toNat : Int) == 10) = true := u8eq (k := 10) rfl hc
      have HP : Hid (pairF (c :: r) = .error 5) := Lw.hid (if_pos hc)
      clear hc
      go_enter Tryd.func74, Tryd.ntmps74
      go_wp2_with fail
      go_quiet (fail)
      go_wp2_with fail
      refine (fail_any _ g s a d 0 (H.out.drewN _) 5 5 rfl).mono ?_
      rintro x w' ⟨rfl, h', k'⟩
      go_wp2_with fail
      refine bodyPost_ret (results_none rfl _ _ _) rfl ?_
      rw [HP.out]
      exact ⟨rfl, ⟨a, d, by rw [HN.out]; exact ha, Nat.le_refl _, hd, h', by decide⟩, (K1.drewN g w nq).then k'⟩
    · have hb2 : ((c.toNat : Int) == 10) = false := u8ne (k := 10) rfl hc
      have HP : Hid (pairF (c :: r) = .ok r) := Lw.hid (if_neg hc)
      clear hc
      go_enter Tryd.func74, Tryd.ntmps74
      go_wp2_with fail
      go_quiet (fail)
      go_wp2_with fail
      go_end0
      rw [HP.out]
      refine ⟨rfl, ?_, (K1.drewN g w nq).set _⟩
      show ScAt _ g s _ d 0
      rw [HN.out, HE.out]
      have := (H.out.drewN nq).at' (a + 1)
      simpa using this
end Go.Proofs.YtifcgeanippepaaDoor
