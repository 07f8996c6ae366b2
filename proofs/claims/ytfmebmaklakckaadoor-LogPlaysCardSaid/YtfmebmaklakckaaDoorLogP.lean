/- A log, plain: the frames that stand in bytes. -/
import Derived.Test.YtfmebmaklakckaaDoorLogC
import Derived.Test.YtfmebmaklakckaaDoorPlainReader
namespace Go.Proofs.YtfmebmaklakckaaDoor
open Go Go.RowKit Go.Lw
set_option linter.unusedVariables false
/-- A frame that stands there: its payload, number, check, and where it ends. -/
structure Fd where
  p : List UInt8
  num : Nat
  sum : Nat
  fin : Nat
deriving DecidableEq
def Fd.zero : Fd := ⟨[], 0, 0, 0⟩
/-- The next frame, behind one. -/
def stepF (b : List UInt8) (s : Fd) : Option Fd :=
  let r : Rdr := ⟨b.drop s.fin, false⟩
  let a := r.num 2
  let m := a.2.num 4
  let c := m.2.num 4
  let t := c.2.take a.1
  if t.2.short = true ∨ m.1 ≠ (s.num + 1) % 4294967296 ∨ c.1 ≠ checkN s.sum m.1 t.1 then none else some ⟨t.1, m.1, c.1, s.fin + 10 + a.1⟩
def framesF (b : List UInt8) : Nat → Fd → List Fd
  | 0, _ => []
  | n + 1, s => match stepF b s with
    | none => []
    | some f => f :: framesF b n f
theorem take_ok {r : Rdr} {n : Nat} (h : (r.take n).2.short = false) : r.short = false ∧ n ≤ r.l.length ∧ r.take n = (r.l.take n, ⟨r.l.drop n, false⟩) := by
  unfold Rdr.take at *
  split at h
  · rename_i e; rw [e] at h; cases h
  · rename_i e
    split at h
    · cases h
    · rename_i e2
      exact ⟨by simpa using e, by omega, by rw [if_neg e, if_neg e2]⟩
/-- What a frame that stands there is. -/
theorem step_some {b : List UInt8} {s f : Fd} (h : stepF b s = some f) : 10 + beVal ((b.drop s.fin).take 2) ≤ (b.drop s.fin).length ∧ f.p = ((b.drop s.fin).drop 10).take (beVal ((b.drop s.fin).take 2)) ∧ f.num = beVal (((b.drop s.fin).drop 2).take 4) ∧ f.sum = beVal (((b.drop s.fin).drop 6).take 4) ∧ f.fin = s.fin + 10 + beVal ((b.drop s.fin).take 2) ∧ f.num = (s.num + 1) % 4294967296 ∧ f.sum = checkN s.sum f.num f.p := by
  unfold stepF at h
  simp only at h
  split at h
  · cases h
  · rename_i hc
    cases h
    simp only [not_or, Bool.not_eq_true, ne_eq, Decidable.not_not] at hc
    obtain ⟨h1, h2, h3⟩ := hc
    obtain ⟨t1, t2, t3⟩ := take_ok h1
    obtain ⟨c1, c2, c3⟩ := take_ok (n := 4) t1
    obtain ⟨m1, m2, m3⟩ := take_ok (n := 4) c1
    obtain ⟨a1, a2, a3⟩ := take_ok (n := 2) m1
    have m3' : (((Rdr.mk (b.drop s.fin) false).num 2).2.take 4) = ((((b.drop s.fin).drop 2).take 4), ⟨((b.drop s.fin).drop 2).drop 4, false⟩) := by
      rw [m3]; simp only [Rdr.num, a3]
    have c3' : ((((Rdr.mk (b.drop s.fin) false).num 2).2.num 4).2.take 4) = (((((b.drop s.fin).drop 2).drop 4).take 4), ⟨(((b.drop s.fin).drop 2).drop 4).drop 4, false⟩) := by
      rw [c3]; simp only [Rdr.num]; simp only [Rdr.num] at m3'; rw [m3']
    have n2 : ((Rdr.mk (b.drop s.fin) false).num 2).1 = beVal ((b.drop s.fin).take 2) := by simp only [Rdr.num, a3]
    have q2 : (((Rdr.mk (b.drop s.fin) false).num 2).2.num 4).1 = beVal (((b.drop s.fin).drop 2).take 4) := by
      show beVal (((Rdr.mk (b.drop s.fin) false).num 2).2.take 4).1 = _; rw [m3']
    have q3 : ((((Rdr.mk (b.drop s.fin) false).num 2).2.num 4).2.num 4).1 = beVal ((((b.drop s.fin).drop 2).drop 4).take 4) := by
      show beVal ((((Rdr.mk (b.drop s.fin) false).num 2).2.num 4).2.take 4).1 = _; rw [c3']
    have q4 : ((((Rdr.mk (b.drop s.fin) false).num 2).2.num 4).2.num 4).2 = ⟨(((b.drop s.fin).drop 2).drop 4).drop 4, false⟩ := by
      show ((((Rdr.mk (b.drop s.fin) false).num 2).2.num 4).2.take 4).2 = _; rw [c3']
    have c2' : 4 ≤ (((b.drop s.fin).drop 2).drop 4).length := by
      have h5 : 4 ≤ (((Rdr.mk (b.drop s.fin) false).num 2).2.take 4).2.l.length := c2
      rw [m3'] at h5; exact h5
    rw [n2, q4] at t2 t3
    dsimp only at t2
    rw [q4, n2] at h3
    rw [t3] at h3
    rw [q2] at h2
    rw [q2, q3] at h3
    simp only [n2, q2, q3, q4, t3]
    simp only [List.drop_drop, List.length_drop, Nat.add_assoc, Nat.reduceAdd] at t2 h2 h3 c2' ⊢
    exact ⟨by omega, trivial, trivial, trivial, trivial, h2, h3⟩
theorem step_fin {b : List UInt8} {s f : Fd} (h : stepF b s = some f) (hs : s.fin ≤ b.length) : f.fin ≤ b.length ∧ s.fin + 10 ≤ f.fin := by
  obtain ⟨h1, _, _, _, h5, _⟩ := step_some h
  rw [List.length_drop] at h1
  omega
end Go.Proofs.YtfmebmaklakckaaDoor
