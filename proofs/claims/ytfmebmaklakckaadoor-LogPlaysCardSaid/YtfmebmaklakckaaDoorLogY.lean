/- LogGood: what lies beside a disk and its log. -/
import Derived.Test.YtfmebmaklakckaaDoorLogX
import Derived.Test.YtfmebmaklakckaaDoorLogK
import Derived.Test.YtfmebmaklakckaaDoorActs15
namespace Go.Proofs.YtfmebmaklakckaaDoor
open Go Go.RowKit Go.Lw
set_option maxRecDepth 100000
set_option linter.unusedVariables false
theorem rdb_keeps {W W' : World} {v : Value} {l : List UInt8} {R : Nat → Prop} (h : RdB W v l) (k : Keeps R W W') (hR : l.length ≠ 0 → ∀ q, blk v q → R q) : RdB W' v l := by
  by_cases hl : l.length = 0
  · obtain rfl : l = [] := List.length_eq_zero_iff.1 hl
    obtain ⟨h1, a, c, h2, h3, h4, _⟩ := h
    exact ⟨h1, a, c, h2, h3, h4, fun j u hj => by simp at hj⟩
  · exact h.of_cells fun g off j u hg hc => k.cell hc (hR hl g hg)
theorem pays_keeps {W W' : World} {Q R : Nat → Prop} {vs : List Value} {ls : List (List UInt8)} (h : Pays W Q vs ls) (k : Keeps R W W') (hR : ∀ q, Q q → R q) : Pays W' Q vs ls :=
  ⟨h.1, fun i u l hu hl => ⟨rdb_keeps (h.2 i u l hu hl).1 k (fun hn q hq => hR q ((h.2 i u l hu hl).2 hn q hq)), (h.2 i u l hu hl).2⟩⟩
/-- What lies beside: the row of payloads, the last one, the calls. -/
structure BZ (T : Nat → Prop) (w wr : World) (g BL : Nat) (v va : Value) (vs : List Value) (A : List (List UInt8)) (vl : Value) (last : List UInt8) (vac : Value) (acts : List Act4) : Prop where
  own : wr.ownsRow 0 38 1 va A.length vs
  oT : ∀ q, blk va q → T q
  p : Pays wr (fun q => T q ∧ ¬ blk va q) vs A
  la : RdB wr vl last
  laT : last.length ≠ 0 → ∀ q, blk vl q → T q ∧ ¬ blk va q
  ac : Rd wr 4 vac acts.length (acts.flatMap Act4.cells)
  acT : ∀ q, blk vac q → T q ∧ ¬ blk va q
  lt : ∀ q, T q → q < wr.heap.size
  z : ∀ q, T q → q ≠ g ∧ q ≠ BL ∧ ¬ blk v q ∧ w.heap.size ≤ q
section
variable {T : Nat → Prop} {w wr w' : World} {g BL : Nat} {v v' va : Value} {vs : List Value} {A : List (List UInt8)} {vl : Value} {last : List UInt8} {vac : Value} {acts : List Act4}
theorem BZ.keeps (h : BZ T w wr g BL v va vs A vl last vac acts) (k : Keeps T wr w') (f : ∀ q, blk v' q → blk v q ∨ wr.heap.size ≤ q) : BZ T w w' g BL v' va vs A vl last vac acts :=
  ⟨own_of_heap h.own (fun b hb => k.2 b (h.lt b (h.oT b hb)) (h.oT b hb)), h.oT, pays_keeps h.p k (fun _ hq => hq.1), rdb_keeps h.la k (fun hn q hq => (h.laT hn q hq).1), h.laT,
    h.ac.of_cells fun b off j u hb hc => k.cell hc (h.acT b hb).1, h.acT, fun q hq => Nat.lt_of_lt_of_le (h.lt q hq) k.1, fun q hq => by
    obtain ⟨h1, h2, h3, h4⟩ := h.z q hq
    refine ⟨h1, h2, fun e => ?_, h4⟩
    rcases f q e with e | e
    · exact h3 e
    · have := h.lt q hq; omega⟩
theorem BZ.op (h : BZ T w wr g BL v va vs A vl last vac acts) (k : Kept (fun q => q = BL ∨ q = g ∨ blk v q) wr w') (f : ∀ q, blk v' q → blk v q ∨ wr.heap.size ≤ q) : BZ T w w' g BL v' va vs A vl last vac acts :=
  h.keeps (k.keeps (fun q _ hT e => by
    obtain ⟨h1, h2, h3, _⟩ := h.z q hT
    rcases e with e | e | e
    · exact h2 e
    · exact h1 e
    · exact h3 e)) f
theorem BZ.go (h : BZ T w wr g BL v va vs A vl last vac acts) (k : Kept (fun q => q = g ∨ blk v q) wr w') (f : ∀ q, blk v' q → blk v q ∨ wr.heap.size ≤ q) : BZ T w w' g BL v' va vs A vl last vac acts :=
  h.op (k.mono (fun _ _ h => .inr h)) f
theorem BZ.keptF (h : BZ T w wr g BL v va vs A vl last vac acts) (k : Kept (fun _ => False) wr w') : BZ T w w' g BL v va vs A vl last vac acts :=
  h.keeps (k.keeps (fun _ _ _ h => h)) (fun q hq => .inl hq)
/-- Another log on the disk. -/
theorem BZ.log {BY : Nat} (h : BZ T w wr g BL v va vs A vl last vac acts) (hy : ∀ q, T q → q ≠ BY) : BZ T w wr g BY v va vs A vl last vac acts :=
  ⟨h.own, h.oT, h.p, h.la, h.laT, h.ac, h.acT, h.lt, fun q hq => ⟨(h.z q hq).1, hy q hq, (h.z q hq).2.2⟩⟩
/-- The blocks made since. -/
def Tn (T : Nat → Prop) (n0 : Nat) (wr : World) (q : Nat) : Prop := T q ∨ (n0 ≤ q ∧ q < wr.heap.size)
/-- Another last one. -/
theorem BZ.setLast {n0 : Nat} {vl' : Value} {last' : List UInt8} (h : BZ T w wr g BL v va vs A vl last vac acts) (hT : ∀ q, T q → q < n0) (hz : ∀ q, (q = g ∨ q = BL ∨ blk v q) → q < n0) (hw : w.heap.size ≤ n0) (hn0 : n0 ≤ wr.heap.size) (hr : RdB wr vl' last') (hb : ∀ q, blk vl' q → n0 ≤ q) : BZ (Tn T n0 wr) w wr g BL v va vs A vl' last' vac acts := by
  refine ⟨h.own, fun q hq => .inl (h.oT q hq), h.p.kept (Kept.refl (fun _ => False) wr) (fun _ _ _ h => h) (fun q _ hq => ⟨.inl hq.1, hq.2⟩), hr, fun hn q hq => ⟨.inr ⟨hb q hq, hr.lt hn q hq⟩, fun e => by have := hT q (h.oT q e); have := hb q hq; omega⟩, h.ac, fun q hq => ⟨.inl (h.acT q hq).1, (h.acT q hq).2⟩, fun q hq => ?_, fun q hq => ?_⟩
  · rcases hq with hq | hq
    · exact h.lt q hq
    · exact hq.2
  · rcases hq with hq | hq
    · exact h.z q hq
    · refine ⟨fun e => ?_, fun e => ?_, fun e => ?_, by omega⟩
      · have := hz q (.inl e); omega
      · have := hz q (.inr (.inl e)); omega
      · have := hz q (.inr (.inr e)); omega
/-- One more payload. -/
theorem BZ.push {n0 n' : Nat} {u va' : Value} {l : List UInt8} {o : Obj} {w5 : World} (h : BZ T w wr g BL v va vs A vl last vac acts) (hT : ∀ q, T q → q < n0) (hz : ∀ q, (q = g ∨ q = BL ∨ blk v q) → q < n0) (hw : w.heap.size ≤ n0) (hn0 : n0 ≤ wr.heap.size)
    (hr : RdB wr u l) (hb : l.length ≠ 0 → ∀ q, blk u q → n0 ≤ q)
    (ho : w5.ownsRow 0 38 1 va' n' (vs ++ [u])) (hn : n' = A.length + 1) (hg : (wr.alloc o).grownBy w5 va.ownBlock) (hf : Fresh (wr.alloc o) va va') :
    BZ (Tn T n0 w5) w w5 g BL v va' (vs ++ [u]) (A ++ [l]) vl last vac acts := by
  subst hn
  have k1 : Kept (blk va) wr w5 := (Kept.refl _ wr).alloc o |>.grown hg (fun k e _ => e)
  have hs := k1.size
  have hva' : ∀ q, blk va' q → blk va q ∨ wr.heap.size ≤ q := fun q hq => by
    rcases hf q hq with e | e
    · exact .inl e
    · simp at e; exact .inr (by omega)
  have hnew : ∀ q, q < wr.heap.size → blk va' q → blk va q := fun q h1 h2 => by
    rcases hva' q h2 with e | e
    · exact e
    · omega
  refine ⟨by rw [List.length_append]; exact ho, fun q hq => ?_, ?_, h.la.keptE k1 (fun hn q hq => (h.laT hn q hq).2), fun hn q hq => ⟨.inl (h.laT hn q hq).1, fun e => (h.laT hn q hq).2 (hnew q (h.lt q (h.laT hn q hq).1) e)⟩, h.ac.kept k1 (fun q hq => (h.acT q hq).2), fun q hq => ⟨.inl (h.acT q hq).1, fun e => (h.acT q hq).2 (hnew q (h.lt q (h.acT q hq).1) e)⟩, fun q hq => ?_, fun q hq => ?_⟩
  · rcases hva' q hq with e | e
    · exact .inl (h.oT q e)
    · exact .inr ⟨by omega, own_lt ho q hq⟩
  · have hub : l.length ≠ 0 → ∀ q, blk u q → ¬ blk va q := fun hn q hq e => by have := hT q (h.oT q e); have := hb hn q hq; omega
    have hp := (h.p.kept (Q' := fun q => Tn T n0 wr q ∧ ¬ blk va q) (Kept.refl (fun _ => False) wr) (fun _ _ _ h => h) (fun q _ hq => ⟨.inl hq.1, hq.2⟩)).snoc hr (fun hn q hq => ⟨.inr ⟨hb hn q hq, hr.lt hn q hq⟩, hub hn q hq⟩)
    refine hp.kept k1 (fun q _ hq => hq.2) (fun q hlt hq => ⟨hq.1.imp id (fun e => ⟨e.1, by omega⟩), fun e => hq.2 (hnew q hlt e)⟩)
  · rcases hq with hq | hq
    · have := h.lt q hq; omega
    · exact hq.2
  · rcases hq with hq | hq
    · exact h.z q hq
    · refine ⟨fun e => ?_, fun e => ?_, fun e => ?_, by omega⟩
      · have := hz q (.inl e); omega
      · have := hz q (.inr (.inl e)); omega
      · have := hz q (.inr (.inr e)); omega
end
/-- How the disk stands. -/
def StG (D : Dsk) (A : List (List UInt8)) (left bits : Int) (perhaps : Bool) (last : List UInt8) : Prop :=
  (D.stopped = false ∧ (∃ t, Hold D A (zeros t)) ∧ perhaps = false ∧ (D.is = true → D.nb = left)) ∨
  (D.stopped = true ∧ perhaps = true ∧ last.length ≤ 60 ∧ D.is = false ∧ ∃ (bt j : Nat), bits = (bt : Int) ∧ Hold D A ((frm A last).take (min bt (10 + last.length)) ++ zeros j))
/-- LogGood's relation. -/
structure GdI (w : World) (n : Nat) (wr : World) (g BL : Nat) (v : Value) (D : Dsk) (A : List (List UInt8)) (left bits : Int) (perhaps : Bool) (va : Value) (vs : List Value) (vl : Value) (last : List UInt8) (vac : Value) (acts : List Act4) (T : Nat → Prop) : Prop where
  s : DsW w wr g v D (3 * n + 1)
  b : Bx w wr g v BL (endF fz A)
  bz : BZ T w wr g BL v va vs A vl last vac acts
  a60 : ∀ p ∈ A, p.length ≤ 60
  al : A.length ≤ n
  cap : D.cap = 3000
  lb : 0 ≤ left ∧ left ≤ 9223372036854775807
  bb : 0 ≤ bits ∧ bits ≤ 9223372036854775807
  st : StG D A left bits perhaps last
theorem Okn.cap3 {D : Dsk} (h : D.cap = 3000) : D.cap ≤ 1048576 := by rw [h]; decide
end Go.Proofs.YtfmebmaklakckaaDoor
