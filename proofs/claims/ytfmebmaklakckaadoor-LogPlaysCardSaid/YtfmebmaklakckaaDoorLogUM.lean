/- Good, Pair15, One15, LogU, in one text. -/
import Derived.Test.YtfmebmaklakckaaDoorRefDisk3
import Derived.Test.YtfmebmaklakckaaDoorRef15M
import Derived.Test.YtfmebmaklakckaaDoorLogY
import Derived.Deep.DeepCutAuto
import Derived.Deep.CutBlock
import Derived.BigQuiet
/- The program's disk beside the document's (plain). -/
namespace Go.Proofs.YtfmebmaklakckaaDoor
open Go Go.RowKit Go.Lw
set_option maxRecDepth 100000
/-- Behind k calls: they are alike, and within bounds. -/
structure Good (k : Nat) (D : Dsk) (R : Rsk) : Prop where
  cap : D.cap = R.cap
  b : D.b = R.b
  puts : D.puts = R.puts
  st : D.stopped = R.stopped
  plan : D.is = true → R.left = D.np ∧ R.bytes = D.nb ∧ 0 ≤ D.np ∧ 0 ≤ D.nb
  none : D.is = false → R.left = -1
  bytes : 0 ≤ R.bytes ∧ R.bytes ≤ 9223372036854775807
  len : D.b.length ≤ D.cap
  cap9 : D.cap ≤ 1048576
  puts9 : D.puts ≤ k
  np : -(k : Int) ≤ D.np ∧ D.np ≤ 9223372036854775807
  nb : 0 ≤ D.nb ∧ D.nb ≤ 9223372036854775807
theorem Good.dok {k : Nat} {D : Dsk} {R : Rsk} (h : Good k D R) (hk : k ≤ 1000) : D.ok :=
  ⟨h.len, h.cap9, by have := h.puts9; omega, by have := h.np; omega, h.np.2, fun hi => ⟨(h.plan hi).2.2.1, h.nb.1⟩, by have := h.nb; omega⟩
theorem Good.rok {k : Nat} {D : Dsk} {R : Rsk} (h : Good k D R) (hk : k ≤ 1000) : R.ok := by
  refine ⟨by rw [← h.b, ← h.cap]; exact h.len, by rw [← h.cap]; exact h.cap9, by rw [← h.puts]; have := h.puts9; omega, ?_, h.bytes⟩
  cases hi : D.is with
  | true => have := h.plan hi; have := h.np; omega
  | false => have := h.none hi; omega
theorem Good.next {k : Nat} {D : Dsk} {R : Rsk} (h : Good k D R) : Good (k + 1) D R :=
  ⟨h.cap, h.b, h.puts, h.st, h.plan, h.none, h.bytes, h.len, h.cap9, by have := h.puts9; omega, by have := h.np; omega, h.nb⟩
theorem Good.put {k : Nat} {D : Dsk} {R : Rsk} (h : Good k D R) (a : Int) (l : List UInt8) : (D.put a l).2 = (R.put a l).2 ∧ Good (k + 1) (D.put a l).1 (R.put a l).1 := by
  obtain ⟨cp, b, pt, st, is, np, nb⟩ := D
  obtain ⟨cp', b', pt', st', left, bytes⟩ := R
  obtain ⟨h1, h2, h3, h4, h5, h6, h7, h8, h9, h10, h11, h12⟩ := h
  simp only at h1 h2 h3 h4 h5 h6 h7 h8 h9 h10 h11 h12
  subst h1 h2 h3 h4
  have hg : Good (k + 1) ⟨cp, b, pt, st, is, np, nb⟩ ⟨cp, b, pt, st, left, bytes⟩ := ⟨rfl, rfl, rfl, rfl, h5, h6, h7, h8, h9, by simp only; omega, by simp only; omega, h12⟩
  unfold Dsk.put Rsk.put
  simp only
  by_cases c1 : st = true
  · rw [if_pos c1, if_pos c1]; exact ⟨rfl, hg⟩
  rw [if_neg c1, if_neg c1]
  by_cases c2 : a < 0 ∨ (b.length : Int) < a
  · rw [if_pos c2, if_pos c2]; exact ⟨rfl, hg⟩
  rw [if_neg c2, if_neg c2]
  by_cases c3 : (cp : Int) - a < l.length
  · rw [if_pos c3, if_pos (show (cp : Int) < a + l.length by omega)]; exact ⟨rfl, hg⟩
  rw [if_neg c3, if_neg (show ¬ (cp : Int) < a + l.length by omega)]
  have hlen : ∀ m : List UInt8, m.length ≤ l.length → (lay b a.toNat m).length ≤ cp := fun m hm => by rw [lay_len (by omega)]; omega
  cases is with
  | true =>
    obtain ⟨e1, e2, e3, e4⟩ := h5 rfl
    subst e1 e2
    by_cases c4 : left = 0
    · rw [if_pos ⟨rfl, c4⟩, if_pos c4]
      exact ⟨rfl, ⟨rfl, rfl, rfl, rfl, (fun h => by cases h), fun _ => rfl, h7, hlen _ (by rw [List.length_take]; omega), h9, by simp only; omega, by simp only; omega, by simp only; omega⟩⟩
    · rw [if_neg (fun h => c4 h.2), if_neg c4]
      exact ⟨rfl, ⟨rfl, rfl, rfl, rfl, fun _ => ⟨if_pos (by omega), rfl, by simp only; omega, e4⟩, (fun h => by cases h), h7, hlen _ (Nat.le_refl _), h9, by simp only; omega, by simp only; omega, h12⟩⟩
  | false =>
    have e1 := h6 rfl
    subst e1
    rw [if_neg (by simp), if_neg (by decide)]
    exact ⟨rfl, ⟨rfl, rfl, rfl, rfl, (fun h => by cases h), fun _ => by simp, h7, hlen _ (Nat.le_refl _), h9, by simp only; omega, by simp only; omega, h12⟩⟩
theorem Good.plan' {k : Nat} {D : Dsk} {R : Rsk} (h : Good k D R) (p n : Int) (hp : p ≤ 9223372036854775807) (hn : n ≤ 9223372036854775807) : (D.plan p n).2 = (R.plan p n).2 ∧ Good (k + 1) (D.plan p n).1 (R.plan p n).1 := by
  unfold Dsk.plan Rsk.plan
  have hs := h.st
  by_cases c1 : R.stopped = true
  · rw [if_pos (hs.trans c1), if_pos c1]; exact ⟨rfl, h.next⟩
  rw [if_neg (by rw [hs]; exact c1), if_neg c1]
  by_cases c2 : p < 0 ∨ n < 0
  · rw [if_pos c2, if_pos c2]; exact ⟨rfl, h.next⟩
  rw [if_neg c2, if_neg c2]
  exact ⟨rfl, ⟨h.cap, h.b, h.puts, h.st, fun _ => ⟨rfl, rfl, by simp only; omega, by simp only; omega⟩, (fun hf => by cases hf), by simp only; omega, h.len, h.cap9, by have := h.puts9; simp only; omega, by simp only; omega, by simp only; omega⟩⟩
theorem Good.revive {k : Nat} {D : Dsk} {R : Rsk} (h : Good k D R) : D.revive.2 = R.revive.2 ∧ Good (k + 1) D.revive.1 R.revive.1 := by
  unfold Dsk.revive Rsk.revive
  have hs := h.st
  by_cases c1 : R.stopped = true
  · rw [if_pos (hs.trans c1), if_pos c1]
    exact ⟨rfl, ⟨h.cap, h.b, h.puts, rfl, h.plan, h.none, h.bytes, h.len, h.cap9, by have := h.puts9; simp only; omega, by have := h.np; simp only; omega, h.nb⟩⟩
  · rw [if_neg (by rw [hs]; exact c1), if_neg c1]; exact ⟨rfl, h.next⟩
end Go.Proofs.YtfmebmaklakckaaDoor
/- LogPlays: the program's log beside the document's; both in one world, apart. -/
namespace Go.Proofs.YtfmebmaklakckaaDoor
open Go Go.RowKit Go.Lw
set_option maxRecDepth 100000
set_option linter.unusedVariables false
/-- What stands behind a call. -/
theorem put_rest {D : Dsk} {A : List (List UInt8)} {t l : List UInt8} (h : Rest D.b A t) (hl : (encF fz A).length + l.length ≤ 1048576) :
    ∃ t', (D.put ((endF fz A).fin : Int) l).1.b = encF fz A ++ t' ∧ ((D.put ((endF fz A).fin : Int) l).2 = 0 → (D.put ((endF fz A).fin : Int) l).1.b = encF fz A ++ (l ++ t.drop l.length)) := by
  have hb : D.b.length = (encF fz A).length + t.length := by rw [h.len]
  unfold Dsk.put
  rw [fz_fin]
  split
  · exact ⟨t, h.e, fun h => absurd h (by decide : ¬ (10 : Nat) = 0)⟩
  split
  · exact ⟨t, h.e, fun h => absurd h (by decide : ¬ (1 : Nat) = 0)⟩
  split
  · exact ⟨t, h.e, fun h => absurd h (by decide : ¬ (7 : Nat) = 0)⟩
  split
  · rw [Int.toNat_natCast]
    refine ⟨_, by show lay D.b _ _ = _; rw [h.e, lay_tail], fun h => absurd h (by decide : ¬ (10 : Nat) = 0)⟩
  · rw [Int.toNat_natCast]
    exact ⟨_, by show lay D.b _ _ = _; rw [h.e, lay_tail], fun _ => by show lay D.b _ _ = _; rw [h.e, lay_tail]⟩
theorem put_len {D : Dsk} (h : D.b.length ≤ D.cap) (a : Int) (l : List UInt8) : (D.put a l).1.b.length ≤ D.cap := by
  unfold Dsk.put
  split
  · exact h
  split
  · exact h
  split
  · exact h
  rename_i h1 h2 h3
  split
  · show (lay D.b a.toNat _).length ≤ _
    rw [lay_len (by omega), List.length_take]; omega
  · show (lay D.b a.toNat _).length ≤ _
    rw [lay_len (by omega)]; omega
theorem rec_alike {n : Nat} {D : Dsk} {R : Rsk} (h : Good n D R) : (recF D).2 = (rrF R).2 ∧ Good (n + 1) (recF D).1 (rrF R).1 := by
  unfold recF rrF
  rw [h.st, h.b]
  split
  · exact ⟨rfl, h.next⟩
  split
  · exact h.put _ _
  · exact ⟨rfl, h.next⟩
theorem rec_rest {n : Nat} {D : Dsk} {R : Rsk} {A : List (List UInt8)} {t : List UInt8} (g : Good n D R) (h : Rest D.b A t) (hl : lastF D.b = endF fz A) : ∃ t', Rest (recF D).1.b A t' := by
  have hlen := h.len
  have hD := g.len; have hc := g.cap9
  unfold recF
  split
  · exact ⟨t, h⟩
  split
  · rw [hl, fz_fin]
    have hz : (zeros (D.b.length - (encF fz A).length)).length = D.b.length - (encF fz A).length := zeros_len _
    obtain ⟨t', h1, _⟩ := put_rest (l := zeros (D.b.length - (encF fz A).length)) h (by rw [hz]; have := h.l; omega)
    have h2 := put_len hD ((endF fz A).fin : Int) (zeros (D.b.length - (encF fz A).length))
    rw [fz_fin] at h1 h2
    exact ⟨t', h1, h.a, by omega⟩
  · exact ⟨t, h⟩
theorem app_alike {n : Nat} {D : Dsk} {R : Rsk} {A : List (List UInt8)} {t p : List UInt8} (g : Good n D R) (h : Rest D.b A t) (hp : p.length ≤ 60) :
    (appF D (endF fz A) p).2.2.1 = (raF R A p).2.2.1 ∧ (appF D (endF fz A) p).2.2.2 = (raF R A p).2.2.2 ∧ Good (n + 1) (appF D (endF fz A) p).1 (raF R A p).1 ∧ (appF D (endF fz A) p).2.1 = endF fz (raF R A p).2.1 ∧ ∃ t', Rest (appF D (endF fz A) p).1.b (raF R A p).2.1 t' := by
  obtain ⟨e, hg⟩ := g.put ((endF fz A).fin : Int) (frm A p)
  have hlen := h.len
  have hD := g.len; have hc := g.cap9
  have h2 := put_len hD ((endF fz A).fin : Int) (frm A p)
  have ea : appF D (endF fz A) p = if (D.put ((endF fz A).fin : Int) (frm A p)).2 = 0 then ((D.put ((endF fz A).fin : Int) (frm A p)).1, fdOf (endF fz A) p, nextN (endF fz A), 0) else ((D.put ((endF fz A).fin : Int) (frm A p)).1, endF fz A, 0, (D.put ((endF fz A).fin : Int) (frm A p)).2) := by
    unfold appF; rw [if_neg (show ¬ 65535 < p.length by omega)]; rfl
  have er : raF R A p = if (R.put ((endF fz A).fin : Int) (frm A p)).2 = 0 then ((R.put ((endF fz A).fin : Int) (frm A p)).1, A ++ [p], A.length + 1, 0) else ((R.put ((endF fz A).fin : Int) (frm A p)).1, A, 0, (R.put ((endF fz A).fin : Int) (frm A p)).2) := by
    unfold raF; rw [if_neg (show ¬ 65535 < p.length by omega)]
  rw [ea, er]
  by_cases he : (D.put ((endF fz A).fin : Int) (frm A p)).2 = 0
  · rw [if_pos he, if_pos (by rw [← e]; exact he)]
    have hin : (encF fz A).length + (frm A p).length ≤ D.cap := by
      have he' := he
      unfold Dsk.put at he'
      rw [fz_fin] at he'
      split at he'
      · exact absurd he' (by decide : ¬ (10 : Nat) = 0)
      split at he'
      · exact absurd he' (by decide : ¬ (1 : Nat) = 0)
      split at he'
      · exact absurd he' (by decide : ¬ (7 : Nat) = 0)
      · omega
    obtain ⟨t', _, h1⟩ := put_rest (l := frm A p) h (by omega)
    refine ⟨h.num, rfl, hg, (end_snoc A p).symm, t.drop (frm A p).length, ⟨?_, fun q hq => ?_, by show (D.put ((endF fz A).fin : Int) (frm A p)).1.b.length ≤ 1048576; omega⟩⟩
    · rw [enc_snoc, List.append_assoc]; exact h1 he
    · rcases List.mem_append.1 hq with hq | hq
      · exact h.a q hq
      · rw [List.mem_singleton.1 hq]; omega
  · rw [if_neg he, if_neg (by rw [← e]; exact he)]
    refine ⟨rfl, e, hg, rfl, ?_⟩
    have hb : D.b.length = (encF fz A).length + t.length := by omega
    by_cases hin : (encF fz A).length + (frm A p).length ≤ 1048576
    · obtain ⟨t', h1, _⟩ := put_rest (l := frm A p) h hin
      exact ⟨t', h1, h.a, by show (D.put ((endF fz A).fin : Int) (frm A p)).1.b.length ≤ 1048576; omega⟩
    · have hu : (D.put ((endF fz A).fin : Int) (frm A p)).1 = D := by
        unfold Dsk.put
        rw [fz_fin]
        split
        · rfl
        split
        · rfl
        split
        · rfl
        · omega
      refine ⟨t, ?_⟩
      show Rest (D.put ((endF fz A).fin : Int) (frm A p)).1.b A t
      rw [hu]; exact h
abbrev xbox (g gr : Nat) (pl pm : Value) : Obj := .cells #[.pointer (some ⟨g, 0, none⟩), pl, .pointer (some ⟨gr, 0, none⟩), pm] 53 (0, 0)
/-- Both in one world: the program's blocks P, the document's Q, the pair's X, and others. -/
structure Pl (w0 w : World) (P Q F : Nat → Prop) (X g gr : Nat) (v vr : Value) (D : Dsk) (R : Rsk) (n : Nat) (pl pm : Value) : Prop where
  s : DsW w0 w g v D n
  r : RefAt w gr vr R
  box : w.heap[X]? = some (xbox g gr pl pm)
  pg : P g
  pv : ∀ k, blk v k → P k
  qg : Q gr
  qv : ∀ k, blk vr k → Q k
  pa : ∀ k, P k → w0.heap.size ≤ k ∧ k < w.heap.size ∧ ¬ Q k ∧ k ≠ X ∧ ¬ F k
  qa : ∀ k, Q k → w0.heap.size ≤ k ∧ k < w.heap.size ∧ k ≠ X ∧ ¬ F k
  xa : w0.heap.size ≤ X ∧ ¬ F X
  fa : ∀ k, F k → k < w.heap.size
/-- Blocks made by a call. -/
def With (P : Nat → Prop) (w w' : World) (k : Nat) : Prop := P k ∨ (w.heap.size ≤ k ∧ k < w'.heap.size)
section
variable {w0 w w' : World} {P Q F S : Nat → Prop} {X g gr n m : Nat} {v v' vr vr' : Value} {D D' : Dsk} {R R' : Rsk} {pl pm pl' pm' : Value}
theorem Pl.keptF (h : Pl w0 w P Q F X g gr v vr D R n pl pm) (k : Kept (fun _ => False) w w') : Pl w0 w' P Q F X g gr v vr D R n pl pm :=
  ⟨h.s.keptF k, h.r.kept k (fun h => h) (fun _ _ h => h), k.heap h.box (fun h => h), h.pg, h.pv, h.qg, h.qv, fun q hq => by have h1 := h.pa q hq; have h2 := k.size; exact ⟨h1.1, by omega, h1.2.2⟩, fun q hq => by have := h.qa q hq; have := k.size; exact ⟨(h.qa q hq).1, by omega, (h.qa q hq).2.2⟩, h.xa, fun q hq => by have := h.fa q hq; have := k.size; omega⟩
theorem Pl.mono (h : Pl w0 w P Q F X g gr v vr D R n pl pm) (hn : n ≤ m) : Pl w0 w P Q F X g gr v vr D R m pl pm :=
  ⟨⟨h.s.d, h.s.lo, h.s.lv, h.s.k, h.s.ok.mono hn, h.s.t⟩, h.r, h.box, h.pg, h.pv, h.qg, h.qv, h.pa, h.qa, h.xa, h.fa⟩
/-- The program's side has gone on. -/
theorem Pl.left (h : Pl w0 w P Q F X g gr v vr D R n pl pm) (k : Kept S w w') (hS : ∀ q, S q → P q) (s : DsW w0 w' g v' D' m) (f : ∀ k, blk v' k → blk v k ∨ w.heap.size ≤ k) : Pl w0 w' (With P w w') Q F X g gr v' vr D' R m pl pm := by
  have hs := k.size
  have hvl := own_lt s.d.own
  have hX := heap_lt h.box
  have hw := h.s.k.size
  refine ⟨s, h.r.kept k (fun e => (h.pa _ (hS _ e)).2.2.1 h.qg) (fun b hb e => (h.pa _ (hS _ e)).2.2.1 (h.qv b hb)), k.heap h.box (fun e => (h.pa _ (hS _ e)).2.2.2.1 rfl), .inl h.pg, fun q hq => (f q hq).imp (h.pv q) (fun e => ⟨e, hvl q hq⟩), h.qg, h.qv, fun q hq => ?_, fun q hq => ?_, h.xa, fun q hq => ?_⟩
  · rcases hq with hq | ⟨h1, h2⟩
    · have := h.pa q hq; exact ⟨this.1, by omega, this.2.2⟩
    · exact ⟨by omega, h2, fun e => by have := h.qa q e; omega, by omega, fun e => by have := h.fa q e; omega⟩
  · have := h.qa q hq; exact ⟨this.1, by omega, this.2.2⟩
  · have := h.fa q hq; omega
/-- The document's side has gone on. -/
theorem Pl.right (h : Pl w0 w P Q F X g gr v vr D R n pl pm) (k : Kept S w w') (hS : ∀ q, S q → Q q) (s : RefAt w' gr vr' R') (f : ∀ k, blk vr' k → blk vr k ∨ w.heap.size ≤ k) : Pl w0 w' P (With Q w w') F X g gr v vr' D R' n pl pm := by
  have hs := k.size
  have hvl := own_lt s.own
  have hX := heap_lt h.box
  have hw := h.s.k.size
  have hd : ∀ q, P q → ¬ S q := fun q hq e => (h.pa q hq).2.2.1 (hS q e)
  refine ⟨h.s.kept k (hd _ h.pg) (fun b hb => hd b (h.pv b hb)) (fun b hb => (h.qa b (hS b hb)).1), s, k.heap h.box (fun e => (h.qa _ (hS _ e)).2.2.1 rfl), h.pg, h.pv, .inl h.qg, fun q hq => (f q hq).imp (h.qv q) (fun e => ⟨e, hvl q hq⟩), fun q hq => ?_, fun q hq => ?_, h.xa, fun q hq => ?_⟩
  · have := h.pa q hq
    exact ⟨this.1, by omega, fun e => e.elim this.2.2.1 (fun e => by omega), this.2.2.2⟩
  · rcases hq with hq | ⟨h1, h2⟩
    · have := h.qa q hq; exact ⟨this.1, by omega, this.2.2⟩
    · exact ⟨by omega, h2, by omega, fun e => by have := h.fa q e; omega⟩
  · have := h.fa q hq; omega
/-- The pair's own block is written. -/
theorem Pl.put (h : Pl w0 w P Q F X g gr v vr D R n pl pm) (pl' pm' : Value) : Pl w0 ((w.setCell ⟨X, 1, none⟩ pl').setCell ⟨X, 3, none⟩ pm') P Q F X g gr v vr D R n pl' pm' := by
  have k : Kept (fun q => q = X) w ((w.setCell ⟨X, 1, none⟩ pl').setCell ⟨X, 3, none⟩ pm') := ((Kept.refl (fun q => q = X) w).set X 1 (fun _ => rfl) _).set X 3 (fun _ => rfl) _
  have hs := k.size
  have hw := h.s.k.size
  refine ⟨h.s.kept k (fun e => (h.pa _ h.pg).2.2.2.1 e) (fun b hb e => (h.pa _ (h.pv b hb)).2.2.2.1 e) (fun b hb => by rw [hb]; exact h.xa.1), h.r.kept k (fun e => (h.qa _ h.qg).2.2.1 e) (fun b hb e => (h.qa _ (h.qv b hb)).2.2.1 e), ?_, h.pg, h.pv, h.qg, h.qv, fun q hq => ?_, fun q hq => ?_, h.xa, fun q hq => ?_⟩
  · have e : xbox g gr pl' pm' = .cells ((#[.pointer (some ⟨g, 0, none⟩), pl, .pointer (some ⟨gr, 0, none⟩), pm].setIfInBounds 1 pl').setIfInBounds 3 pm') 53 (0, 0) := rfl
    rw [e]
    exact heap_set (heap_set h.box 1 _) 3 _
  · have := h.pa q hq; exact ⟨this.1, by omega, this.2.2⟩
  · have := h.qa q hq; exact ⟨this.1, by omega, this.2.2⟩
  · have := h.fa q hq; omega
end
/-- Both logs: none, or of the same payloads. -/
def Logs (w0 w : World) (P Q : Nat → Prop) (g gr : Nat) (v vr : Value) (b : List UInt8) (pl pm : Value) (A : List (List UInt8)) : Prop :=
  (pl = .pointer none ∧ pm = .pointer none) ∨
  ∃ BL GR vl us t, pl = .pointer (some ⟨BL, 0, none⟩) ∧ pm = .pointer (some ⟨GR, 0, none⟩) ∧ Bx w0 w g v BL (endF fz A) ∧ P BL ∧ RLog w (fun q => Q q ∧ q ≠ gr ∧ ¬ blk vr q) GR gr vl us A ∧ Rest b A t
theorem Logs.keptF {w0 w w' : World} {P Q : Nat → Prop} {g gr : Nat} {v vr : Value} {b : List UInt8} {pl pm : Value} {A : List (List UInt8)} (h : Logs w0 w P Q g gr v vr b pl pm A) (k : Kept (fun _ => False) w w') : Logs w0 w' P Q g gr v vr b pl pm A := by
  rcases h with h | ⟨BL, GR, vl, us, t, h1, h2, h3, h4, h5, h6⟩
  · exact .inl h
  · exact .inr ⟨BL, GR, vl, us, t, h1, h2, h3.keptF k, h4, h5.kept k (fun _ _ h => h), h6⟩
/-- What both do. -/
def Both15 (w0 : World) (F : Nat → Prop) (X g gr n : Nat) (w' : World) : Prop :=
  ∃ P Q v vr D R pl pm A, Pl w0 w' P Q F X g gr v vr D R n pl pm ∧ Good n D R ∧ Logs w0 w' P Q g gr v vr D.b pl pm A
set_option maxHeartbeats 4000000 in
theorem recovers_any (w0 w : World) (P Q F : Nat → Prop) (X g gr : Nat) (v vr : Value) (D : Dsk) (R : Rsk) (n : Nat) (pl pm : Value) (h : Pl w0 w P Q F X g gr v vr D R n pl pm) (hg : Good n D R) (hn : n ≤ 900) :
    Calls Tryd.prog 20 #[.pointer (some ⟨X, 0, none⟩)] w fun e w' => e = .returned (.bool true) ∧ Both15 w0 F X g gr (n + 1) w' ∧ Keeps F w w' ∧ Kept (fun k => w0.heap.size ≤ k) w w' := by
  have c0 := heap_cell h.box 0; have c2 := heap_cell h.box 2
  have H := Lw.hid h; have HG := Lw.hid hg
  have hxl := heap_lt h.box
  clear h hg
  go_enter Tryd.func20, Tryd.ntmps20
  go_wp2_with fail
  refine (rec_w H.out.s (by omega)).mono ?_
  rintro e w1 ⟨v1, s1, _, hres, kx, fx⟩
  have L1 := Lw.hid (H.out.left kx (fun q hq => hq.elim (fun e => e ▸ H.out.pg) (H.out.pv q)) s1 fx)
  have KX := Lw.hid kx
  have e2 : w1.cell? ⟨X, 2, none⟩ = some (.pointer (some ⟨gr, 0, none⟩)) := heap_cell L1.out.box 2
  have HA := rec_alike HG.out
  have HAL := Lw.hid HA
  have hw1 := kx.size
  clear s1 kx fx HA
  have KF1 : Hid (Keeps F w w1) := Lw.hid (KX.out.keeps (fun q _ hq e => e.elim (fun e => (H.out.pa _ (e ▸ H.out.pg)).2.2.2.2 (e ▸ hq)) (fun e => (H.out.pa _ (H.out.pv q e)).2.2.2.2 hq)))
  have KW1 : Hid (Kept (fun k => w0.heap.size ≤ k) w w1) := Lw.hid (KX.out.mono (fun q _ e => e.elim (fun e => (H.out.pa _ (e ▸ H.out.pg)).1) (fun e => (H.out.pa _ (H.out.pv q e)).1)))
  obtain ⟨P1, hP1⟩ : ∃ P1, With P w w1 = P1 := ⟨_, rfl⟩
  have HP1 := Lw.hid hP1
  rw [hP1] at L1
  clear hP1
  rcases hres with ⟨hne, rfl⟩ | ⟨h0, BL, rfl, bx, hBL⟩
  · obtain ⟨er, her⟩ : ∃ er, (recF D).2 = er := ⟨_, rfl⟩
    have HNE := Lw.hid hne; have HER := Lw.hid her
    rw [her]
    clear hne her
    go_wp2_with fail
    refine (rrec_any w1 gr vr R L1.out.r (HG.out.rok (by omega))).mono ?_
    rintro e w2 ⟨vr2, r2, k2, f2, hres⟩
    have L2 := Lw.hid (L1.out.right k2 (fun q hq => hq.elim (fun e => e ▸ L1.out.qg) (L1.out.qv q)) r2 f2)
    have KF2 : Hid (Keeps F w1 w2) := Lw.hid (k2.keeps (fun q _ hq e => e.elim (fun e => (L1.out.qa _ (e ▸ L1.out.qg)).2.2.2 (e ▸ hq)) (fun e => (L1.out.qa _ (L1.out.qv q e)).2.2.2 hq)))
    have KW2 : Hid (Kept (fun k => w0.heap.size ≤ k) w1 w2) := Lw.hid (k2.mono (fun q _ e => e.elim (fun e => (L1.out.qa _ (e ▸ L1.out.qg)).1) (fun e => (L1.out.qa _ (L1.out.qv q e)).1)))
    clear r2 k2 f2
    rcases hres with ⟨hne', rfl⟩ | ⟨h0', _⟩
    · rw [← HAL.out.1, HER.out]
      have x1 := heap_cell L2.out.box 1; have x3 := heap_cell L2.out.box 3
      have y1 := heap_free L2.out.box 1; have y3 := heap_free L2.out.box 3
      clear hne'
      go_wp2_with fail
      go_ret
      have L3 := L2.out.put (.pointer none) (.pointer none)
      have k3 : Kept (fun q => q = X) w2 ((w2.setCell ⟨X, 1, none⟩ (.pointer none)).setCell ⟨X, 3, none⟩ (.pointer none)) := ((Kept.refl (fun q => q = X) w2).set X 1 (fun _ => rfl) _).set X 3 (fun _ => rfl) _
      exact ⟨rfl, ⟨_, _, _, _, _, _, _, _, [], L3, HAL.out.2, .inl ⟨rfl, rfl⟩⟩, (KF1.out.trans KF2.out).trans (k3.keeps (fun q _ hq e => H.out.xa.2 (e ▸ hq))), (KW1.out.trans KW2.out (fun _ _ h => h)).trans k3 (fun i _ e => by rw [e]; exact H.out.xa.1)⟩
    · exact absurd (HAL.out.1.trans h0') (by rw [HER.out]; exact fun e => HNE.out (HER.out.trans e))
  · have H0 := Lw.hid h0; have BX := Lw.hid bx
    clear h0 bx
    go_wp2_with fail
    refine (rrec_any w1 gr vr R L1.out.r (HG.out.rok (by omega))).mono ?_
    rintro e w2 ⟨vr2, r2, k2, f2, hres⟩
    have L2 := Lw.hid (L1.out.right k2 (fun q hq => hq.elim (fun e => e ▸ L1.out.qg) (L1.out.qv q)) r2 f2)
    have K2 := Lw.hid k2
    have KF2 : Hid (Keeps F w1 w2) := Lw.hid (k2.keeps (fun q _ hq e => e.elim (fun e => (L1.out.qa _ (e ▸ L1.out.qg)).2.2.2 (e ▸ hq)) (fun e => (L1.out.qa _ (L1.out.qv q e)).2.2.2 hq)))
    have KW2 : Hid (Kept (fun k => w0.heap.size ≤ k) w1 w2) := Lw.hid (k2.mono (fun q _ e => e.elim (fun e => (L1.out.qa _ (e ▸ L1.out.qg)).1) (fun e => (L1.out.qa _ (L1.out.qv q e)).1)))
    clear r2 k2 f2
    rcases hres with ⟨hne', _⟩ | ⟨_, GR, vl, us, A, t, rfl, hrest, hla, hrl⟩
    · exact absurd (HAL.out.1.symm.trans H0.out) hne'
    · have HREST := Lw.hid hrest; have HLA := Lw.hid hla; have HRL := Lw.hid hrl
      have x1 := heap_cell L2.out.box 1; have x3 := heap_cell L2.out.box 3
      have y1 := heap_free L2.out.box 1; have y3 := heap_free L2.out.box 3
      clear hrest hla hrl
      go_wp2_with fail
      go_ret
      have L3 := L2.out.put (.pointer (some ⟨BL, 0, none⟩)) (.pointer (some ⟨GR, 0, none⟩))
      have k3 : Kept (fun q => q = X) w2 ((w2.setCell ⟨X, 1, none⟩ (.pointer (some ⟨BL, 0, none⟩))).setCell ⟨X, 3, none⟩ (.pointer (some ⟨GR, 0, none⟩))) := ((Kept.refl (fun q => q = X) w2).set X 1 (fun _ => rfl) _).set X 3 (fun _ => rfl) _
      have hbl1 := heap_lt BX.out.box
      have hP : P1 BL := by rw [← HP1.out]; exact .inr ⟨hBL, hbl1⟩
      have hbX : BL ≠ X := (L1.out.pa BL hP).2.2.2.1
      have hBX2 : w2.heap[BL]? = some (logB g (lastF D.b)) := K2.out.heap BX.out.box (fun e => (L1.out.pa BL hP).2.2.1 (e.elim (fun e => e ▸ L1.out.qg) (L1.out.qv BL)))
      have hrb : Rest D.b A t := by rw [HG.out.b]; exact HREST.out
      have hld : lastF D.b = endF fz A := by rw [HG.out.b]; exact HLA.out
      obtain ⟨t', ht'⟩ := rec_rest HG.out hrb hld
      refine ⟨rfl, ⟨_, _, _, _, _, _, _, _, A, L3, HAL.out.2, .inr ⟨BL, GR, vl, us, t', rfl, rfl, ⟨?_, BX.out.ne, BX.out.ap, BX.out.lo⟩, hP, (HRL.out.kept k3 (fun q hq e => by omega)).mono (fun q hq => ⟨.inr ⟨hq.1, hq.2.1⟩, fun e => by have := (L1.out.qa _ L1.out.qg).2.1; omega, hq.2.2⟩), ht'⟩⟩, (KF1.out.trans KF2.out).trans (k3.keeps (fun q _ hq e => H.out.xa.2 (e ▸ hq))), (KW1.out.trans KW2.out (fun _ _ h => h)).trans k3 (fun i _ e => by rw [e]; exact H.out.xa.1)⟩
      rw [hld] at hBX2
      exact k3.heap hBX2 hbX
end Go.Proofs.YtfmebmaklakckaaDoor
/- LogPlays: one call with both. -/
namespace Go.Proofs.YtfmebmaklakckaaDoor
open Go Go.RowKit Go.Lw
set_option maxRecDepth 100000
set_option linter.unusedVariables false
set_option linter.unusedSimpArgs false
theorem lnext_nil (w : World) : Calls Tryd.prog 9 #[.pointer none] w fun e w' => e = .returned (.int .u32 0) ∧ w = w' := by
  go_enter Tryd.func9, Tryd.ntmps9
  go_wp2_with fail
  refine (lnone_nil w).mono ?_
  rintro e _ ⟨rfl, rfl⟩
  go_wp2_with fail
  go_ret
  exact ⟨rfl, rfl⟩
theorem lsize_nil (w : World) : Calls Tryd.prog 10 #[.pointer none] w fun e w' => e = .returned (.int .i64 0) ∧ w = w' := by
  go_enter Tryd.func10, Tryd.ntmps10
  go_wp2_with fail
  refine (lnone_nil w).mono ?_
  rintro e _ ⟨rfl, rfl⟩
  go_wp2_with fail
  go_ret
  exact ⟨rfl, rfl⟩
theorem lappend_nil (w : World) (ad : Option Addr) (n cap : Nat) : Calls Tryd.prog 7 #[.pointer none, .slice ad n cap] w fun e w' => e = .returned (.tuple #[.int .u32 0, .int .i64 2]) ∧ w = w' := by
  go_enter Tryd.func7, Tryd.ntmps7
  go_wp2_with fail
  refine (lnone_nil w).mono ?_
  rintro e _ ⟨rfl, rfl⟩
  go_wp2_with fail
  refine bodyPost_ret (v := .tuple #[.int .u32 0, .int .i64 2]) (by simp [results, go_sem]) rfl ?_
  exact ⟨rfl, rfl⟩
theorem put_w {w0 w : World} {g : Nat} {v : Value} {D : Dsk} {n : Nat} (h : DsW w0 w g v D n) (hn : n ≤ 1000000) (a : Int) (ha : -9223372036854775808 ≤ a ∧ a ≤ 9223372036854775807) (src : Value) (l : List UInt8) (hs : RdB w src l) (hd : l.length ≠ 0 → ∀ k, blk src k → k ≠ g ∧ ¬ blk v k) :
    Calls Tryd.prog 33 #[.pointer (some ⟨g, 0, none⟩), .int .i64 a, src] w fun e w' => e = .returned (.int .i64 ((D.put a l).2 : Int)) ∧ ∃ v', DsW w0 w' g v' (D.put a l).1 (n + 1) ∧ (∀ BL s, Bx w0 w g v BL s → Bx w0 w' g v' BL s) ∧ Kept (fun k => k = g ∨ blk v k) w w' ∧ ∀ k, blk v' k → blk v k ∨ w.heap.size ≤ k :=
  (dput_any w g v D h.d (h.ok.ok hn) a ha src l hs hd).mono fun e w' hpp => ⟨hpp.1, h.post hpp.2 (h.ok.put a l)⟩
theorem Dsk.plan_b (D : Dsk) (p q : Int) : (D.plan p q).1.b = D.b := by unfold Dsk.plan; split; rfl; split <;> rfl
theorem Dsk.revive_b (D : Dsk) : D.revive.1.b = D.b := by unfold Dsk.revive; split <;> rfl
section
variable {w0 w w' : World} {P Q F S : Nat → Prop} {X g gr n m : Nat} {v v' vr vr' : Value} {D D' : Dsk} {R R' : Rsk} {pl pm pl' pm' : Value} {A : List (List UInt8)} {b : List UInt8}
theorem Logs.left (h : Pl w0 w P Q F X g gr v vr D R n pl pm) (l : Logs w0 w P Q g gr v vr b pl pm A) (k : Kept S w w') (hS : ∀ q, S q → P q) (hb : ∀ BL s, Bx w0 w g v BL s → Bx w0 w' g v' BL s) : Logs w0 w' (With P w w') Q g gr v' vr b pl pm A := by
  rcases l with l | ⟨BL, GR, vl, us, t, h1, h2, h3, h4, h5, h6⟩
  · exact .inl l
  · exact .inr ⟨BL, GR, vl, us, t, h1, h2, hb _ _ h3, .inl h4, h5.kept k (fun q hq e => (h.pa q (hS q e)).2.2.1 hq.1), h6⟩
theorem Logs.right (h : Pl w0 w P Q F X g gr v vr D R n pl pm) (l : Logs w0 w P Q g gr v vr b pl pm A) (k : Kept (fun q => q = gr ∨ blk vr q) w w') (f : ∀ k, blk vr' k → blk vr k ∨ w.heap.size ≤ k) : Logs w0 w' P (With Q w w') g gr v vr' b pl pm A := by
  rcases l with l | ⟨BL, GR, vl, us, t, h1, h2, h3, h4, h5, h6⟩
  · exact .inl l
  · exact .inr ⟨BL, GR, vl, us, t, h1, h2, ⟨k.heap h3.box (fun e => (h.pa _ h4).2.2.1 (e.elim (fun e => e ▸ h.qg) (h.qv _))), h3.ne, h3.ap, h3.lo⟩, h4, (h5.kept k (fun q hq e => e.elim hq.2.1 hq.2.2)).mono (fun q hq => ⟨.inl hq.1, hq.2.1, fun e => (f q e).elim hq.2.2 (fun e => by have := (h.qa q hq.1).2.1; omega)⟩), h6⟩
/-- What a call of the program's side may turn. -/
theorem Pl.gone (h : Pl w0 w P Q F X g gr v vr D R n pl pm) (k : Kept (fun q => q = g ∨ blk v q) w w') : (∀ q, (q = g ∨ blk v q) → P q) ∧ Keeps F w w' ∧ Kept (fun q => w0.heap.size ≤ q) w w' :=
  ⟨fun q e => e.elim (fun e => e ▸ h.pg) (h.pv q), k.keeps (fun q _ hq e => (h.pa q (e.elim (fun e => e ▸ h.pg) (h.pv q))).2.2.2.2 hq), k.mono (fun q _ e => (h.pa q (e.elim (fun e => e ▸ h.pg) (h.pv q))).1)⟩
theorem Pl.gone' (h : Pl w0 w P Q F X g gr v vr D R n pl pm) (k : Kept (fun q => q = gr ∨ blk vr q) w w') : (∀ q, (q = gr ∨ blk vr q) → Q q) ∧ Keeps F w w' ∧ Kept (fun q => w0.heap.size ≤ q) w w' :=
  ⟨fun q e => e.elim (fun e => e ▸ h.qg) (h.qv q), k.keeps (fun q _ hq e => (h.qa q (e.elim (fun e => e ▸ h.qg) (h.qv q))).2.2.2 hq), k.mono (fun q _ e => (h.qa q (e.elim (fun e => e ▸ h.qg) (h.qv q))).1)⟩
end
/-- A row of calls, each on its side: what stands behind s of them. -/
def St15 (w0 w : World) (F : Nat → Prop) (X g gr m : Nat) (pl pm : Value) (D D1 : Dsk) (R R1 : Rsk) (lg : Bool) (b : List UInt8) (A : List (List UInt8)) (s : Nat) (w' : World) : Prop :=
  (∃ P Q v vr D' R' c, c ≤ m + s ∧ Pl w0 w' P Q F X g gr v vr D' R' c pl pm ∧ (s = 0 → D' = D ∧ R' = R) ∧ (s = 1 → D' = D1 ∧ R' = R) ∧ (s = 2 → D' = D1 ∧ R' = R1) ∧ (lg = true → Logs w0 w' P Q g gr v vr b pl pm A)) ∧
  Keeps F w w' ∧ Kept (fun q => w0.heap.size ≤ q) w w'
section
variable {w0 w w' wy : World} {P Q F : Nat → Prop} {X g gr m c c' : Nat} {v v' vr vr' : Value} {D D1 : Dsk} {R R1 : Rsk} {pl pm : Value} {A : List (List UInt8)} {b : List UInt8} {lg : Bool}
theorem st_start (h : Pl w0 w P Q F X g gr v vr D R m pl pm) (hl : lg = true → Logs w0 w P Q g gr v vr b pl pm A) : St15 w0 w F X g gr m pl pm D D1 R R1 lg b A 0 w.drew :=
  ⟨⟨P, Q, v, vr, D, R, m, Nat.le_refl _, h.keptF (Kept.refl _ _).drew, fun _ => ⟨rfl, rfl⟩, fun h => absurd h (by decide), fun h => absurd h (by decide), fun e => (hl e).keptF (Kept.refl _ _).drew⟩, (Kept.refl (fun _ => False) _).drew.keeps (fun _ _ _ h => h), (Kept.refl _ _).drew⟩
theorem st_left (h : Pl w0 w' P Q F X g gr v vr D R c pl pm) (hl : lg = true → Logs w0 w' P Q g gr v vr b pl pm A) (h6 : Keeps F w w') (h7 : Kept (fun q => w0.heap.size ≤ q) w w') (s : DsW w0 wy g v' D1 c') (hc : c' ≤ m + 1) (hb : ∀ BL s, Bx w0 w' g v BL s → Bx w0 wy g v' BL s) (k : Kept (fun q => q = g ∨ blk v q) w' wy) (f : ∀ q, blk v' q → blk v q ∨ w'.heap.size ≤ q) : St15 w0 w F X g gr m pl pm D D1 R R1 lg b A 1 wy := by
  obtain ⟨e1, e2, e3⟩ := h.gone k
  exact ⟨⟨_, Q, v', vr, D1, R, c', hc, h.left k e1 s f, fun h => absurd h (by decide), fun _ => ⟨rfl, rfl⟩, fun h => absurd h (by decide), fun e => (hl e).left h k e1 hb⟩, h6.trans e2, h7.trans e3 (fun _ _ h => h)⟩
theorem st_right (h : Pl w0 w' P Q F X g gr v vr D1 R c pl pm) (hc : c ≤ m + 1) (hl : lg = true → Logs w0 w' P Q g gr v vr b pl pm A) (h6 : Keeps F w w') (h7 : Kept (fun q => w0.heap.size ≤ q) w w') (hp : RPost w' wy gr vr R1) : St15 w0 w F X g gr m pl pm D D1 R R1 lg b A 2 wy := by
  obtain ⟨vr', r, k, f⟩ := hp
  obtain ⟨e1, e2, e3⟩ := h.gone' k
  exact ⟨⟨P, _, v, vr', D1, R1, c, by omega, h.right k e1 r f, fun h => absurd h (by decide), fun h => absurd h (by decide), fun _ => ⟨rfl, rfl⟩, fun e => (hl e).right h k f⟩, h6.trans e2, h7.trans e3 (fun _ _ h => h)⟩
/-- One more block beside. -/
theorem Pl.beside (h : Pl w0 w P Q F X g gr v vr D R m pl pm) (o : Obj) : Pl w0 (w.alloc o) P Q (fun q => F q ∨ q = w.heap.size) X g gr v vr D R m pl pm := by
  have k : Kept (fun _ => False) w (w.alloc o) := (Kept.refl _ w).alloc o
  have h2 := h.keptF k
  have hX := heap_lt h.box
  exact ⟨h2.s, h2.r, h2.box, h2.pg, h2.pv, h2.qg, h2.qv, fun q hq => ⟨(h2.pa q hq).1, (h2.pa q hq).2.1, (h2.pa q hq).2.2.1, (h2.pa q hq).2.2.2.1, fun e => e.elim (h2.pa q hq).2.2.2.2 (fun e => by have := (h.pa q hq).2.1; omega)⟩, fun q hq => ⟨(h2.qa q hq).1, (h2.qa q hq).2.1, (h2.qa q hq).2.2.1, fun e => e.elim (h2.qa q hq).2.2.2 (fun e => by have := (h.qa q hq).2.1; omega)⟩, ⟨h2.xa.1, fun e => e.elim h2.xa.2 (fun e => by omega)⟩, fun q hq => hq.elim (h2.fa q) (fun e => by simp; omega)⟩
theorem Pl.fewer {F' : Nat → Prop} (h : Pl w0 w P Q F X g gr v vr D R m pl pm) (hF : ∀ q, F' q → F q) : Pl w0 w P Q F' X g gr v vr D R m pl pm :=
  ⟨h.s, h.r, h.box, h.pg, h.pv, h.qg, h.qv, fun q hq => ⟨(h.pa q hq).1, (h.pa q hq).2.1, (h.pa q hq).2.2.1, (h.pa q hq).2.2.2.1, fun e => (h.pa q hq).2.2.2.2 (hF q e)⟩, fun q hq => ⟨(h.qa q hq).1, (h.qa q hq).2.1, (h.qa q hq).2.2.1, fun e => (h.qa q hq).2.2.2 (hF q e)⟩, ⟨h.xa.1, fun e => h.xa.2 (hF X e)⟩, fun q hq => h.fa q (hF q hq)⟩
theorem Both15.fewer {F' : Nat → Prop} (h : Both15 w0 F X g gr m w) (hF : ∀ q, F' q → F q) : Both15 w0 F' X g gr m w := by
  obtain ⟨P, Q, v, vr, D, R, pl, pm, A, h1, h2, h3⟩ := h
  exact ⟨P, Q, v, vr, D, R, pl, pm, A, h1.fewer hF, h2, h3⟩
theorem Good.mono {n n' : Nat} (h : Good n D R) (hn : n ≤ n') : Good n' D R :=
  ⟨h.cap, h.b, h.puts, h.st, h.plan, h.none, h.bytes, h.len, h.cap9, by have := h.puts9; omega, by have := h.np; omega, h.nb⟩
end
/-- What a call of 'one' leaves. -/
def OnePost (w0 w : World) (F : Nat → Prop) (X g gr n : Nat) (e : Ending) (w' : World) : Prop := e = .returned (.bool true) ∧ Both15 w0 F X g gr n w' ∧ Keeps F w w' ∧ Kept (fun q => w0.heap.size ≤ q) w w'
theorem OnePost.beside {w0 w w' : World} {F : Nat → Prop} {X g gr n : Nat} {o : Obj} {e : Ending} (h : OnePost w0 (w.alloc o) (fun q => F q ∨ q = w.heap.size) X g gr n e w') (hF : ∀ q, F q → q < w.heap.size) : OnePost w0 w F X g gr n e w' := by
  obtain ⟨h1, h2, h3, h4⟩ := h
  have k : Kept (fun _ => False) w (w.alloc o) := (Kept.refl _ w).alloc o
  exact ⟨h1, h2.fewer (fun q hq => .inl hq), (k.keeps (fun _ _ _ h => h)).trans (h3.mono (fun q hq => .inl hq)), (k.mono (fun _ _ h => h.elim)).trans h4 (fun _ _ h => h)⟩
set_option maxHeartbeats 16000000 in
theorem one_any (w0 w : World) (P Q F : Nat → Prop) (X g gr : Nat) (v vr : Value) (D : Dsk) (R : Rsk) (n : Nat) (pl pm : Value) (A : List (List UInt8)) (h : Pl w0 w P Q F X g gr v vr D R n pl pm) (hg : Good n D R) (hl : Logs w0 w P Q g gr v vr D.b pl pm A) (hn : n ≤ 800)
    (tw tm tb : Int) (tv : Value) (tl : List UInt8) (hw : -9223372036854775808 ≤ tw ∧ tw ≤ 9223372036854775807) (hm : -9223372036854775808 ≤ tm ∧ tm ≤ 9223372036854775807) (hb : -9223372036854775808 ≤ tb ∧ tb ≤ 9223372036854775807) (hr : RdB w0 tv tl) (h60 : tl.length ≤ 60) :
    Calls Tryd.prog 22 #[.pointer (some ⟨X, 0, none⟩), .agg #[.int .i64 tw, .int .i64 tm, .int .i64 tb, tv]] w (OnePost w0 w F X g gr (n + 3)) := by
  obtain ⟨adp, capp, rfl, _, _, _⟩ := hr.open
  obtain ⟨pN, hpN⟩ : ∃ n, tl.length = n := ⟨_, rfl⟩
  rw [hpN] at hr h60 ⊢
  have HPN := Lw.hid hpN; have HR := Lw.hid hr
  have HRT : Hid (tl.length ≠ 0 → ∀ k, blk (.slice adp pN capp) k → k < w0.heap.size) := Lw.hid hr.lt
  have hfa : Hid (∀ q, F q → q < w.heap.size) := Lw.hid h.fa
  have hb1 := h.beside (.cells #[.int .i64 tw, .int .i64 tm, .int .i64 tb, .slice adp pN capp] 56)
  have hlb := hl.keptF ((Kept.refl (fun _ => False) w).alloc (.cells #[.int .i64 tw, .int .i64 tm, .int .i64 tb, .slice adp pN capp] 56))
  have hbx := heap_alloc w (.cells #[.int .i64 tw, .int .i64 tm, .int .i64 tb, .slice adp pN capp] 56)
  obtain ⟨BA, hBA⟩ : ∃ BA, w.heap.size = BA := ⟨_, rfl⟩
  obtain ⟨wB, hwB⟩ : ∃ wB, w.alloc (.cells #[.int .i64 tw, .int .i64 tm, .int .i64 tb, .slice adp pN capp] 56) = wB := ⟨_, rfl⟩
  obtain ⟨F', hF'⟩ : ∃ F', (fun q => F q ∨ q = BA) = F' := ⟨_, rfl⟩
  have hpost : ∀ e w', OnePost w0 wB F' X g gr (n + 3) e w' → OnePost w0 w F X g gr (n + 3) e w' := fun e w' hp => by
    rw [← hwB, ← hF', ← hBA] at hp
    exact hp.beside hfa.out
  rw [hwB, hBA, hF'] at hb1
  rw [hwB] at hlb hbx
  rw [hBA] at hbx
  have hFB : F' BA := by rw [← hF']; exact .inr rfl
  refine Calls.mono ?_ hpost
  have HB := Lw.hid hb1; have HLB := Lw.hid hlb; have HG := Lw.hid hg; have HWB := Lw.hid hwB; have HBA := Lw.hid hBA; have HBX := Lw.hid hbx; have HFB := Lw.hid hFB
  clear h hg hl hr hpN hb1 hlb hwB hBA hF' hbx hpost hFB
  have b0 := heap_cell HBX.out 0; have b1 := heap_cell HBX.out 1; have b2 := heap_cell HBX.out 2; have b3 := heap_cell HBX.out 3
  have c0 := heap_cell HB.out.box 0; have c1 := heap_cell HB.out.box 1; have c2 := heap_cell HB.out.box 2; have c3 := heap_cell HB.out.box 3
  go_enter Tryd.func22, Tryd.ntmps22
  go_upto_if 11 with fail
  rw [HWB.out, HBA.out]
  go_cut [11] from 12 to 16 (fun sx wx => sx = .bool (decide (0 ≤ tw ∧ tw ≤ 4)) ∧ wx = wB)
  case first =>
    have hcs : tw = 0 ∨ tw = 1 ∨ tw = 2 ∨ tw = 3 ∨ tw = 4 ∨ ¬ (0 ≤ tw ∧ tw ≤ 4) := by omega
    rcases hcs with h | h | h | h | h | h
    · have q0 : (tw == 0) = true := by rw [beq_iff_eq]; omega
      have hd : decide (0 ≤ tw ∧ tw ≤ 4) = true := by simp; omega
      go_wp2_with fail
      go_meet
      case rel => exact ⟨by rw [hd, q0], rfl⟩
    · have q0 : (tw == 0) = false := by rw [beq_eq_false_iff_ne]; omega
      have q1 : (tw == 1) = true := by rw [beq_iff_eq]; omega
      have hd : decide (0 ≤ tw ∧ tw ≤ 4) = true := by simp; omega
      go_wp2_with fail
      go_meet
      case rel => exact ⟨by rw [hd], rfl⟩
    · have q0 : (tw == 0) = false := by rw [beq_eq_false_iff_ne]; omega
      have q1 : (tw == 1) = false := by rw [beq_eq_false_iff_ne]; omega
      have q2 : (tw == 2) = true := by rw [beq_iff_eq]; omega
      have hd : decide (0 ≤ tw ∧ tw ≤ 4) = true := by simp; omega
      go_wp2_with fail
      go_meet
      case rel => exact ⟨by rw [hd], rfl⟩
    · have q0 : (tw == 0) = false := by rw [beq_eq_false_iff_ne]; omega
      have q1 : (tw == 1) = false := by rw [beq_eq_false_iff_ne]; omega
      have q2 : (tw == 2) = false := by rw [beq_eq_false_iff_ne]; omega
      have q3 : (tw == 3) = true := by rw [beq_iff_eq]; omega
      have hd : decide (0 ≤ tw ∧ tw ≤ 4) = true := by simp; omega
      go_wp2_with fail
      go_meet
      case rel => exact ⟨by rw [hd], rfl⟩
    · have q0 : (tw == 0) = false := by rw [beq_eq_false_iff_ne]; omega
      have q1 : (tw == 1) = false := by rw [beq_eq_false_iff_ne]; omega
      have q2 : (tw == 2) = false := by rw [beq_eq_false_iff_ne]; omega
      have q3 : (tw == 3) = false := by rw [beq_eq_false_iff_ne]; omega
      have q4 : (tw == 4) = true := by rw [beq_iff_eq]; omega
      have hd : decide (0 ≤ tw ∧ tw ≤ 4) = true := by simp; omega
      go_wp2_with fail
      go_meet
      case rel => exact ⟨by rw [hd], rfl⟩
    · have q0 : (tw == 0) = false := by rw [beq_eq_false_iff_ne]; omega
      have q1 : (tw == 1) = false := by rw [beq_eq_false_iff_ne]; omega
      have q2 : (tw == 2) = false := by rw [beq_eq_false_iff_ne]; omega
      have q3 : (tw == 3) = false := by rw [beq_eq_false_iff_ne]; omega
      have q4 : (tw == 4) = false := by rw [beq_eq_false_iff_ne]; omega
      have hd : decide (0 ≤ tw ∧ tw ≤ 4) = false := by rw [decide_eq_false_iff_not]; exact h
      go_wp2_with fail
      go_meet
      case rel => exact ⟨by rw [hd], rfl⟩
  case rest =>
    obtain ⟨rfl, rfl⟩ := hcut
    by_cases hap : 0 ≤ tw ∧ tw ≤ 4
    · have hd : decide (0 ≤ tw ∧ tw ≤ 4) = true := decide_eq_true hap
      rw [hd]
      clear hd
      rcases HLB.out with ⟨rfl, rfl⟩ | ⟨BL, GR, vl, us, t, rfl, rfl, hbx, hPB, hrl, hrest⟩
      · go_wp2_with fail
        refine wp_region_tail 12 [stV (.pointer (some ⟨X, 0, none⟩)), stV (.pointer (some ⟨X, 0, none⟩)), stV (.pointer (some ⟨X, 1, none⟩)), stV (.pointer none), stV (.pointer (some ⟨BA, 3, none⟩)), stV (.slice adp pN capp), stV (.tuple #[.int .u32 0, .int .i64 2]), stV (.tuple #[.int .u32 0, .int .i64 2]), stV (.int .u32 0), stV (.int .i64 2), stV (.int .u32 0), stV (.int .i64 2)] (by kernel_rfl) (by kernel_rfl) ?_ ?_
        · -- each operation by itself
          refine ssteps_cons (fun a' w' hI hag hf K hK => ?_) ?_
          · have s0 := hag.same 0 (by decide)
            clear hag
            go_wp2_with fail
            exact hK _ _ hI (Kept.refl _ _) rfl
          refine ssteps_cons (fun a' w' hI hag hf K hK => ?_) ?_
          · obtain ⟨⟨_, h0, rfl⟩, -⟩ : SFacts _ _ a' w' [0] := hf
            clear hag
            go_wp2_with fail
            exact hK _ _ hI (Kept.refl _ _) rfl
          refine ssteps_cons (fun a' w' hI hag hf K hK => ?_) ?_
          · obtain ⟨⟨_, h1, rfl⟩, -⟩ : SFacts _ _ a' w' [1] := hf
            clear hag
            go_wp2_with fail
            exact hK _ _ hI (Kept.refl _ _) rfl
          refine ssteps_cons (fun a' w' hI hag hf K hK => ?_) ?_
          · obtain ⟨⟨_, h2, rfl⟩, -⟩ : SFacts _ _ a' w' [2] := hf
            clear hag
            have HI' := Lw.hid hI
            have cc := hI.cell c1 (fun h => h)
            clear hI
            go_wp2_with fail
            exact hK _ _ HI'.out (Kept.refl _ _) rfl
          refine ssteps_cons (fun a' w' hI hag hf K hK => ?_) ?_
          · have s3 := hag.same 3 (by decide)
            clear hag
            go_wp2_with fail
            exact hK _ _ hI (Kept.refl _ _) rfl
          refine ssteps_cons (fun a' w' hI hag hf K hK => ?_) ?_
          · obtain ⟨⟨_, h4, rfl⟩, -⟩ : SFacts _ _ a' w' [4] := hf
            clear hag
            have HI' := Lw.hid hI
            have cc := hI.cell b3 (fun h => h)
            clear hI
            go_wp2_with fail
            exact hK _ _ HI'.out (Kept.refl _ _) rfl
          refine ssteps_cons (fun a' w' hI hag hf K hK => ?_) ?_
          · obtain ⟨⟨_, h3, rfl⟩, ⟨_, h5, rfl⟩, -⟩ : SFacts _ _ a' w' [3, 5] := hf
            clear hag
            have HI' := Lw.hid hI
            clear hI
            go_wp2_with fail
            refine (lappend_nil w' adp pN capp).mono ?_
            rintro e _ ⟨rfl, rfl⟩
            go_wp2_with fail
            exact hK _ _ HI'.out (Kept.refl _ _) rfl
          refine ssteps_cons (fun a' w' hI hag hf K hK => ?_) ?_
          · obtain ⟨⟨_, h6, rfl⟩, -⟩ : SFacts _ _ a' w' [6] := hf
            clear hag
            go_wp2_with fail
            exact hK _ _ hI (Kept.refl _ _) rfl
          refine ssteps_cons (fun a' w' hI hag hf K hK => ?_) ?_
          · obtain ⟨⟨_, h7, rfl⟩, -⟩ : SFacts _ _ a' w' [7] := hf
            clear hag
            go_wp2_with fail
            exact hK _ _ hI (Kept.refl _ _) rfl
          refine ssteps_cons (fun a' w' hI hag hf K hK => ?_) ?_
          · obtain ⟨⟨_, h7, rfl⟩, -⟩ : SFacts _ _ a' w' [7] := hf
            clear hag
            go_wp2_with fail
            exact hK _ _ hI (Kept.refl _ _) rfl
          refine ssteps_cons (fun a' w' hI hag hf K hK => ?_) ?_
          · obtain ⟨⟨_, h8, rfl⟩, -⟩ : SFacts _ _ a' w' [8, 6, 0, 1, 2, 3, 4, 5, 7] := hf
            clear hag
            go_wp2_with fail
            exact hK _ _ hI (Kept.refl _ _) rfl
          refine ssteps_cons (fun a' w' hI hag hf K hK => ?_) ?_
          · obtain ⟨⟨_, h9, rfl⟩, -⟩ : SFacts _ _ a' w' [9, 10, 0, 1, 2, 3, 4, 5, 6, 7, 8] := hf
            clear hag
            go_wp2_with fail
            exact hK _ _ hI (Kept.refl _ _) rfl
          exact trivial
        intro vs w2 hI hvs
        have q0 : vs 0 = (.pointer (some ⟨X, 0, none⟩)) := hvs 0 _ _ rfl rfl
        have q1 : vs 1 = (.pointer (some ⟨X, 0, none⟩)) := hvs 1 _ _ rfl rfl
        have q2 : vs 2 = (.pointer (some ⟨X, 1, none⟩)) := hvs 2 _ _ rfl rfl
        have q3 : vs 3 = (.pointer none) := hvs 3 _ _ rfl rfl
        have q4 : vs 4 = (.pointer (some ⟨BA, 3, none⟩)) := hvs 4 _ _ rfl rfl
        have q5 : vs 5 = (.slice adp pN capp) := hvs 5 _ _ rfl rfl
        have q6 : vs 6 = (.tuple #[.int .u32 0, .int .i64 2]) := hvs 6 _ _ rfl rfl
        have q7 : vs 7 = (.tuple #[.int .u32 0, .int .i64 2]) := hvs 7 _ _ rfl rfl
        have q8 : vs 8 = (.int .u32 0) := hvs 8 _ _ rfl rfl
        have q9 : vs 9 = (.int .i64 2) := hvs 9 _ _ rfl rfl
        have q10 : vs 10 = (.int .u32 0) := hvs 10 _ _ rfl rfl
        have q11 : vs 11 = (.int .i64 2) := hvs 11 _ _ rfl rfl
        clear hvs
        simp only [List.take_succ_cons, List.take_zero, List.drop_succ_cons, List.drop_zero, putAll, Act.put, List.setIfInBounds_toArray, List.set_cons_zero, List.set_cons_succ, Nat.reduceAdd, q0, q1, q2, q3, q4, q5, q6, q7, q8, q9, q10, q11]
        clear q0 q1 q2 q3 q4 q5 q6 q7 q8 q9 q10 q11
        have K2 := Lw.hid hI
        clear hI
        have c32 := K2.out.cell c3 (fun h => h)
        go_wp2_with fail
        go_ret
        exact ⟨rfl, ⟨P, Q, v, vr, D, R, _, _, [], (HB.out.keptF K2.out).mono (by omega), HG.out.mono (by omega), .inl ⟨rfl, rfl⟩⟩, K2.out.keeps (fun _ _ _ h => h), K2.out.mono (fun _ _ h => h.elim)⟩
      · have hfin : (endF fz A).fin ≤ 1048576 := by have := hrest.fin; have := hrest.l; omega
        have hfew := hrest.few
        have hnum := hrest.num
        have AL := app_alike (p := tl) HG.out hrest (by rw [HPN.out]; exact h60)
        obtain ⟨x, hx⟩ : ∃ x, (appF D (endF fz A) tl).2.2.1 = x := ⟨_, rfl⟩
        obtain ⟨er, her⟩ : ∃ er, (appF D (endF fz A) tl).2.2.2 = er := ⟨_, rfl⟩
        have HXR := Lw.hid (AL.1.symm.trans hx); have HER := Lw.hid (AL.2.1.symm.trans her)
        have HX := Lw.hid hx; have HE := Lw.hid her; have HAL := Lw.hid AL.2.2
        have HBX0 := Lw.hid hbx; have HRL := Lw.hid hrl
        have HRB : Hid (RdB wc (.slice adp pN capp) tl) := Lw.hid (HR.out.kept HB.out.s.k (fun _ _ h => h))
        clear hbx hrl hrest AL hx her
        go_wp2_with fail
        refine wp_region_chain 12 [6] (fun s w' => (s = 0 → Kept (fun _ => False) wc w') ∧ (s = 1 → ∃ wz, Kept (fun _ => False) wc wz ∧ ∃ v9, DsW w0 w' g v9 (appF D (endF fz A) tl).1 (n + 1) ∧ Bx w0 w' g v9 BL (appF D (endF fz A) tl).2.1 ∧ Kept (fun k => k = BL ∨ k = g ∨ blk v k) wz w' ∧ ∀ k, blk v9 k → blk v k ∨ wz.heap.size ≤ k)) (fun _ _ => True) [rV (.pointer (some ⟨X, 0, none⟩)), rV (.pointer (some ⟨X, 0, none⟩)), rV (.pointer (some ⟨X, 1, none⟩)), rV (.pointer (some ⟨BL, 0, none⟩)), rV (.pointer (some ⟨BA, 3, none⟩)), rV (.slice adp pN capp), rV (.tuple #[.int .u32 (x : Int), .int .i64 (er : Int)]), rV (.tuple #[.int .u32 (x : Int), .int .i64 (er : Int)]), rV (.int .u32 (x : Int)), rV (.int .i64 (er : Int)), rV (.int .u32 (x : Int)), rV (.int .i64 (er : Int))] (by kernel_rfl) (by kernel_rfl) ?_ ?_ ?_
        case refine_1 => exact ⟨fun _ => (Kept.refl _ _).drew, fun h => absurd h (by decide)⟩
        case refine_2 =>
          refine csteps_free (by decide) (fun s a' w' hI hag hf K hK => ?_) ?_
          · have s0 := hag.same 0 (by decide)
            clear hag
            go_wp2_with fail
            exact hK _ _ hI (trivial) rfl
          refine csteps_free (by decide) (fun s a' w' hI hag hf K hK => ?_) ?_
          · obtain ⟨⟨_, h0, rfl⟩, -⟩ : SFacts _ _ a' w' [0] := hf
            clear hag
            go_wp2_with fail
            exact hK _ _ hI (trivial) rfl
          refine csteps_free (by decide) (fun s a' w' hI hag hf K hK => ?_) ?_
          · obtain ⟨⟨_, h1, rfl⟩, -⟩ : SFacts _ _ a' w' [1] := hf
            clear hag
            go_wp2_with fail
            exact hK _ _ hI (trivial) rfl
          refine csteps_pre 0 6 (by decide) rfl (by kernel_rfl) (fun s hsle a' w' hI hag hf K hK => ?_) ?_
          · obtain ⟨⟨_, h2, rfl⟩, -⟩ : SFacts _ _ a' w' [2] := hf
            clear hag
            have HI := Lw.hid hI
            obtain rfl : s = 0 := by omega
            have cc := (hI.1 rfl).cell c1 (fun h => h)
            clear hI
            go_wp2_with fail
            exact hK _ _ HI.out trivial rfl
          refine csteps_free (by decide) (fun s a' w' hI hag hf K hK => ?_) ?_
          · have s3 := hag.same 3 (by decide)
            clear hag
            go_wp2_with fail
            exact hK _ _ hI (trivial) rfl
          refine csteps_pre 0 6 (by decide) rfl (by kernel_rfl) (fun s hsle a' w' hI hag hf K hK => ?_) ?_
          · obtain ⟨⟨_, h4, rfl⟩, -⟩ : SFacts _ _ a' w' [4] := hf
            clear hag
            have HI := Lw.hid hI
            obtain rfl : s = 0 := by omega
            have cc := (hI.1 rfl).cell b3 (fun h => h)
            clear hI
            go_wp2_with fail
            exact hK _ _ HI.out trivial rfl
          refine csteps_hit 0 rfl (fun a' w' hI hag hf K hK => ?_) ?_
          · obtain ⟨⟨_, h3, rfl⟩, ⟨_, h5, rfl⟩, -⟩ : SFacts _ _ a' w' [3, 5] := hf
            clear hag
            have HI := Lw.hid (hI.1 rfl)
            clear hI
            go_wp2_with fail
            refine (app_w (HB.out.keptF HI.out).s (by omega) (HBX0.out.keptF HI.out) hfin (sum_ok A) _ tl (HRB.out.kept HI.out (fun _ _ h => h))).mono ?_
            rw [HX.out, HE.out]
            rintro e wy ⟨rfl, v9, s9, b9, _, k9, f9⟩
            have S9 := Lw.hid s9; have B9 := Lw.hid b9; have K9 := Lw.hid k9; have F9 := Lw.hid f9
            clear s9 b9 k9 f9
            go_wp2_with fail
            exact hK _ _ ⟨fun h => absurd h (by decide), fun _ => ⟨w', HI.out, v9, S9.out, B9.out, K9.out, F9.out⟩⟩ trivial rfl
          refine csteps_free (by decide) (fun s a' w' hI hag hf K hK => ?_) ?_
          · obtain ⟨⟨_, h6, rfl⟩, -⟩ : SFacts _ _ a' w' [6] := hf
            clear hag
            go_wp2_with fail
            exact hK _ _ hI (trivial) rfl
          refine csteps_free (by decide) (fun s a' w' hI hag hf K hK => ?_) ?_
          · obtain ⟨⟨_, h7, rfl⟩, -⟩ : SFacts _ _ a' w' [7] := hf
            clear hag
            go_wp2_with fail
            exact hK _ _ hI (trivial) rfl
          refine csteps_free (by decide) (fun s a' w' hI hag hf K hK => ?_) ?_
          · obtain ⟨⟨_, h7, rfl⟩, -⟩ : SFacts _ _ a' w' [7] := hf
            clear hag
            go_wp2_with fail
            exact hK _ _ hI (trivial) rfl
          refine csteps_free (by decide) (fun s a' w' hI hag hf K hK => ?_) ?_
          · obtain ⟨⟨_, h8, rfl⟩, -⟩ : SFacts _ _ a' w' [8, 6, 0, 1, 2, 3, 4, 5, 7] := hf
            clear hag
            go_wp2_with fail
            exact hK _ _ hI (trivial) rfl
          refine csteps_free (by decide) (fun s a' w' hI hag hf K hK => ?_) ?_
          · obtain ⟨⟨_, h9, rfl⟩, -⟩ : SFacts _ _ a' w' [9, 10, 0, 1, 2, 3, 4, 5, 6, 7, 8] := hf
            clear hag
            go_wp2_with fail
            exact hK _ _ hI (trivial) rfl
          exact trivial
        intro vs w2 hI hvs
        have q0 : vs 0 = (.pointer (some ⟨X, 0, none⟩)) := hvs 0 _ _ rfl rfl
        have q1 : vs 1 = (.pointer (some ⟨X, 0, none⟩)) := hvs 1 _ _ rfl rfl
        have q2 : vs 2 = (.pointer (some ⟨X, 1, none⟩)) := hvs 2 _ _ rfl rfl
        have q3 : vs 3 = (.pointer (some ⟨BL, 0, none⟩)) := hvs 3 _ _ rfl rfl
        have q4 : vs 4 = (.pointer (some ⟨BA, 3, none⟩)) := hvs 4 _ _ rfl rfl
        have q5 : vs 5 = (.slice adp pN capp) := hvs 5 _ _ rfl rfl
        have q6 : vs 6 = (.tuple #[.int .u32 (x : Int), .int .i64 (er : Int)]) := hvs 6 _ _ rfl rfl
        have q7 : vs 7 = (.tuple #[.int .u32 (x : Int), .int .i64 (er : Int)]) := hvs 7 _ _ rfl rfl
        have q8 : vs 8 = (.int .u32 (x : Int)) := hvs 8 _ _ rfl rfl
        have q9 : vs 9 = (.int .i64 (er : Int)) := hvs 9 _ _ rfl rfl
        have q10 : vs 10 = (.int .u32 (x : Int)) := hvs 10 _ _ rfl rfl
        have q11 : vs 11 = (.int .i64 (er : Int)) := hvs 11 _ _ rfl rfl
        clear hvs
        simp only [List.take_succ_cons, List.take_zero, List.drop_succ_cons, List.drop_zero, putAll, Act.put, List.setIfInBounds_toArray, List.set_cons_zero, List.set_cons_succ, Nat.reduceAdd, q0, q1, q2, q3, q4, q5, q6, q7, q8, q9, q10, q11]
        clear q0 q1 q2 q3 q4 q5 q6 q7 q8 q9 q10 q11
        have HI9 := Lw.hid (hI.2 rfl)
        clear hI
        obtain ⟨wz, kz, v9, s9, bb9, k9, f9⟩ := HI9.out
        have hBZ := HB.out.keptF kz
        have hSP : ∀ q, (q = BL ∨ q = g ∨ blk v q) → P q := fun q e => e.elim (fun e => e ▸ hPB) (fun e => e.elim (fun e => e ▸ HB.out.pg) (HB.out.pv q))
        have L2 := Lw.hid (hBZ.left k9 hSP s9 f9)
        have RL2 : Hid (RLog w2 (fun q => Q q ∧ q ≠ gr ∧ ¬ blk vr q) GR gr vl us A) := Lw.hid ((HRL.out.kept kz (fun _ _ h => h)).kept k9 (fun q hq e => (HB.out.pa q (hSP q e)).2.2.1 hq.1))
        have HRB2 : Hid (RdB w2 (.slice adp pN capp) tl) := Lw.hid (HR.out.kept L2.out.s.k (fun _ _ h => h))
        have x3 := heap_cell L2.out.box 3
        have KF2 : Hid (Keeps F' wc w2) := Lw.hid ((kz.keeps (fun _ _ _ h => h)).trans (k9.keeps (fun q _ hq e => (HB.out.pa q (hSP q e)).2.2.2.2 hq)))
        have KW2 : Hid (Kept (fun q => w0.heap.size ≤ q) wc w2) := Lw.hid ((kz.mono (fun _ _ h => h.elim)).trans k9 (fun q _ e => (HB.out.pa q (hSP q e)).1))
        have y3 := KF2.out.cell b3 HFB.out
        have BB2 := Lw.hid bb9
        have hPB2 : With P wz w2 BL := .inl hPB
        clear s9 bb9 k9 f9 kz hBZ hSP HI9
        go_wp2_with fail
        refine wp_region_chain 12 [6] (fun s w' => (s = 0 → Kept (fun _ => False) w2 w') ∧ (s = 1 → ∃ wz, Kept (fun _ => False) w2 wz ∧ ∃ vr' vl' vs', RefAt w' gr vr' (raF R A tl).1 ∧ Kept (fun k => k = GR ∨ k = gr ∨ blk vr k ∨ blk vl k) wz w' ∧ (∀ k, blk vr' k → blk vr k ∨ wz.heap.size ≤ k) ∧ RLog w' (fun q => ((Q q ∧ q ≠ gr ∧ ¬ blk vr q) ∨ wz.heap.size ≤ q) ∧ q < w'.heap.size ∧ q ≠ gr ∧ ¬ blk vr' q) GR gr vl' vs' (raF R A tl).2.1)) (fun _ _ => True) [rV (.pointer (some ⟨X, 0, none⟩)), rV (.pointer (some ⟨X, 0, none⟩)), rV (.pointer (some ⟨X, 3, none⟩)), rV (.pointer (some ⟨GR, 0, none⟩)), rV (.pointer (some ⟨BA, 3, none⟩)), rV (.slice adp pN capp), rV (.tuple #[.int .u32 (x : Int), .int .i64 (er : Int)]), rV (.tuple #[.int .u32 (x : Int), .int .i64 (er : Int)]), rV (.int .u32 (x : Int)), rV (.int .i64 (er : Int)), rV (.int .u32 (x : Int)), rV (.int .i64 (er : Int))] (by kernel_rfl) (by kernel_rfl) ?_ ?_ ?_
        case refine_1 => exact ⟨fun _ => (Kept.refl _ _).drew, fun h => absurd h (by decide)⟩
        case refine_2 =>
          refine csteps_free (by decide) (fun s a' w' hI hag hf K hK => ?_) ?_
          · have s0 := hag.same 0 (by decide)
            clear hag
            go_wp2_with fail
            exact hK _ _ hI (trivial) rfl
          refine csteps_free (by decide) (fun s a' w' hI hag hf K hK => ?_) ?_
          · obtain ⟨⟨_, h0, rfl⟩, -⟩ : SFacts _ _ a' w' [0] := hf
            clear hag
            go_wp2_with fail
            exact hK _ _ hI (trivial) rfl
          refine csteps_free (by decide) (fun s a' w' hI hag hf K hK => ?_) ?_
          · obtain ⟨⟨_, h1, rfl⟩, -⟩ : SFacts _ _ a' w' [1] := hf
            clear hag
            go_wp2_with fail
            exact hK _ _ hI (trivial) rfl
          refine csteps_pre 0 6 (by decide) rfl (by kernel_rfl) (fun s hsle a' w' hI hag hf K hK => ?_) ?_
          · obtain ⟨⟨_, h2, rfl⟩, -⟩ : SFacts _ _ a' w' [2] := hf
            clear hag
            have HI := Lw.hid hI
            obtain rfl : s = 0 := by omega
            have cc := (hI.1 rfl).cell x3 (fun h => h)
            clear hI
            go_wp2_with fail
            exact hK _ _ HI.out trivial rfl
          refine csteps_free (by decide) (fun s a' w' hI hag hf K hK => ?_) ?_
          · have s3 := hag.same 3 (by decide)
            clear hag
            go_wp2_with fail
            exact hK _ _ hI (trivial) rfl
          refine csteps_pre 0 6 (by decide) rfl (by kernel_rfl) (fun s hsle a' w' hI hag hf K hK => ?_) ?_
          · obtain ⟨⟨_, h4, rfl⟩, -⟩ : SFacts _ _ a' w' [4] := hf
            clear hag
            have HI := Lw.hid hI
            obtain rfl : s = 0 := by omega
            have cc := (hI.1 rfl).cell y3 (fun h => h)
            clear hI
            go_wp2_with fail
            exact hK _ _ HI.out trivial rfl
          refine csteps_hit 0 rfl (fun a' w' hI hag hf K hK => ?_) ?_
          · obtain ⟨⟨_, h3, rfl⟩, ⟨_, h5, rfl⟩, -⟩ : SFacts _ _ a' w' [3, 5] := hf
            clear hag
            have HI := Lw.hid (hI.1 rfl)
            clear hI
            go_wp2_with fail
            refine (rapp_any w' (fun q => Q q ∧ q ≠ gr ∧ ¬ blk vr q) GR gr vr vl us R A (L2.out.keptF HI.out).r (HG.out.rok (by omega)) (RL2.out.kept HI.out (fun _ _ h => h)) (fun q hq => ⟨((L2.out.keptF HI.out).qa q hq.1).2.1, hq.2⟩) hfew hnum hfin _ tl (HRB2.out.kept HI.out (fun _ _ h => h)) (fun hne k hk => by have h1 := HRT.out hne k hk; exact ⟨fun e => by have := (L2.out.qa k e.1).1; omega, fun e => by have := (L2.out.qa gr L2.out.qg).1; omega, fun e => by have := (L2.out.qa k (L2.out.qv k e)).1; omega⟩)).mono ?_
            rintro e wy ⟨rfl, hp⟩
            have HPP := Lw.hid hp
            rw [HXR.out, HER.out]
            clear hp
            go_wp2_with fail
            exact hK _ _ ⟨fun h => absurd h (by decide), fun _ => ⟨w', HI.out, HPP.out⟩⟩ trivial rfl
          refine csteps_free (by decide) (fun s a' w' hI hag hf K hK => ?_) ?_
          · obtain ⟨⟨_, h6, rfl⟩, -⟩ : SFacts _ _ a' w' [6] := hf
            clear hag
            go_wp2_with fail
            exact hK _ _ hI (trivial) rfl
          refine csteps_free (by decide) (fun s a' w' hI hag hf K hK => ?_) ?_
          · obtain ⟨⟨_, h7, rfl⟩, -⟩ : SFacts _ _ a' w' [7] := hf
            clear hag
            go_wp2_with fail
            exact hK _ _ hI (trivial) rfl
          refine csteps_free (by decide) (fun s a' w' hI hag hf K hK => ?_) ?_
          · obtain ⟨⟨_, h7, rfl⟩, -⟩ : SFacts _ _ a' w' [7] := hf
            clear hag
            go_wp2_with fail
            exact hK _ _ hI (trivial) rfl
          refine csteps_free (by decide) (fun s a' w' hI hag hf K hK => ?_) ?_
          · obtain ⟨⟨_, h8, rfl⟩, -⟩ : SFacts _ _ a' w' [8, 6, 0, 1, 2, 3, 4, 5, 7] := hf
            clear hag
            go_wp2_with fail
            exact hK _ _ hI (trivial) rfl
          refine csteps_free (by decide) (fun s a' w' hI hag hf K hK => ?_) ?_
          · obtain ⟨⟨_, h9, rfl⟩, -⟩ : SFacts _ _ a' w' [9, 10, 0, 1, 2, 3, 4, 5, 6, 7, 8] := hf
            clear hag
            go_wp2_with fail
            exact hK _ _ hI (trivial) rfl
          exact trivial
        intro vs w4 hI hvs
        have q0 : vs 0 = (.pointer (some ⟨X, 0, none⟩)) := hvs 0 _ _ rfl rfl
        have q1 : vs 1 = (.pointer (some ⟨X, 0, none⟩)) := hvs 1 _ _ rfl rfl
        have q2 : vs 2 = (.pointer (some ⟨X, 3, none⟩)) := hvs 2 _ _ rfl rfl
        have q3 : vs 3 = (.pointer (some ⟨GR, 0, none⟩)) := hvs 3 _ _ rfl rfl
        have q4 : vs 4 = (.pointer (some ⟨BA, 3, none⟩)) := hvs 4 _ _ rfl rfl
        have q5 : vs 5 = (.slice adp pN capp) := hvs 5 _ _ rfl rfl
        have q6 : vs 6 = (.tuple #[.int .u32 (x : Int), .int .i64 (er : Int)]) := hvs 6 _ _ rfl rfl
        have q7 : vs 7 = (.tuple #[.int .u32 (x : Int), .int .i64 (er : Int)]) := hvs 7 _ _ rfl rfl
        have q8 : vs 8 = (.int .u32 (x : Int)) := hvs 8 _ _ rfl rfl
        have q9 : vs 9 = (.int .i64 (er : Int)) := hvs 9 _ _ rfl rfl
        have q10 : vs 10 = (.int .u32 (x : Int)) := hvs 10 _ _ rfl rfl
        have q11 : vs 11 = (.int .i64 (er : Int)) := hvs 11 _ _ rfl rfl
        clear hvs
        simp only [List.take_succ_cons, List.take_zero, List.drop_succ_cons, List.drop_zero, putAll, Act.put, List.setIfInBounds_toArray, List.set_cons_zero, List.set_cons_succ, Nat.reduceAdd, q0, q1, q2, q3, q4, q5, q6, q7, q8, q9, q10, q11]
        clear q0 q1 q2 q3 q4 q5 q6 q7 q8 q9 q10 q11
        have HI9 := Lw.hid (hI.2 rfl)
        clear hI
        obtain ⟨wy, ky, vr', vl', us', r9, k9, f9, rl9⟩ := HI9.out
        have hLY := L2.out.keptF ky
        have hSQ : ∀ q, (q = GR ∨ q = gr ∨ blk vr q ∨ blk vl q) → Q q := fun q e => by
          rcases e with e | e | e | e
          · exact e ▸ RL2.out.qG.1
          · exact e ▸ HB.out.qg
          · exact HB.out.qv q e
          · exact (RL2.out.qv q e).1
        have L4 := Lw.hid (hLY.right k9 hSQ r9 f9)
        have KF4 : Hid (Keeps F' w2 w4) := Lw.hid ((ky.keeps (fun _ _ _ h => h)).trans (k9.keeps (fun q _ hq e => (HB.out.qa q (hSQ q e)).2.2.2 hq)))
        have KW4 : Hid (Kept (fun q => w0.heap.size ≤ q) w2 w4) := Lw.hid ((ky.mono (fun _ _ h => h.elim)).trans k9 (fun q _ e => (HB.out.qa q (hSQ q e)).1))
        have BB4 : Hid (Bx w0 w4 g v9 BL (endF fz (raF R A tl).2.1)) := Lw.hid (by
          rw [← HAL.out.2.1]
          exact ⟨k9.heap (ky.heap BB2.out.box (fun h => h)) (fun e => (L2.out.pa BL hPB2).2.2.1 (hSQ BL e)), BB2.out.ne, BB2.out.ap, BB2.out.lo⟩)
        have RL4 : Hid (RLog w4 (fun q => With Q wy w4 q ∧ q ≠ gr ∧ ¬ blk vr' q) GR gr vl' us' (raF R A tl).2.1) := Lw.hid (rl9.mono (fun q hq => ⟨hq.1.elim (fun e => .inl e.1) (fun e => .inr ⟨e, hq.2.1⟩), hq.2.2⟩))
        clear r9 k9 f9 rl9 ky hLY hSQ HI9
        go_wp2_with fail
        go_ret
        obtain ⟨t', ht'⟩ := HAL.out.2.2
        exact ⟨by simp, ⟨_, _, v9, vr', _, _, _, _, _, L4.out.mono (by omega), HAL.out.1.mono (by omega), .inr ⟨BL, GR, vl', us', t', rfl, rfl, BB4.out, hPB2, RL4.out, ht'⟩⟩, KF2.out.trans KF4.out, KW2.out.trans KW4.out (fun _ _ h => h)⟩
    · have hd : decide (0 ≤ tw ∧ tw ≤ 4) = false := decide_eq_false hap
      rw [hd]
      clear hd
      by_cases h5 : tw = 5
      · have q5 : (tw == 5) = true := by rw [beq_iff_eq]; exact h5
        have hq1 : -4 < tm.tmod 4 ∧ tm.tmod 4 < 4 := ⟨Int.lt_tmod_of_pos _ (by decide), Int.tmod_lt_of_pos _ (by decide)⟩
        obtain ⟨pm', hpm⟩ : ∃ pm', tm.tmod 4 = pm' := ⟨_, rfl⟩
        rw [hpm] at hq1
        have hal := HG.out.plan' pm' tb (by omega) hb.2
        obtain ⟨er, her⟩ : ∃ er, (D.plan pm' tb).2 = er := ⟨_, rfl⟩
        have HERR := Lw.hid (hal.1.symm.trans her); have HER := Lw.hid her; have HG1 := Lw.hid hal.2
        clear hal her
        go_wp2_with fail
        refine wp_region_chain 21 [9, 19] (fun s w' => St15 w0 wc F' X g gr n pl pm D (D.plan pm' tb).1 R (R.plan pm' tb).1 true D.b A s w') (fun _ _ => True) [rV (.pointer (some ⟨X, 0, none⟩)), rV (.pointer (some ⟨X, 0, none⟩)), rV (.pointer (some ⟨X, 0, none⟩)), rV (.pointer (some ⟨g, 0, none⟩)), rV (.pointer (some ⟨BA, 1, none⟩)), rV (.int .i64 tm), rV (.int .i64 pm'), rV (.pointer (some ⟨BA, 2, none⟩)), rV (.int .i64 tb), rV (.int .i64 (er : Int)), rV (.pointer (some ⟨X, 0, none⟩)), rV (.pointer (some ⟨X, 0, none⟩)), rV (.pointer (some ⟨X, 2, none⟩)), rV (.pointer (some ⟨gr, 0, none⟩)), rV (.pointer (some ⟨BA, 1, none⟩)), rV (.int .i64 tm), rV (.int .i64 pm'), rV (.pointer (some ⟨BA, 2, none⟩)), rV (.int .i64 tb), rV (.int .i64 (er : Int)), rV (.bool true)] (by kernel_rfl) (by kernel_rfl) ?_ ?_ ?_
        case refine_1 => exact st_start HB.out (fun _ => HLB.out)
        case refine_2 =>
          refine csteps_free (by decide) (fun s a' w' hI hag hf K hK => ?_) ?_
          · have s0 := hag.same 0 (by decide)
            clear hag
            go_wp2_with fail
            exact hK _ _ hI (trivial) rfl
          refine csteps_free (by decide) (fun s a' w' hI hag hf K hK => ?_) ?_
          · obtain ⟨⟨_, h0, rfl⟩, -⟩ : SFacts _ _ a' w' [0] := hf
            clear hag
            go_wp2_with fail
            exact hK _ _ hI (trivial) rfl
          refine csteps_free (by decide) (fun s a' w' hI hag hf K hK => ?_) ?_
          · obtain ⟨⟨_, h1, rfl⟩, -⟩ : SFacts _ _ a' w' [1] := hf
            clear hag
            go_wp2_with fail
            exact hK _ _ hI (trivial) rfl
          refine csteps_free (by decide) (fun s a' w' hI hag hf K hK => ?_) ?_
          · obtain ⟨⟨_, h2, rfl⟩, -⟩ : SFacts _ _ a' w' [2] := hf
            clear hag
            have HI := Lw.hid hI
            obtain ⟨⟨_, _, _, _, _, _, _, _, hpl, _⟩, _⟩ := id hI
            have cc := heap_cell hpl.box 0
            clear hpl hI
            go_wp2_with fail
            exact hK _ _ HI.out trivial rfl
          refine csteps_free (by decide) (fun s a' w' hI hag hf K hK => ?_) ?_
          · have s3 := hag.same 3 (by decide)
            clear hag
            go_wp2_with fail
            exact hK _ _ hI (trivial) rfl
          refine csteps_free (by decide) (fun s a' w' hI hag hf K hK => ?_) ?_
          · obtain ⟨⟨_, h4, rfl⟩, -⟩ : SFacts _ _ a' w' [4] := hf
            clear hag
            have HI := Lw.hid hI
            have cc := (hI).2.1.cell b1 HFB.out
            clear hI
            go_wp2_with fail
            exact hK _ _ HI.out trivial rfl
          refine csteps_free (by decide) (fun s a' w' hI hag hf K hK => ?_) ?_
          · obtain ⟨⟨_, h5, rfl⟩, -⟩ : SFacts _ _ a' w' [5] := hf
            clear hag
            go_wp2_with fail
            exact hK _ _ hI (trivial) rfl
          refine csteps_free (by decide) (fun s a' w' hI hag hf K hK => ?_) ?_
          · have s3 := hag.same 3 (by decide)
            clear hag
            go_wp2_with fail
            exact hK _ _ hI (trivial) rfl
          refine csteps_free (by decide) (fun s a' w' hI hag hf K hK => ?_) ?_
          · obtain ⟨⟨_, h7, rfl⟩, -⟩ : SFacts _ _ a' w' [7] := hf
            clear hag
            have HI := Lw.hid hI
            have cc := (hI).2.1.cell b2 HFB.out
            clear hI
            go_wp2_with fail
            exact hK _ _ HI.out trivial rfl
          refine csteps_hit 0 rfl (fun a' w' hI hag hf K hK => ?_) ?_
          · obtain ⟨⟨_, h3, rfl⟩, ⟨_, h6, rfl⟩, ⟨_, h8, rfl⟩, -⟩ : SFacts _ _ a' w' [3, 6, 8] := hf
            clear hag
            obtain ⟨⟨P1, Q1, v1, vr1, D9, R9, c, hc, h1, h2, h3, h4, h5⟩, h6, h7⟩ := id hI
            have ee := h2 rfl
            rw [ee.1, ee.2] at h1
            have H1 := Lw.hid h1; have H5 := Lw.hid h5; have H6 := Lw.hid h6; have H7 := Lw.hid h7
            clear h1 h2 h3 h4 h5 h6 h7 ee hI
            go_wp2_with fail
            refine (plan_w H1.out.s pm' tb (by omega) hb).mono ?_
            rw [HER.out]
            rintro e wy ⟨rfl, v9, s9, b9, k9, f9⟩
            have S9 := Lw.hid s9; have B9 := Lw.hid b9; have K9 := Lw.hid k9; have F9 := Lw.hid f9
            clear s9 b9 k9 f9
            go_wp2_with fail
            exact hK _ _ (st_left H1.out (fun _ => H5.out (by trivial)) H6.out H7.out S9.out (by omega) B9.out K9.out F9.out) trivial rfl
          refine csteps_free (by decide) (fun s a' w' hI hag hf K hK => ?_) ?_
          · have s0 := hag.same 0 (by decide)
            clear hag
            go_wp2_with fail
            exact hK _ _ hI (trivial) rfl
          refine csteps_free (by decide) (fun s a' w' hI hag hf K hK => ?_) ?_
          · obtain ⟨⟨_, h10, rfl⟩, -⟩ : SFacts _ _ a' w' [10] := hf
            clear hag
            go_wp2_with fail
            exact hK _ _ hI (trivial) rfl
          refine csteps_free (by decide) (fun s a' w' hI hag hf K hK => ?_) ?_
          · obtain ⟨⟨_, h11, rfl⟩, -⟩ : SFacts _ _ a' w' [11] := hf
            clear hag
            go_wp2_with fail
            exact hK _ _ hI (trivial) rfl
          refine csteps_free (by decide) (fun s a' w' hI hag hf K hK => ?_) ?_
          · obtain ⟨⟨_, h12, rfl⟩, -⟩ : SFacts _ _ a' w' [12] := hf
            clear hag
            have HI := Lw.hid hI
            obtain ⟨⟨_, _, _, _, _, _, _, _, hpl, _⟩, _⟩ := id hI
            have cc := heap_cell hpl.box 2
            clear hpl hI
            go_wp2_with fail
            exact hK _ _ HI.out trivial rfl
          refine csteps_free (by decide) (fun s a' w' hI hag hf K hK => ?_) ?_
          · have s3 := hag.same 3 (by decide)
            clear hag
            go_wp2_with fail
            exact hK _ _ hI (trivial) rfl
          refine csteps_free (by decide) (fun s a' w' hI hag hf K hK => ?_) ?_
          · obtain ⟨⟨_, h14, rfl⟩, -⟩ : SFacts _ _ a' w' [14] := hf
            clear hag
            have HI := Lw.hid hI
            have cc := (hI).2.1.cell b1 HFB.out
            clear hI
            go_wp2_with fail
            exact hK _ _ HI.out trivial rfl
          refine csteps_free (by decide) (fun s a' w' hI hag hf K hK => ?_) ?_
          · obtain ⟨⟨_, h15, rfl⟩, -⟩ : SFacts _ _ a' w' [15] := hf
            clear hag
            go_wp2_with fail
            exact hK _ _ hI (trivial) rfl
          refine csteps_free (by decide) (fun s a' w' hI hag hf K hK => ?_) ?_
          · have s3 := hag.same 3 (by decide)
            clear hag
            go_wp2_with fail
            exact hK _ _ hI (trivial) rfl
          refine csteps_free (by decide) (fun s a' w' hI hag hf K hK => ?_) ?_
          · obtain ⟨⟨_, h17, rfl⟩, -⟩ : SFacts _ _ a' w' [17] := hf
            clear hag
            have HI := Lw.hid hI
            have cc := (hI).2.1.cell b2 HFB.out
            clear hI
            go_wp2_with fail
            exact hK _ _ HI.out trivial rfl
          refine csteps_hit 1 rfl (fun a' w' hI hag hf K hK => ?_) ?_
          · obtain ⟨⟨_, h13, rfl⟩, ⟨_, h16, rfl⟩, ⟨_, h18, rfl⟩, -⟩ : SFacts _ _ a' w' [13, 16, 18, 9] := hf
            clear hag
            obtain ⟨⟨P1, Q1, v1, vr1, D9, R9, c, hc, h1, h2, h3, h4, h5⟩, h6, h7⟩ := id hI
            have ee := h3 rfl
            rw [ee.1, ee.2] at h1
            have H1 := Lw.hid h1; have H5 := Lw.hid h5; have H6 := Lw.hid h6; have H7 := Lw.hid h7
            clear h1 h2 h3 h4 h5 h6 h7 ee hI
            go_wp2_with fail
            refine (rplan_any w' gr vr1 R H1.out.r pm' tb).mono ?_
            rw [HERR.out]
            rintro e wy ⟨rfl, hp⟩
            have HPP := Lw.hid hp
            clear hp
            go_wp2_with fail
            exact hK _ _ (st_right H1.out (by omega) (fun _ => H5.out (by trivial)) H6.out H7.out HPP.out) trivial rfl
          refine csteps_free (by decide) (fun s a' w' hI hag hf K hK => ?_) ?_
          · obtain ⟨⟨_, h9, rfl⟩, ⟨_, h19, rfl⟩, -⟩ : SFacts _ _ a' w' [9, 19] := hf
            clear hag
            go_wp2_with fail
            exact hK _ _ hI (trivial) rfl
          exact trivial
        intro vs w2 hI hvs
        have q0 : vs 0 = (.pointer (some ⟨X, 0, none⟩)) := hvs 0 _ _ rfl rfl
        have q1 : vs 1 = (.pointer (some ⟨X, 0, none⟩)) := hvs 1 _ _ rfl rfl
        have q2 : vs 2 = (.pointer (some ⟨X, 0, none⟩)) := hvs 2 _ _ rfl rfl
        have q3 : vs 3 = (.pointer (some ⟨g, 0, none⟩)) := hvs 3 _ _ rfl rfl
        have q4 : vs 4 = (.pointer (some ⟨BA, 1, none⟩)) := hvs 4 _ _ rfl rfl
        have q5 : vs 5 = (.int .i64 tm) := hvs 5 _ _ rfl rfl
        have q6 : vs 6 = (.int .i64 pm') := hvs 6 _ _ rfl rfl
        have q7 : vs 7 = (.pointer (some ⟨BA, 2, none⟩)) := hvs 7 _ _ rfl rfl
        have q8 : vs 8 = (.int .i64 tb) := hvs 8 _ _ rfl rfl
        have q9 : vs 9 = (.int .i64 (er : Int)) := hvs 9 _ _ rfl rfl
        have q10 : vs 10 = (.pointer (some ⟨X, 0, none⟩)) := hvs 10 _ _ rfl rfl
        have q11 : vs 11 = (.pointer (some ⟨X, 0, none⟩)) := hvs 11 _ _ rfl rfl
        have q12 : vs 12 = (.pointer (some ⟨X, 2, none⟩)) := hvs 12 _ _ rfl rfl
        have q13 : vs 13 = (.pointer (some ⟨gr, 0, none⟩)) := hvs 13 _ _ rfl rfl
        have q14 : vs 14 = (.pointer (some ⟨BA, 1, none⟩)) := hvs 14 _ _ rfl rfl
        have q15 : vs 15 = (.int .i64 tm) := hvs 15 _ _ rfl rfl
        have q16 : vs 16 = (.int .i64 pm') := hvs 16 _ _ rfl rfl
        have q17 : vs 17 = (.pointer (some ⟨BA, 2, none⟩)) := hvs 17 _ _ rfl rfl
        have q18 : vs 18 = (.int .i64 tb) := hvs 18 _ _ rfl rfl
        have q19 : vs 19 = (.int .i64 (er : Int)) := hvs 19 _ _ rfl rfl
        have q20 : vs 20 = (.bool true) := hvs 20 _ _ rfl rfl
        clear hvs
        simp only [List.take_succ_cons, List.take_zero, List.drop_succ_cons, List.drop_zero, putAll, Act.put, List.setIfInBounds_toArray, List.set_cons_zero, List.set_cons_succ, Nat.reduceAdd, q0, q1, q2, q3, q4, q5, q6, q7, q8, q9, q10, q11, q12, q13, q14, q15, q16, q17, q18, q19, q20]
        clear q0 q1 q2 q3 q4 q5 q6 q7 q8 q9 q10 q11 q12 q13 q14 q15 q16 q17 q18 q19 q20
        have HI9 := Lw.hid hI
        clear hI
        obtain ⟨⟨P1, Q1, v1, vr1, D9, R9, c, hc, h1, _, _, h4, h5⟩, h6, h7⟩ := HI9.out
        have ee := h4 rfl
        rw [ee.1, ee.2] at h1
        have hc2 : c ≤ n + 2 := hc
        have H1 := Lw.hid h1; have H5 := Lw.hid (h5 rfl)
        clear h1 h4 h5 ee HI9
        go_wp2_with fail
        go_ret
        exact ⟨rfl, ⟨_, _, _, _, _, _, _, _, A, H1.out.mono (by omega), HG1.out.mono (by omega), by rw [Dsk.plan_b]; exact H5.out⟩, h6, h7⟩
      have q5 : (tw == 5) = false := by rw [beq_eq_false_iff_ne]; exact h5
      by_cases h6 : tw = 6
      · have q6 : (tw == 6) = true := by rw [beq_iff_eq]; exact h6
        have hal := HG.out.revive
        obtain ⟨er, her⟩ : ∃ er, D.revive.2 = er := ⟨_, rfl⟩
        have HERR := Lw.hid (hal.1.symm.trans her); have HER := Lw.hid her; have HG2 := Lw.hid (hal.2.mono (show n + 1 ≤ n + 2 by omega))
        clear hal her
        go_wp2_with fail
        refine wp_region_chain 15 [4, 9, 13] (fun s w' => (s ≤ 2 → St15 w0 wc F' X g gr n pl pm D D.revive.1 R R.revive.1 false D.b A s w') ∧ (s = 3 → Both15 w0 F' X g gr (n + 3) w' ∧ Keeps F' wc w' ∧ Kept (fun q => w0.heap.size ≤ q) wc w')) (fun _ _ => True) [rV (.pointer (some ⟨X, 0, none⟩)), rV (.pointer (some ⟨X, 0, none⟩)), rV (.pointer (some ⟨X, 0, none⟩)), rV (.pointer (some ⟨g, 0, none⟩)), rV (.int .i64 (er : Int)), rV (.pointer (some ⟨X, 0, none⟩)), rV (.pointer (some ⟨X, 0, none⟩)), rV (.pointer (some ⟨X, 2, none⟩)), rV (.pointer (some ⟨gr, 0, none⟩)), rV (.int .i64 (er : Int)), rV (.bool true), rV (.bool true), rV (.pointer (some ⟨X, 0, none⟩)), rV (.bool true), rV (.bool true)] (by kernel_rfl) (by kernel_rfl) ?_ ?_ ?_
        case refine_1 => exact ⟨fun _ => st_start HB.out (fun h => by cases h), fun h => absurd h (by decide)⟩
        case refine_2 =>
          refine csteps_free (by decide) (fun s a' w' hI hag hf K hK => ?_) ?_
          · have s0 := hag.same 0 (by decide)
            clear hag
            go_wp2_with fail
            exact hK _ _ hI (trivial) rfl
          refine csteps_free (by decide) (fun s a' w' hI hag hf K hK => ?_) ?_
          · obtain ⟨⟨_, h0, rfl⟩, -⟩ : SFacts _ _ a' w' [0] := hf
            clear hag
            go_wp2_with fail
            exact hK _ _ hI (trivial) rfl
          refine csteps_free (by decide) (fun s a' w' hI hag hf K hK => ?_) ?_
          · obtain ⟨⟨_, h1, rfl⟩, -⟩ : SFacts _ _ a' w' [1] := hf
            clear hag
            go_wp2_with fail
            exact hK _ _ hI (trivial) rfl
          refine csteps_pre 0 4 (by decide) rfl (by kernel_rfl) (fun s hsle a' w' hI hag hf K hK => ?_) ?_
          · obtain ⟨⟨_, h2, rfl⟩, -⟩ : SFacts _ _ a' w' [2] := hf
            clear hag
            have HI := Lw.hid hI
            obtain ⟨⟨_, _, _, _, _, _, _, _, hpl, _⟩, _⟩ := hI.1 (by omega)
            have cc := heap_cell hpl.box 0
            clear hpl hI
            go_wp2_with fail
            exact hK _ _ HI.out trivial rfl
          refine csteps_hit 0 rfl (fun a' w' hI hag hf K hK => ?_) ?_
          · obtain ⟨⟨_, h3, rfl⟩, -⟩ : SFacts _ _ a' w' [3] := hf
            clear hag
            obtain ⟨⟨P1, Q1, v1, vr1, D9, R9, c, hc, h1, h2, h3, h4, h5⟩, h6, h7⟩ := hI.1 (by decide)
            have ee := h2 rfl
            rw [ee.1, ee.2] at h1
            have H1 := Lw.hid h1; have H5 := Lw.hid h5; have H6 := Lw.hid h6; have H7 := Lw.hid h7
            clear h1 h2 h3 h4 h5 h6 h7 ee hI
            go_wp2_with fail
            refine (rev_w H1.out.s).mono ?_
            rw [HER.out]
            rintro e wy ⟨rfl, v9, s9, b9, k9, f9⟩
            have S9 := Lw.hid s9; have B9 := Lw.hid b9; have K9 := Lw.hid k9; have F9 := Lw.hid f9
            clear s9 b9 k9 f9
            go_wp2_with fail
            exact hK _ _ (⟨fun _ => st_left H1.out (fun h => by cases h) H6.out H7.out S9.out (by omega) B9.out K9.out F9.out, fun h => absurd h (by decide)⟩) trivial rfl
          refine csteps_free (by decide) (fun s a' w' hI hag hf K hK => ?_) ?_
          · have s0 := hag.same 0 (by decide)
            clear hag
            go_wp2_with fail
            exact hK _ _ hI (trivial) rfl
          refine csteps_free (by decide) (fun s a' w' hI hag hf K hK => ?_) ?_
          · obtain ⟨⟨_, h5, rfl⟩, -⟩ : SFacts _ _ a' w' [5] := hf
            clear hag
            go_wp2_with fail
            exact hK _ _ hI (trivial) rfl
          refine csteps_free (by decide) (fun s a' w' hI hag hf K hK => ?_) ?_
          · obtain ⟨⟨_, h6, rfl⟩, -⟩ : SFacts _ _ a' w' [6] := hf
            clear hag
            go_wp2_with fail
            exact hK _ _ hI (trivial) rfl
          refine csteps_pre 1 9 (by decide) rfl (by kernel_rfl) (fun s hsle a' w' hI hag hf K hK => ?_) ?_
          · obtain ⟨⟨_, h7, rfl⟩, -⟩ : SFacts _ _ a' w' [7] := hf
            clear hag
            have HI := Lw.hid hI
            obtain ⟨⟨_, _, _, _, _, _, _, _, hpl, _⟩, _⟩ := hI.1 (by omega)
            have cc := heap_cell hpl.box 2
            clear hpl hI
            go_wp2_with fail
            exact hK _ _ HI.out trivial rfl
          refine csteps_hit 1 rfl (fun a' w' hI hag hf K hK => ?_) ?_
          · obtain ⟨⟨_, h8, rfl⟩, -⟩ : SFacts _ _ a' w' [8, 4] := hf
            clear hag
            obtain ⟨⟨P1, Q1, v1, vr1, D9, R9, c, hc, h1, h2, h3, h4, h5⟩, h6, h7⟩ := hI.1 (by decide)
            have ee := h3 rfl
            rw [ee.1, ee.2] at h1
            have H1 := Lw.hid h1; have H5 := Lw.hid h5; have H6 := Lw.hid h6; have H7 := Lw.hid h7
            clear h1 h2 h3 h4 h5 h6 h7 ee hI
            go_wp2_with fail
            refine (rrevive_any w' gr vr1 R H1.out.r).mono ?_
            rw [HERR.out]
            rintro e wy ⟨rfl, hp⟩
            have HPP := Lw.hid hp
            clear hp
            go_wp2_with fail
            exact hK _ _ (⟨fun _ => st_right H1.out (by omega) (fun h => by cases h) H6.out H7.out HPP.out, fun h => absurd h (by decide)⟩) trivial rfl
          refine csteps_free (by decide) (fun s a' w' hI hag hf K hK => ?_) ?_
          · obtain ⟨⟨_, h4, rfl⟩, ⟨_, h9, rfl⟩, -⟩ : SFacts _ _ a' w' [4, 9] := hf
            clear hag
            go_wp2_with fail
            exact hK _ _ hI (trivial) rfl
          refine csteps_free (by decide) (fun s a' w' hI hag hf K hK => ?_) ?_
          · obtain ⟨⟨_, h10, rfl⟩, -⟩ : SFacts _ _ a' w' [10, 9] := hf
            clear hag
            go_wp2_with fail
            exact hK _ _ hI (trivial) rfl
          refine csteps_free (by decide) (fun s a' w' hI hag hf K hK => ?_) ?_
          · obtain ⟨⟨_, h11, rfl⟩, -⟩ : SFacts _ _ a' w' [11] := hf
            have s0 := hag.same 0 (by decide)
            clear hag
            go_wp2_with fail
            exact hK _ _ hI (trivial) rfl
          refine csteps_hit 2 rfl (fun a' w' hI hag hf K hK => ?_) ?_
          · obtain ⟨⟨_, h12, rfl⟩, ⟨_, h11, rfl⟩, -⟩ : SFacts _ _ a' w' [12, 11] := hf
            clear hag
            obtain ⟨⟨P1, Q1, v1, vr1, D9, R9, c, hc, h1, h2, h3, h4, h5⟩, h6, h7⟩ := hI.1 (by decide)
            have ee := h4 rfl
            rw [ee.1, ee.2] at h1
            have H1 := Lw.hid h1; have H5 := Lw.hid h5; have H6 := Lw.hid h6; have H7 := Lw.hid h7
            clear h1 h2 h3 h4 h5 h6 h7 ee hI
            go_wp2_with fail
            refine (recovers_any w0 w' P1 Q1 F' X g gr v1 vr1 _ _ (n + 2) _ _ (H1.out.mono (by omega)) HG2.out (by omega)).mono ?_
            rintro e wy ⟨rfl, hb9, hk1, hk2⟩
            have B9 := Lw.hid hb9; have K1 := Lw.hid hk1; have K2 := Lw.hid hk2
            clear hb9 hk1 hk2
            go_wp2_with fail
            exact hK _ _ ⟨fun h => absurd h (by decide), fun _ => ⟨B9.out, H6.out.trans K1.out, H7.out.trans K2.out (fun _ _ h => h)⟩⟩ trivial rfl
          refine csteps_free (by decide) (fun s a' w' hI hag hf K hK => ?_) ?_
          · obtain ⟨⟨_, h11, rfl⟩, ⟨_, h13, rfl⟩, -⟩ : SFacts _ _ a' w' [11, 13] := hf
            clear hag
            go_wp2_with fail
            exact hK _ _ hI (trivial) rfl
          exact trivial
        intro vs w2 hI hvs
        have q0 : vs 0 = (.pointer (some ⟨X, 0, none⟩)) := hvs 0 _ _ rfl rfl
        have q1 : vs 1 = (.pointer (some ⟨X, 0, none⟩)) := hvs 1 _ _ rfl rfl
        have q2 : vs 2 = (.pointer (some ⟨X, 0, none⟩)) := hvs 2 _ _ rfl rfl
        have q3 : vs 3 = (.pointer (some ⟨g, 0, none⟩)) := hvs 3 _ _ rfl rfl
        have q4 : vs 4 = (.int .i64 (er : Int)) := hvs 4 _ _ rfl rfl
        have q5 : vs 5 = (.pointer (some ⟨X, 0, none⟩)) := hvs 5 _ _ rfl rfl
        have q6 : vs 6 = (.pointer (some ⟨X, 0, none⟩)) := hvs 6 _ _ rfl rfl
        have q7 : vs 7 = (.pointer (some ⟨X, 2, none⟩)) := hvs 7 _ _ rfl rfl
        have q8 : vs 8 = (.pointer (some ⟨gr, 0, none⟩)) := hvs 8 _ _ rfl rfl
        have q9 : vs 9 = (.int .i64 (er : Int)) := hvs 9 _ _ rfl rfl
        have q10 : vs 10 = (.bool true) := hvs 10 _ _ rfl rfl
        have q11 : vs 11 = (.bool true) := hvs 11 _ _ rfl rfl
        have q12 : vs 12 = (.pointer (some ⟨X, 0, none⟩)) := hvs 12 _ _ rfl rfl
        have q13 : vs 13 = (.bool true) := hvs 13 _ _ rfl rfl
        have q14 : vs 14 = (.bool true) := hvs 14 _ _ rfl rfl
        clear hvs
        simp only [List.take_succ_cons, List.take_zero, List.drop_succ_cons, List.drop_zero, putAll, Act.put, List.setIfInBounds_toArray, List.set_cons_zero, List.set_cons_succ, Nat.reduceAdd, q0, q1, q2, q3, q4, q5, q6, q7, q8, q9, q10, q11, q12, q13, q14]
        clear q0 q1 q2 q3 q4 q5 q6 q7 q8 q9 q10 q11 q12 q13 q14
        have HI9 := Lw.hid (hI.2 rfl)
        clear hI
        go_wp2_with fail
        go_ret
        exact ⟨rfl, HI9.out⟩
      have q6 : (tw == 6) = false := by rw [beq_eq_false_iff_ne]; exact h6
      by_cases h7 : tw = 7
      · have q7 : (tw == 7) = true := by rw [beq_iff_eq]; exact h7
        go_wp2_with fail
        refine (recovers_any w0 wc P Q F' X g gr v vr D R (n + 2) _ _ (HB.out.mono (by omega)) (HG.out.mono (by omega)) (by omega)).mono ?_
        rintro e w2 ⟨rfl, hb9, hk1, hk2⟩
        have B9 := Lw.hid hb9; have K1 := Lw.hid hk1; have K2 := Lw.hid hk2
        clear hb9 hk1 hk2
        go_wp2_with fail
        go_ret
        exact ⟨rfl, B9.out, K1.out, K2.out⟩
      have q7 : (tw == 7) = false := by rw [beq_eq_false_iff_ne]; exact h7
      by_cases h8 : tw = 8
      · have q8 : (tw == 8) = true := by rw [beq_iff_eq]; exact h8
        have hal := HG.out.put tm tl
        obtain ⟨er, her⟩ : ∃ er, (D.put tm tl).2 = er := ⟨_, rfl⟩
        have HERR := Lw.hid (hal.1.symm.trans her); have HER := Lw.hid her; have HG2 := Lw.hid (hal.2.mono (show n + 1 ≤ n + 2 by omega))
        clear hal her
        go_wp2_with fail
        refine wp_region_chain 23 [8, 17, 21] (fun s w' => (s ≤ 2 → St15 w0 wc F' X g gr n pl pm D (D.put tm tl).1 R (R.put tm tl).1 false D.b A s w') ∧ (s = 3 → Both15 w0 F' X g gr (n + 3) w' ∧ Keeps F' wc w' ∧ Kept (fun q => w0.heap.size ≤ q) wc w')) (fun _ _ => True) [rV (.pointer (some ⟨X, 0, none⟩)), rV (.pointer (some ⟨X, 0, none⟩)), rV (.pointer (some ⟨X, 0, none⟩)), rV (.pointer (some ⟨g, 0, none⟩)), rV (.pointer (some ⟨BA, 1, none⟩)), rV (.int .i64 tm), rV (.pointer (some ⟨BA, 3, none⟩)), rV (.slice adp pN capp), rV (.int .i64 (er : Int)), rV (.pointer (some ⟨X, 0, none⟩)), rV (.pointer (some ⟨X, 0, none⟩)), rV (.pointer (some ⟨X, 2, none⟩)), rV (.pointer (some ⟨gr, 0, none⟩)), rV (.pointer (some ⟨BA, 1, none⟩)), rV (.int .i64 tm), rV (.pointer (some ⟨BA, 3, none⟩)), rV (.slice adp pN capp), rV (.int .i64 (er : Int)), rV (.bool true), rV (.bool true), rV (.pointer (some ⟨X, 0, none⟩)), rV (.bool true), rV (.bool true)] (by kernel_rfl) (by kernel_rfl) ?_ ?_ ?_
        case refine_1 => exact ⟨fun _ => st_start HB.out (fun h => by cases h), fun h => absurd h (by decide)⟩
        case refine_2 =>
          refine csteps_free (by decide) (fun s a' w' hI hag hf K hK => ?_) ?_
          · have s0 := hag.same 0 (by decide)
            clear hag
            go_wp2_with fail
            exact hK _ _ hI (trivial) rfl
          refine csteps_free (by decide) (fun s a' w' hI hag hf K hK => ?_) ?_
          · obtain ⟨⟨_, h0, rfl⟩, -⟩ : SFacts _ _ a' w' [0] := hf
            clear hag
            go_wp2_with fail
            exact hK _ _ hI (trivial) rfl
          refine csteps_free (by decide) (fun s a' w' hI hag hf K hK => ?_) ?_
          · obtain ⟨⟨_, h1, rfl⟩, -⟩ : SFacts _ _ a' w' [1] := hf
            clear hag
            go_wp2_with fail
            exact hK _ _ hI (trivial) rfl
          refine csteps_pre 0 8 (by decide) rfl (by kernel_rfl) (fun s hsle a' w' hI hag hf K hK => ?_) ?_
          · obtain ⟨⟨_, h2, rfl⟩, -⟩ : SFacts _ _ a' w' [2] := hf
            clear hag
            have HI := Lw.hid hI
            obtain ⟨⟨_, _, _, _, _, _, _, _, hpl, _⟩, _⟩ := hI.1 (by omega)
            have cc := heap_cell hpl.box 0
            clear hpl hI
            go_wp2_with fail
            exact hK _ _ HI.out trivial rfl
          refine csteps_free (by decide) (fun s a' w' hI hag hf K hK => ?_) ?_
          · have s3 := hag.same 3 (by decide)
            clear hag
            go_wp2_with fail
            exact hK _ _ hI (trivial) rfl
          refine csteps_pre 0 8 (by decide) rfl (by kernel_rfl) (fun s hsle a' w' hI hag hf K hK => ?_) ?_
          · obtain ⟨⟨_, h4, rfl⟩, -⟩ : SFacts _ _ a' w' [4] := hf
            clear hag
            have HI := Lw.hid hI
            have cc := (hI.1 (by omega)).2.1.cell b1 HFB.out
            clear hI
            go_wp2_with fail
            exact hK _ _ HI.out trivial rfl
          refine csteps_free (by decide) (fun s a' w' hI hag hf K hK => ?_) ?_
          · have s3 := hag.same 3 (by decide)
            clear hag
            go_wp2_with fail
            exact hK _ _ hI (trivial) rfl
          refine csteps_pre 0 8 (by decide) rfl (by kernel_rfl) (fun s hsle a' w' hI hag hf K hK => ?_) ?_
          · obtain ⟨⟨_, h6, rfl⟩, -⟩ : SFacts _ _ a' w' [6] := hf
            clear hag
            have HI := Lw.hid hI
            have cc := (hI.1 (by omega)).2.1.cell b3 HFB.out
            clear hI
            go_wp2_with fail
            exact hK _ _ HI.out trivial rfl
          refine csteps_hit 0 rfl (fun a' w' hI hag hf K hK => ?_) ?_
          · obtain ⟨⟨_, h3, rfl⟩, ⟨_, h5, rfl⟩, ⟨_, h7, rfl⟩, -⟩ : SFacts _ _ a' w' [3, 5, 7] := hf
            clear hag
            obtain ⟨⟨P1, Q1, v1, vr1, D9, R9, c, hc, h1, h2, h3, h4, h5⟩, h6, h7⟩ := hI.1 (by decide)
            have ee := h2 rfl
            rw [ee.1, ee.2] at h1
            have H1 := Lw.hid h1; have H5 := Lw.hid h5; have H6 := Lw.hid h6; have H7 := Lw.hid h7
            clear h1 h2 h3 h4 h5 h6 h7 ee hI
            go_wp2_with fail
            refine (put_w H1.out.s (by omega) tm hm _ tl (HR.out.kept H1.out.s.k (fun _ _ h => h)) (fun hne k hk => by have e1 := HRT.out hne k hk; exact ⟨fun e => by have := (H1.out.pa g H1.out.pg).1; omega, fun e => by have := (H1.out.pa k (H1.out.pv k e)).1; omega⟩)).mono ?_
            rw [HER.out]
            rintro e wy ⟨rfl, v9, s9, b9, k9, f9⟩
            have S9 := Lw.hid s9; have B9 := Lw.hid b9; have K9 := Lw.hid k9; have F9 := Lw.hid f9
            clear s9 b9 k9 f9
            go_wp2_with fail
            exact hK _ _ (⟨fun _ => st_left H1.out (fun h => by cases h) H6.out H7.out S9.out (by omega) B9.out K9.out F9.out, fun h => absurd h (by decide)⟩) trivial rfl
          refine csteps_free (by decide) (fun s a' w' hI hag hf K hK => ?_) ?_
          · have s0 := hag.same 0 (by decide)
            clear hag
            go_wp2_with fail
            exact hK _ _ hI (trivial) rfl
          refine csteps_free (by decide) (fun s a' w' hI hag hf K hK => ?_) ?_
          · obtain ⟨⟨_, h9, rfl⟩, -⟩ : SFacts _ _ a' w' [9] := hf
            clear hag
            go_wp2_with fail
            exact hK _ _ hI (trivial) rfl
          refine csteps_free (by decide) (fun s a' w' hI hag hf K hK => ?_) ?_
          · obtain ⟨⟨_, h10, rfl⟩, -⟩ : SFacts _ _ a' w' [10] := hf
            clear hag
            go_wp2_with fail
            exact hK _ _ hI (trivial) rfl
          refine csteps_pre 1 17 (by decide) rfl (by kernel_rfl) (fun s hsle a' w' hI hag hf K hK => ?_) ?_
          · obtain ⟨⟨_, h11, rfl⟩, -⟩ : SFacts _ _ a' w' [11] := hf
            clear hag
            have HI := Lw.hid hI
            obtain ⟨⟨_, _, _, _, _, _, _, _, hpl, _⟩, _⟩ := hI.1 (by omega)
            have cc := heap_cell hpl.box 2
            clear hpl hI
            go_wp2_with fail
            exact hK _ _ HI.out trivial rfl
          refine csteps_free (by decide) (fun s a' w' hI hag hf K hK => ?_) ?_
          · have s3 := hag.same 3 (by decide)
            clear hag
            go_wp2_with fail
            exact hK _ _ hI (trivial) rfl
          refine csteps_pre 1 17 (by decide) rfl (by kernel_rfl) (fun s hsle a' w' hI hag hf K hK => ?_) ?_
          · obtain ⟨⟨_, h13, rfl⟩, -⟩ : SFacts _ _ a' w' [13] := hf
            clear hag
            have HI := Lw.hid hI
            have cc := (hI.1 (by omega)).2.1.cell b1 HFB.out
            clear hI
            go_wp2_with fail
            exact hK _ _ HI.out trivial rfl
          refine csteps_free (by decide) (fun s a' w' hI hag hf K hK => ?_) ?_
          · have s3 := hag.same 3 (by decide)
            clear hag
            go_wp2_with fail
            exact hK _ _ hI (trivial) rfl
          refine csteps_pre 1 17 (by decide) rfl (by kernel_rfl) (fun s hsle a' w' hI hag hf K hK => ?_) ?_
          · obtain ⟨⟨_, h15, rfl⟩, -⟩ : SFacts _ _ a' w' [15] := hf
            clear hag
            have HI := Lw.hid hI
            have cc := (hI.1 (by omega)).2.1.cell b3 HFB.out
            clear hI
            go_wp2_with fail
            exact hK _ _ HI.out trivial rfl
          refine csteps_hit 1 rfl (fun a' w' hI hag hf K hK => ?_) ?_
          · obtain ⟨⟨_, h12, rfl⟩, ⟨_, h14, rfl⟩, ⟨_, h16, rfl⟩, -⟩ : SFacts _ _ a' w' [12, 14, 16, 8] := hf
            clear hag
            obtain ⟨⟨P1, Q1, v1, vr1, D9, R9, c, hc, h1, h2, h3, h4, h5⟩, h6, h7⟩ := hI.1 (by decide)
            have ee := h3 rfl
            rw [ee.1, ee.2] at h1
            have H1 := Lw.hid h1; have H5 := Lw.hid h5; have H6 := Lw.hid h6; have H7 := Lw.hid h7
            clear h1 h2 h3 h4 h5 h6 h7 ee hI
            go_wp2_with fail
            refine (rput_any w' gr vr1 R H1.out.r (HG.out.rok (by omega)) tm hm _ tl (HR.out.kept H1.out.s.k (fun _ _ h => h)) (by rw [HPN.out]; omega) (fun hne k hk => by have e1 := HRT.out hne k hk; exact ⟨fun e => by have := (H1.out.qa gr H1.out.qg).1; omega, fun e => by have := (H1.out.qa k (H1.out.qv k e)).1; omega⟩)).mono ?_
            rw [HERR.out]
            rintro e wy ⟨rfl, hp⟩
            have HPP := Lw.hid hp
            clear hp
            go_wp2_with fail
            exact hK _ _ (⟨fun _ => st_right H1.out (by omega) (fun h => by cases h) H6.out H7.out HPP.out, fun h => absurd h (by decide)⟩) trivial rfl
          refine csteps_free (by decide) (fun s a' w' hI hag hf K hK => ?_) ?_
          · obtain ⟨⟨_, h8, rfl⟩, ⟨_, h17, rfl⟩, -⟩ : SFacts _ _ a' w' [8, 17] := hf
            clear hag
            go_wp2_with fail
            exact hK _ _ hI (trivial) rfl
          refine csteps_free (by decide) (fun s a' w' hI hag hf K hK => ?_) ?_
          · obtain ⟨⟨_, h18, rfl⟩, -⟩ : SFacts _ _ a' w' [18, 17] := hf
            clear hag
            go_wp2_with fail
            exact hK _ _ hI (trivial) rfl
          refine csteps_free (by decide) (fun s a' w' hI hag hf K hK => ?_) ?_
          · obtain ⟨⟨_, h19, rfl⟩, -⟩ : SFacts _ _ a' w' [19] := hf
            have s0 := hag.same 0 (by decide)
            clear hag
            go_wp2_with fail
            exact hK _ _ hI (trivial) rfl
          refine csteps_hit 2 rfl (fun a' w' hI hag hf K hK => ?_) ?_
          · obtain ⟨⟨_, h20, rfl⟩, ⟨_, h19, rfl⟩, -⟩ : SFacts _ _ a' w' [20, 19] := hf
            clear hag
            obtain ⟨⟨P1, Q1, v1, vr1, D9, R9, c, hc, h1, h2, h3, h4, h5⟩, h6, h7⟩ := hI.1 (by decide)
            have ee := h4 rfl
            rw [ee.1, ee.2] at h1
            have H1 := Lw.hid h1; have H5 := Lw.hid h5; have H6 := Lw.hid h6; have H7 := Lw.hid h7
            clear h1 h2 h3 h4 h5 h6 h7 ee hI
            go_wp2_with fail
            refine (recovers_any w0 w' P1 Q1 F' X g gr v1 vr1 _ _ (n + 2) _ _ (H1.out.mono (by omega)) HG2.out (by omega)).mono ?_
            rintro e wy ⟨rfl, hb9, hk1, hk2⟩
            have B9 := Lw.hid hb9; have K1 := Lw.hid hk1; have K2 := Lw.hid hk2
            clear hb9 hk1 hk2
            go_wp2_with fail
            exact hK _ _ ⟨fun h => absurd h (by decide), fun _ => ⟨B9.out, H6.out.trans K1.out, H7.out.trans K2.out (fun _ _ h => h)⟩⟩ trivial rfl
          refine csteps_free (by decide) (fun s a' w' hI hag hf K hK => ?_) ?_
          · obtain ⟨⟨_, h19, rfl⟩, ⟨_, h21, rfl⟩, -⟩ : SFacts _ _ a' w' [19, 21] := hf
            clear hag
            go_wp2_with fail
            exact hK _ _ hI (trivial) rfl
          exact trivial
        intro vs w2 hI hvs
        have q0 : vs 0 = (.pointer (some ⟨X, 0, none⟩)) := hvs 0 _ _ rfl rfl
        have q1 : vs 1 = (.pointer (some ⟨X, 0, none⟩)) := hvs 1 _ _ rfl rfl
        have q2 : vs 2 = (.pointer (some ⟨X, 0, none⟩)) := hvs 2 _ _ rfl rfl
        have q3 : vs 3 = (.pointer (some ⟨g, 0, none⟩)) := hvs 3 _ _ rfl rfl
        have q4 : vs 4 = (.pointer (some ⟨BA, 1, none⟩)) := hvs 4 _ _ rfl rfl
        have q5 : vs 5 = (.int .i64 tm) := hvs 5 _ _ rfl rfl
        have q6 : vs 6 = (.pointer (some ⟨BA, 3, none⟩)) := hvs 6 _ _ rfl rfl
        have q7 : vs 7 = (.slice adp pN capp) := hvs 7 _ _ rfl rfl
        have q8 : vs 8 = (.int .i64 (er : Int)) := hvs 8 _ _ rfl rfl
        have q9 : vs 9 = (.pointer (some ⟨X, 0, none⟩)) := hvs 9 _ _ rfl rfl
        have q10 : vs 10 = (.pointer (some ⟨X, 0, none⟩)) := hvs 10 _ _ rfl rfl
        have q11 : vs 11 = (.pointer (some ⟨X, 2, none⟩)) := hvs 11 _ _ rfl rfl
        have q12 : vs 12 = (.pointer (some ⟨gr, 0, none⟩)) := hvs 12 _ _ rfl rfl
        have q13 : vs 13 = (.pointer (some ⟨BA, 1, none⟩)) := hvs 13 _ _ rfl rfl
        have q14 : vs 14 = (.int .i64 tm) := hvs 14 _ _ rfl rfl
        have q15 : vs 15 = (.pointer (some ⟨BA, 3, none⟩)) := hvs 15 _ _ rfl rfl
        have q16 : vs 16 = (.slice adp pN capp) := hvs 16 _ _ rfl rfl
        have q17 : vs 17 = (.int .i64 (er : Int)) := hvs 17 _ _ rfl rfl
        have q18 : vs 18 = (.bool true) := hvs 18 _ _ rfl rfl
        have q19 : vs 19 = (.bool true) := hvs 19 _ _ rfl rfl
        have q20 : vs 20 = (.pointer (some ⟨X, 0, none⟩)) := hvs 20 _ _ rfl rfl
        have q21 : vs 21 = (.bool true) := hvs 21 _ _ rfl rfl
        have q22 : vs 22 = (.bool true) := hvs 22 _ _ rfl rfl
        clear hvs
        simp only [List.take_succ_cons, List.take_zero, List.drop_succ_cons, List.drop_zero, putAll, Act.put, List.setIfInBounds_toArray, List.set_cons_zero, List.set_cons_succ, Nat.reduceAdd, q0, q1, q2, q3, q4, q5, q6, q7, q8, q9, q10, q11, q12, q13, q14, q15, q16, q17, q18, q19, q20, q21, q22]
        clear q0 q1 q2 q3 q4 q5 q6 q7 q8 q9 q10 q11 q12 q13 q14 q15 q16 q17 q18 q19 q20 q21 q22
        have HI9 := Lw.hid (hI.2 rfl)
        clear hI
        go_wp2_with fail
        go_ret
        exact ⟨rfl, HI9.out⟩
      have q8 : (tw == 8) = false := by rw [beq_eq_false_iff_ne]; exact h8
      go_wp2_with fail
      go_ret
      exact ⟨rfl, ⟨_, _, _, _, _, _, _, _, A, HB.out.mono (by omega), HG.out.mono (by omega), HLB.out⟩, (Kept.refl (fun _ => False) _).keeps (fun _ _ _ h => h), Kept.refl _ _⟩
end Go.Proofs.YtfmebmaklakckaaDoor
/- LogPlays, walked. -/
namespace Go.Proofs.YtfmebmaklakckaaDoor
open Go Go.RowKit Go.Lw
set_option maxRecDepth 100000
set_option linter.unusedVariables false
set_option linter.unusedSimpArgs false
theorem acts_at15 {w : World} {a : Option Addr} {n cap : Nat} {l : List Act4} (h : Rd w 4 (.slice a n cap) l.length (l.flatMap Act4.cells)) (k : Nat) (hk : k < l.length) :
    ∃ g off, a = some ⟨g, off, none⟩ ∧ w.cell? ⟨g, off + k * 4, none⟩ = l[k].cells[0]? ∧ ∀ j, j < 4 → w.cell? ⟨g, off + k * 4 + j, none⟩ = l[k].cells[j]? := by
  obtain ⟨h0, a', c', e, h1, h2, h3⟩ := h
  cases e
  exact Rd.elem (f := Act4.cells) ⟨h0, a, cap, rfl, h1, h2, h3⟩ (fun _ _ => rfl) (by decide) k hk
theorem kdn15 (w : World) (n : Nat) : Kept (fun _ => False) w (w.drewN n) := ⟨rfl, rfl, rfl, Nat.le_refl _, fun _ _ _ => rfl⟩
def stBB (L : List (List UInt8)) : Stable := ⟨fun v w => RdBB w v L, fun _ _ _ hk h => h.kept hk⟩
/-- Blocks made since, beside. -/
theorem Both15.addF {w0 w w' : World} {X g gr n : Nat} {S : Nat → Prop} (h : Both15 w0 (fun _ => False) X g gr n w) (k : Kept (fun _ => False) w w') (hS : ∀ q, S q → w.heap.size ≤ q ∧ q < w'.heap.size) : Both15 w0 S X g gr n w' := by
  obtain ⟨P, Q, v, vr, D, R, pl, pm, A, h1, h2, h3⟩ := h
  have h4 := h1.keptF k
  have hX := heap_lt h1.box
  exact ⟨P, Q, v, vr, D, R, pl, pm, A, ⟨h4.s, h4.r, h4.box, h4.pg, h4.pv, h4.qg, h4.qv, fun q hq => ⟨(h4.pa q hq).1, (h4.pa q hq).2.1, (h4.pa q hq).2.2.1, (h4.pa q hq).2.2.2.1, fun e => by have := (hS q e).1; have := (h1.pa q hq).2.1; omega⟩, fun q hq => ⟨(h4.qa q hq).1, (h4.qa q hq).2.1, (h4.qa q hq).2.2.1, fun e => by have := (hS q e).1; have := (h1.qa q hq).2.1; omega⟩, ⟨h4.xa.1, fun e => by have := (hS X e).1; omega⟩, fun q hq => (hS q hq).2⟩, h2, h3.keptF k⟩
theorem Both15.keptF {w0 w w' : World} {X g gr n : Nat} {S : Nat → Prop} (h : Both15 w0 S X g gr n w) (k : Kept (fun _ => False) w w') : Both15 w0 S X g gr n w' := by
  obtain ⟨P, Q, v, vr, D, R, pl, pm, A, h1, h2, h3⟩ := h
  exact ⟨P, Q, v, vr, D, R, pl, pm, A, h1.keptF k, h2, h3.keptF k⟩
def RelU (w : World) (X g gr N : Nat) (vac : Value) (acts : List Act4) (k : Nat) (wr : World) : Prop := Both15 w (blk vac) X g gr (3 * k + 1) wr ∧ Rd wr 4 vac N (acts.flatMap Act4.cells) ∧ Tab w
theorem rd_keeps {w w' : World} {size n : Nat} {v : Value} {xs : List Value} (h : Rd w size v n xs) (k : Keeps (blk v) w w') : Rd w' size v n xs := h.of_cells fun b off j u hb hc => k.cell hc hb
set_option maxHeartbeats 32000000 in
theorem lplays_any (w : World) (v0 : Value) (l : List Act4) (hr : RdA w v0 l) (ht : Tab w) :
    Calls Tryd.prog 4 #[v0] w fun e w' => e = .returned (.bool true) ∧ Kept (fun _ => False) w w' := by
  have HT := Lw.hid ht; have HR := Lw.hid hr
  obtain ⟨_, ad0, cap0, rfl, _, _, _⟩ := id hr.1
  obtain ⟨n0, hn0⟩ : ∃ n, l.length = n := ⟨_, rfl⟩
  rw [hn0] at HR ⊢
  clear ht hr hn0
  go_enter Tryd.func4, Tryd.ntmps4
  go_wp2_with fail
  refine (dnew_any w 600 (by decide)).mono ?_
  rintro e w1 ⟨g, rfl, d', k', hg⟩
  have S1 : Hid (DsW w w1 g (.slice none 0 0) ⟨600, [], 0, false, false, 0, 0⟩ 0) := Lw.hid (DsW.start d' k' hg (by decide) HT.out)
  have hg1 := heap_lt d'.box
  clear d' k'
  go_wp2_with fail
  refine (rnew_any w1 600 (by decide)).mono ?_
  rintro e w2 ⟨gr, rfl, r', k2, hgr⟩
  have hX : Hid (Pl w (w2.alloc (.cells #[.pointer (some ⟨g, 0, none⟩), .pointer none, .pointer (some ⟨gr, 0, none⟩), .pointer none] 53)) (fun q => q = g) (fun q => q = gr) (fun _ => False) w2.heap.size g gr (.slice none 0 0) (.slice none 0 0) ⟨600, [], 0, false, false, 0, 0⟩ ⟨600, [], 0, false, -1, 0⟩ 0 (.pointer none) (.pointer none)) := Lw.hid (by
    have ka : Kept (fun _ => False) w2 (w2.alloc (.cells #[.pointer (some ⟨g, 0, none⟩), .pointer none, .pointer (some ⟨gr, 0, none⟩), .pointer none] 53)) := (Kept.refl _ w2).alloc _
    have hs1 := S1.out.k.size
    have hs2 := k2.size
    have hr2 := heap_lt r'.box
    have hsz : (w2.alloc (.cells #[.pointer (some ⟨g, 0, none⟩), .pointer none, .pointer (some ⟨gr, 0, none⟩), .pointer none] 53)).heap.size = w2.heap.size + 1 := by simp
    refine ⟨(S1.out.keptF k2).keptF ka, r'.kept ka (fun h => h) (fun _ _ h => h), heap_alloc w2 _, rfl, fun k hk => (blk_none hk).elim, rfl, fun k hk => (blk_none hk).elim, fun q hq => ?_, fun q hq => ?_, ⟨by omega, fun h => h⟩, fun q hq => hq.elim⟩
    · subst hq; exact ⟨hg, by omega, by omega, by omega, fun h => h⟩
    · subst hq; exact ⟨by omega, by omega, by omega, fun h => h⟩)
  obtain ⟨X, hXe⟩ : ∃ X, w2.heap.size = X := ⟨_, rfl⟩
  obtain ⟨w3, hw3⟩ : ∃ w3, w2.alloc (.cells #[.pointer (some ⟨g, 0, none⟩), .pointer none, .pointer (some ⟨gr, 0, none⟩), .pointer none] 53) = w3 := ⟨_, rfl⟩
  rw [hw3, hXe] at hX
  have HW3 := Lw.hid hw3; have HXE := Lw.hid hXe
  have HG0 : Hid (Good 0 ⟨600, [], 0, false, false, 0, 0⟩ ⟨600, [], 0, false, -1, 0⟩) := Lw.hid ⟨rfl, rfl, rfl, rfl, (fun h => by cases h), fun _ => rfl, by decide, Nat.zero_le _, by decide, Nat.le_refl _, by decide, by decide⟩
  clear r' k2 hgr hw3 hXe S1
  go_wp2_with fail
  rw [HW3.out, HXE.out]
  refine (recovers_any w w3 _ _ _ X g gr _ _ _ _ 0 _ _ hX.out HG0.out (by decide)).mono ?_
  rintro e w4 ⟨rfl, hb4, _, _⟩
  have B4 := Lw.hid hb4
  have K4 : Hid (Kept (fun _ => False) w w4) := Lw.hid (by obtain ⟨_, _, _, _, _, _, _, _, _, h1, _⟩ := hb4; exact h1.s.k)
  clear hb4
  go_wp2_with fail
  refine (fewA_any w4 _ l ⟨HR.out.1.kept K4.out (fun _ _ h => h), fun a ha => ⟨(HR.out.2 a ha).what, (HR.out.2 a ha).at_, (HR.out.2 a ha).many, (HR.out.2 a ha).rd.kept K4.out (fun _ _ h => h)⟩⟩).mono ?_
  rintro e w5 ⟨vac, rfl, ho, k5, hb5⟩
  obtain ⟨acts, hacts⟩ : ∃ acts, fewA l = acts := ⟨_, rfl⟩
  have hfl := fewA_len l
  rw [hacts] at ho hfl
  have HOK : Hid (∀ a ∈ acts, a.ok w ∧ a.l.length ≤ 60) := Lw.hid (by rw [← hacts]; exact fewA_ok HR.out.2 (Kept.refl _ w))
  obtain ⟨N, hN⟩ : ∃ N, acts.length = N := ⟨_, rfl⟩
  have HN := Lw.hid hN
  have HI : Hid (RelU w X g gr N vac acts 0 w5) := Lw.hid ⟨B4.out.addF k5 (fun q hq => ⟨hb5 q hq, own_lt ho q hq⟩), by rw [← hN]; exact Rd.own ho, HT.out⟩
  obtain ⟨adc, capc, hvac, hcc1, hcc2, _⟩ := own_slice ho
  rw [hN] at hvac hcc1 hfl
  unfold maxLen at hcc2
  subst hvac
  clear hacts hN ho k5 hb5 B4 K4 hX
  go_wp2_with fail
  go_loopg [9, 30] N (fun gk _ si wr => ∃ k : Nat, gk = N - k ∧ k ≤ N ∧ si = .int .i64 (k : Int) ∧ RelU w X g gr N (.slice adc N capc) acts k wr)
  case atStart => exact ⟨0, rfl, Nat.zero_le _, rfl, HI.out⟩
  case round =>
    obtain ⟨k, rfl, hk, rfl, hbo, hac, _⟩ := hrel
    have HBO := Lw.hid hbo; have HAC := Lw.hid hac
    clear hbo hac
    by_cases hlt : k < N
    · have hlt' : k < acts.length := by rw [HN.out]; exact hlt
      obtain ⟨gc, oc, rfl, c0, cj⟩ := acts_at15 (by have := HAC.out; rwa [← HN.out] at this) k hlt'
      have c1 := cj 1 (by decide); have c2 := cj 2 (by decide); have c3 := cj 3 (by decide)
      obtain ⟨ta, hta⟩ : ∃ ta, acts[k] = ta := ⟨_, rfl⟩
      have hokk := HOK.out acts[k] (List.getElem_mem hlt')
      rw [hta] at c0 c1 c2 c3 hokk
      obtain ⟨tw, tm, tb, tv, tl⟩ := ta
      obtain ⟨⟨hw12, hm12, hb12, hrdp⟩, hpl60⟩ := hokk
      dsimp only at hw12 hm12 hb12 hrdp hpl60
      obtain ⟨adp, capp, rfl, _, _, _⟩ := hrdp.open
      obtain ⟨pN, hpN⟩ : ∃ n, tl.length = n := ⟨_, rfl⟩
      rw [hpN] at hrdp c0 c1 c2 c3
      have HRP := Lw.hid hrdp
      simp only [Act4.cells, List.getElem?_cons_zero, List.getElem?_cons_succ] at c0 c1 c2 c3
      obtain ⟨P, Q, v, vr, D, R, pl, pm, A, hpl, hgd, hlg⟩ := HBO.out
      have hfa := Lw.hid hpl.fa
      have hbes := hpl.beside (.cells #[.int .i64 tw, .int .i64 tm, .int .i64 tb, .slice adp pN capp] 56)
      have hbb := heap_alloc wr (.cells #[.int .i64 tw, .int .i64 tm, .int .i64 tb, .slice adp pN capp] 56)
      have ka : Kept (fun _ => False) wr (wr.alloc (.cells #[.int .i64 tw, .int .i64 tm, .int .i64 tb, .slice adp pN capp] 56)) := (Kept.refl _ wr).alloc _
      have hlb := hlg.keptF ka
      have hacb := HAC.out.kept ka (fun _ _ h => h)
      obtain ⟨BA, hBA⟩ : ∃ BA, wr.heap.size = BA := ⟨_, rfl⟩
      obtain ⟨wB, hwB⟩ : ∃ wB, wr.alloc (.cells #[.int .i64 tw, .int .i64 tm, .int .i64 tb, .slice adp pN capp] 56) = wB := ⟨_, rfl⟩
      obtain ⟨F', hF'⟩ : ∃ F', (fun q => blk (.slice (some ⟨gc, oc, none⟩) N capc) q ∨ q = BA) = F' := ⟨_, rfl⟩
      rw [hwB, hBA, hF'] at hbes
      rw [hwB] at hbb hlb hacb
      rw [hBA] at hbb
      have HFB : Hid (F' BA) := Lw.hid (by rw [← hF']; exact .inr rfl)
      have HFV : Hid (∀ q, blk (.slice (some ⟨gc, oc, none⟩) N capc) q → F' q) := Lw.hid (fun q hq => by rw [← hF']; exact .inl hq)
      have HB := Lw.hid hbes; have HLB := Lw.hid hlb; have HBX := Lw.hid hbb; have HGD := Lw.hid hgd; have HWB := Lw.hid hwB; have HBA := Lw.hid hBA; have HACB := Lw.hid hacb
      have b0 := heap_cell hbb 0; have b1 := heap_cell hbb 1; have b2 := heap_cell hbb 2; have b3 := heap_cell hbb 3
      have hkd : decide ((k : Int) < (N : Int)) = true := by simp; omega
      have i0 : (0 : Int) ≤ (k : Int) := by omega
      have i1 : (k : Int) < (N : Int) := by omega
      have hkn : k + 1 ≤ N := hlt
      clear cj hta hrdp hpN hpl hgd hlg hbes hbb hlb hacb hwB hBA hF' ka
      go_wp2_with fail
      rw [HWB.out, HBA.out]
      refine (one_any w wB P Q F' X g gr v vr D R (3 * k + 1) pl pm A HB.out HGD.out HLB.out (by omega) tw tm tb _ tl hw12 hm12 hb12 HRP.out hpl60).mono ?_
      rintro e w6 ⟨rfl, hb6, hk6, _⟩
      obtain ⟨P6, Q6, v6, vr6, D6, R6, pl6, pm6, A6, hpl6, hgd6, hlg6⟩ := hb6
      have PL6 := Lw.hid hpl6; have GD6 := Lw.hid hgd6; have LG6 := Lw.hid hlg6; have K6 := Lw.hid hk6
      clear hpl6 hgd6 hlg6 hk6 c0 c1 c2 c3 HB HLB HGD HBO HAC
      go_wp2_with fail
      refine (dread_any w6 g v6 D6 PL6.out.s.d (Nat.le_trans GD6.out.len GD6.out.cap9) 0 600 (by decide) (by decide)).mono ?_
      rintro e w7 ⟨rv, rfl, hov, k7, _⟩
      have RV := Lw.hid (RdB.of_own hov rfl)
      obtain ⟨ad7, cap7, rfl, _, _, _⟩ := own_slice hov
      obtain ⟨n7, hn7⟩ : ∃ n, (D6.rd 0 600).length = n := ⟨_, rfl⟩
      have K7 := Lw.hid k7; have PL7 := Lw.hid (PL6.out.keptF k7)
      rw [hn7] at RV ⊢
      clear hov k7 hn7
      go_wp2_with fail
      refine (rread_any w7 gr vr6 R6 PL7.out.r (by rw [← GD6.out.b]; exact Nat.le_trans GD6.out.len GD6.out.cap9) 0 600 (by decide) (by decide)).mono ?_
      rintro e w8 ⟨ru, rfl, hou, k8, _⟩
      have RU := Lw.hid (RdB.of_own hou rfl)
      obtain ⟨ad8, cap8, rfl, _, _, _⟩ := own_slice hou
      obtain ⟨n8, hn8⟩ : ∃ n, (R6.rd 0 600).length = n := ⟨_, rfl⟩
      have K8 := Lw.hid (K7.out.trans k8 (fun _ _ h => h)); have RV8 := Lw.hid (RV.out.kept k8 (fun _ _ h => h))
      rw [hn8] at RU ⊢
      clear hou k8 hn8
      go_wp2_with fail
      refine (bequal_any w8 _ _ _ _ RV8.out RU.out true (by rw [rd_eq D6 R6 GD6.out.b]; simp)).mono ?_
      rintro e _ ⟨rfl, rfl⟩
      have PL := Lw.hid (PL6.out.keptF K8.out); have LG := Lw.hid (LG6.out.keptF K8.out)
      have KF : Hid (Keeps F' wB w8) := Lw.hid (K6.out.trans (K8.out.keeps (fun _ _ _ h => h)))
      have x1 := heap_cell PL.out.box 1; have x3 := heap_cell PL.out.box 3
      have z0 := KF.out.cell b0 HFB.out
      have HNEXT : Hid (∀ w9, Kept (fun _ => False) w8 w9 → RelU w X g gr N (.slice (some ⟨gc, oc, none⟩) N capc) acts (k + 1) w9) := Lw.hid (fun w9 k9 => ⟨(Both15.fewer ⟨P6, Q6, v6, vr6, D6, R6, pl6, pm6, A6, by have := PL.out.mono (show 3 * k + 1 + 3 ≤ 3 * (k + 1) + 1 by omega); exact this, GD6.out.mono (by omega), LG.out⟩ HFV.out).keptF k9, (rd_keeps HACB.out (KF.out.mono HFV.out)).kept k9 (fun _ _ h => h), HT.out⟩)
      clear RV RU RV8 PL7 K7
      rcases LG.out with ⟨rfl, rfl⟩ | ⟨BL, GR, vl, us, t, rfl, rfl, hbx, hPB, hrl, hrest⟩
      · go_wp2_with fail
        refine (lnext_nil w8).mono ?_
        rintro e _ ⟨rfl, rfl⟩
        go_wp2_with fail
        refine (lsize_nil w8).mono ?_
        rintro e _ ⟨rfl, rfl⟩
        go_wp2_with fail
        refine (rows_nil w8).mono ?_
        rintro e w9 ⟨rg, vg, rfl, hog, _, _, k9⟩
        obtain ⟨adg, capg, rfl, _, _, _⟩ := own_slice hog
        have K9 := Lw.hid k9
        clear hog k9
        go_wp2_with fail
        go_roundg (N - (k + 1))
        case measure => omega
        case rel => exact ⟨k + 1, rfl, hkn, by go_num, HNEXT.out _ K9.out⟩
      · obtain ⟨adl, capl, rfl, _, _, _⟩ := own_slice hrl.own
        obtain ⟨na, hna⟩ : ∃ n, A6.length = n := ⟨_, rfl⟩
        obtain ⟨fn, hfn⟩ : ∃ n, (endF fz A6).fin = n := ⟨_, rfl⟩
        have hfin : (endF fz A6).fin ≤ 1048576 := by have := hrest.fin; have := hrest.l; omega
        have HNX : Hid (nextN (endF fz A6) = na + 1) := Lw.hid (by rw [hrest.num, hna])
        have hna9 : na ≤ 104858 := by rw [← hna]; exact hrest.few
        have y1 := heap_cell hrl.box 1; have y2 := heap_cell hrl.box 2
        rw [hna] at y1; rw [hfn] at y2
        have RBL : Hid (RdBB w8 (.slice adl na capl) A6) := Lw.hid (by rw [← hna]; exact RdBB.of_rows hrl.own hrl.p)
        rw [hna] at hrl
        have BXL := Lw.hid hbx; have RLL := Lw.hid hrl; have HFN := Lw.hid hfn
        have HLP : Hid (logP D6 (endF fz A6) = A6) := Lw.hid (logP_of hrest.e hrest.l hrest.a)
        clear hbx hrl hrest hna hfn
        go_wp2_with fail
        by_cases h8 : tw = 8
        · have q8 : (tw != 8) = false := by rw [bne_eq_false_iff_eq]; exact h8
          have HQ1 : Hid (∀ n, Calls Tryd.prog 9 #[.pointer (some ⟨BL, 0, none⟩)] (w8.drewN n) fun e w'' => e = .returned (.int .u32 ((na + 1 : Nat) : Int)) ∧ ∃ j, w'' = w8.drewN j) := Lw.hid (fun n => (lnext_any _ BL g _ ((kdn15 w8 n).heap BXL.out.box (fun h => h))).mono (by rw [HNX.out]; rintro e _ ⟨rfl, rfl⟩; exact ⟨rfl, n, rfl⟩))
          have HQ2 : Hid (∀ n, Calls Tryd.prog 10 #[.pointer (some ⟨BL, 0, none⟩)] (w8.drewN n) fun e w'' => e = .returned (.int .i64 (fn : Int)) ∧ ∃ j, w'' = w8.drewN j) := Lw.hid (fun n => (lsize_any _ BL g _ ((kdn15 w8 n).heap BXL.out.box (fun h => h))).mono (by rw [HFN.out]; rintro e _ ⟨rfl, rfl⟩; exact ⟨rfl, n, rfl⟩))
          have HQ3 : Hid (∀ n, Calls Tryd.prog 24 #[.pointer (some ⟨GR, 0, none⟩)] (w8.drewN n) fun e w'' => e = .returned (.int .u32 ((na + 1 : Nat) : Int)) ∧ ∃ j, w'' = w8.drewN j) := Lw.hid (fun n => (rnext_any _ GR gr _ _ na ((kdn15 w8 n).heap RLL.out.box (fun h => h)) ⟨_, _, rfl⟩ (by omega)).mono (by rintro e _ ⟨rfl, rfl⟩; exact ⟨rfl, n, rfl⟩))
          go_quiet (first | (go_at_call 9; exact HQ1.out _) | (go_at_call 10; exact HQ2.out _) | (go_at_call 24; exact HQ3.out _))
          clear HQ1 HQ2 HQ3
          go_wp2_with fail
          go_roundg (N - (k + 1))
          case measure => omega
          case rel => exact ⟨k + 1, rfl, hkn, by go_num, HNEXT.out _ (kdn15 w8 _)⟩
        · have q8 : (tw != 8) = true := by rw [bne_iff_ne]; exact h8
          refine wp_region_tail 47 [stV (.pointer (some ⟨X, 0, none⟩)), stV (.pointer (some ⟨X, 0, none⟩)), stV (.pointer (some ⟨X, 1, none⟩)), stV (.pointer (some ⟨BL, 0, none⟩)), stV (.int .u32 ((na + 1 : Nat) : Int)), stV (.pointer (some ⟨X, 0, none⟩)), stV (.pointer (some ⟨X, 0, none⟩)), stV (.pointer (some ⟨X, 3, none⟩)), stV (.pointer (some ⟨GR, 0, none⟩)), stV (.int .u32 ((na + 1 : Nat) : Int)), stV (.bool false), stV (.bool false), stV (.pointer (some ⟨X, 0, none⟩)), stV (.pointer (some ⟨X, 0, none⟩)), stV (.pointer (some ⟨X, 1, none⟩)), stV (.pointer (some ⟨BL, 0, none⟩)), stV (.int .i64 (fn : Int)), stV (.pointer (some ⟨X, 0, none⟩)), stV (.pointer (some ⟨X, 0, none⟩)), stV (.pointer (some ⟨X, 3, none⟩)), stV (.pointer (some ⟨GR, 0, none⟩)), stV (.pointer (some ⟨GR, 0, none⟩)), stV (.pointer (some ⟨GR, 2, none⟩)), stV (.int .i64 (fn : Int)), stV (.bool false), stV (.bool false), stV (.bool false), stV (.pointer (some ⟨BA, 0, none⟩)), stV (.int .i64 tw), stV (.bool true), stV (.bool true), stV (.pointer (some ⟨X, 0, none⟩)), stV (.pointer (some ⟨X, 0, none⟩)), stV (.pointer (some ⟨X, 1, none⟩)), stV (.pointer (some ⟨BL, 0, none⟩)), stBB A6, stV (.pointer (some ⟨X, 0, none⟩)), stV (.pointer (some ⟨X, 0, none⟩)), stV (.pointer (some ⟨X, 3, none⟩)), stV (.pointer (some ⟨GR, 0, none⟩)), stV (.pointer (some ⟨GR, 0, none⟩)), stV (.pointer (some ⟨GR, 1, none⟩)), stV (.slice adl na capl), stV (.bool true), stV (.bool false), stV (.bool false), stV (.bool false)] (by kernel_rfl) (by kernel_rfl) ?_ ?_
          · -- each operation by itself
            refine ssteps_cons (fun a' w' hI hag hf K hK => ?_) ?_
            · have s7 := hag.same 7 (by decide)
              clear hag
              go_wp2_with fail
              exact hK _ _ hI (Kept.refl _ _) rfl
            refine ssteps_cons (fun a' w' hI hag hf K hK => ?_) ?_
            · obtain ⟨⟨_, h0, rfl⟩, -⟩ : SFacts _ _ a' w' [0] := hf
              clear hag
              go_wp2_with fail
              exact hK _ _ hI (Kept.refl _ _) rfl
            refine ssteps_cons (fun a' w' hI hag hf K hK => ?_) ?_
            · obtain ⟨⟨_, h1, rfl⟩, -⟩ : SFacts _ _ a' w' [1] := hf
              clear hag
              go_wp2_with fail
              exact hK _ _ hI (Kept.refl _ _) rfl
            refine ssteps_cons (fun a' w' hI hag hf K hK => ?_) ?_
            · obtain ⟨⟨_, h2, rfl⟩, -⟩ : SFacts _ _ a' w' [2] := hf
              clear hag
              have HI' := Lw.hid hI
              have cc := hI.cell x1 (fun h => h)
              clear hI
              go_wp2_with fail
              exact hK _ _ HI'.out (Kept.refl _ _) rfl
            refine ssteps_cons (fun a' w' hI hag hf K hK => ?_) ?_
            · obtain ⟨⟨_, h3, rfl⟩, -⟩ : SFacts _ _ a' w' [3] := hf
              clear hag
              have HI' := Lw.hid hI
              clear hI
              go_wp2_with fail
              refine (lnext_any w' BL g _ (HI'.out.heap BXL.out.box (fun h => h))).mono ?_
              rintro e _ ⟨rfl, rfl⟩
              rw [HNX.out]
              go_wp2_with fail
              exact hK _ _ HI'.out (Kept.refl _ _) rfl
            refine ssteps_cons (fun a' w' hI hag hf K hK => ?_) ?_
            · have s7 := hag.same 7 (by decide)
              clear hag
              go_wp2_with fail
              exact hK _ _ hI (Kept.refl _ _) rfl
            refine ssteps_cons (fun a' w' hI hag hf K hK => ?_) ?_
            · obtain ⟨⟨_, h5, rfl⟩, -⟩ : SFacts _ _ a' w' [5] := hf
              clear hag
              go_wp2_with fail
              exact hK _ _ hI (Kept.refl _ _) rfl
            refine ssteps_cons (fun a' w' hI hag hf K hK => ?_) ?_
            · obtain ⟨⟨_, h6, rfl⟩, -⟩ : SFacts _ _ a' w' [6] := hf
              clear hag
              go_wp2_with fail
              exact hK _ _ hI (Kept.refl _ _) rfl
            refine ssteps_cons (fun a' w' hI hag hf K hK => ?_) ?_
            · obtain ⟨⟨_, h7, rfl⟩, -⟩ : SFacts _ _ a' w' [7] := hf
              clear hag
              have HI' := Lw.hid hI
              have cc := hI.cell x3 (fun h => h)
              clear hI
              go_wp2_with fail
              exact hK _ _ HI'.out (Kept.refl _ _) rfl
            refine ssteps_cons (fun a' w' hI hag hf K hK => ?_) ?_
            · obtain ⟨⟨_, h8, rfl⟩, -⟩ : SFacts _ _ a' w' [8, 4] := hf
              clear hag
              have HI' := Lw.hid hI
              clear hI
              go_wp2_with fail
              refine (rnext_any w' GR gr _ _ na (HI'.out.heap RLL.out.box (fun h => h)) ⟨_, _, rfl⟩ (by omega)).mono ?_
              rintro e _ ⟨rfl, rfl⟩
              go_wp2_with fail
              exact hK _ _ HI'.out (Kept.refl _ _) rfl
            refine ssteps_cons (fun a' w' hI hag hf K hK => ?_) ?_
            · obtain ⟨⟨_, h4, rfl⟩, ⟨_, h9, rfl⟩, -⟩ : SFacts _ _ a' w' [4, 9] := hf
              clear hag
              go_wp2_with fail
              exact hK _ _ hI (Kept.refl _ _) rfl
            refine ssteps_cons (fun a' w' hI hag hf K hK => ?_) ?_
            · obtain ⟨⟨_, h10, rfl⟩, -⟩ : SFacts _ _ a' w' [10, 9] := hf
              clear hag
              go_wp2_with fail
              exact hK _ _ hI (Kept.refl _ _) rfl
            refine ssteps_cons (fun a' w' hI hag hf K hK => ?_) ?_
            · obtain ⟨⟨_, h11, rfl⟩, -⟩ : SFacts _ _ a' w' [11] := hf
              have s7 := hag.same 7 (by decide)
              clear hag
              go_wp2_with fail
              exact hK _ _ hI (Kept.refl _ _) rfl
            refine ssteps_cons (fun a' w' hI hag hf K hK => ?_) ?_
            · obtain ⟨⟨_, h12, rfl⟩, ⟨_, h11, rfl⟩, -⟩ : SFacts _ _ a' w' [12, 11] := hf
              clear hag
              go_wp2_with fail
              exact hK _ _ hI (Kept.refl _ _) rfl
            refine ssteps_cons (fun a' w' hI hag hf K hK => ?_) ?_
            · obtain ⟨⟨_, h13, rfl⟩, ⟨_, h11, rfl⟩, -⟩ : SFacts _ _ a' w' [13, 11] := hf
              clear hag
              go_wp2_with fail
              exact hK _ _ hI (Kept.refl _ _) rfl
            refine ssteps_cons (fun a' w' hI hag hf K hK => ?_) ?_
            · obtain ⟨⟨_, h14, rfl⟩, ⟨_, h11, rfl⟩, -⟩ : SFacts _ _ a' w' [14, 11] := hf
              clear hag
              have HI' := Lw.hid hI
              have cc := hI.cell x1 (fun h => h)
              clear hI
              go_wp2_with fail
              exact hK _ _ HI'.out (Kept.refl _ _) rfl
            refine ssteps_cons (fun a' w' hI hag hf K hK => ?_) ?_
            · obtain ⟨⟨_, h15, rfl⟩, ⟨_, h11, rfl⟩, -⟩ : SFacts _ _ a' w' [15, 11] := hf
              clear hag
              have HI' := Lw.hid hI
              clear hI
              go_wp2_with fail
              refine (lsize_any w' BL g _ (HI'.out.heap BXL.out.box (fun h => h))).mono ?_
              rintro e _ ⟨rfl, rfl⟩
              rw [HFN.out]
              go_wp2_with fail
              exact hK _ _ HI'.out (Kept.refl _ _) rfl
            refine ssteps_cons (fun a' w' hI hag hf K hK => ?_) ?_
            · obtain ⟨⟨_, h11, rfl⟩, -⟩ : SFacts _ _ a' w' [11] := hf
              have s7 := hag.same 7 (by decide)
              clear hag
              go_wp2_with fail
              exact hK _ _ hI (Kept.refl _ _) rfl
            refine ssteps_cons (fun a' w' hI hag hf K hK => ?_) ?_
            · obtain ⟨⟨_, h17, rfl⟩, ⟨_, h11, rfl⟩, -⟩ : SFacts _ _ a' w' [17, 11] := hf
              clear hag
              go_wp2_with fail
              exact hK _ _ hI (Kept.refl _ _) rfl
            refine ssteps_cons (fun a' w' hI hag hf K hK => ?_) ?_
            · obtain ⟨⟨_, h18, rfl⟩, ⟨_, h11, rfl⟩, -⟩ : SFacts _ _ a' w' [18, 11] := hf
              clear hag
              go_wp2_with fail
              exact hK _ _ hI (Kept.refl _ _) rfl
            refine ssteps_cons (fun a' w' hI hag hf K hK => ?_) ?_
            · obtain ⟨⟨_, h19, rfl⟩, ⟨_, h11, rfl⟩, -⟩ : SFacts _ _ a' w' [19, 11] := hf
              clear hag
              have HI' := Lw.hid hI
              have cc := hI.cell x3 (fun h => h)
              clear hI
              go_wp2_with fail
              exact hK _ _ HI'.out (Kept.refl _ _) rfl
            refine ssteps_cons (fun a' w' hI hag hf K hK => ?_) ?_
            · obtain ⟨⟨_, h20, rfl⟩, ⟨_, h11, rfl⟩, -⟩ : SFacts _ _ a' w' [20, 11] := hf
              clear hag
              go_wp2_with fail
              exact hK _ _ hI (Kept.refl _ _) rfl
            refine ssteps_cons (fun a' w' hI hag hf K hK => ?_) ?_
            · obtain ⟨⟨_, h21, rfl⟩, ⟨_, h11, rfl⟩, -⟩ : SFacts _ _ a' w' [21, 11] := hf
              clear hag
              go_wp2_with fail
              exact hK _ _ hI (Kept.refl _ _) rfl
            refine ssteps_cons (fun a' w' hI hag hf K hK => ?_) ?_
            · obtain ⟨⟨_, h22, rfl⟩, ⟨_, h11, rfl⟩, -⟩ : SFacts _ _ a' w' [22, 11] := hf
              clear hag
              have HI' := Lw.hid hI
              have cc := hI.cell y2 (fun h => h)
              clear hI
              go_wp2_with fail
              exact hK _ _ HI'.out (Kept.refl _ _) rfl
            refine ssteps_cons (fun a' w' hI hag hf K hK => ?_) ?_
            · obtain ⟨⟨_, h16, rfl⟩, ⟨_, h23, rfl⟩, ⟨_, h11, rfl⟩, -⟩ : SFacts _ _ a' w' [16, 23, 11] := hf
              clear hag
              go_wp2_with fail
              exact hK _ _ hI (Kept.refl _ _) rfl
            refine ssteps_cons (fun a' w' hI hag hf K hK => ?_) ?_
            · obtain ⟨⟨_, h11, rfl⟩, ⟨_, h24, rfl⟩, -⟩ : SFacts _ _ a' w' [11, 24] := hf
              clear hag
              go_wp2_with fail
              exact hK _ _ hI (Kept.refl _ _) rfl
            refine ssteps_cons (fun a' w' hI hag hf K hK => ?_) ?_
            · obtain ⟨⟨_, h25, rfl⟩, -⟩ : SFacts _ _ a' w' [25, 16] := hf
              clear hag
              go_wp2_with fail
              exact hK _ _ hI (Kept.refl _ _) rfl
            refine ssteps_cons (fun a' w' hI hag hf K hK => ?_) ?_
            · obtain ⟨⟨_, h26, rfl⟩, -⟩ : SFacts _ _ a' w' [26] := hf
              have s9 := hag.same 9 (by decide)
              clear hag
              go_wp2_with fail
              exact hK _ _ hI (Kept.refl _ _) rfl
            refine ssteps_cons (fun a' w' hI hag hf K hK => ?_) ?_
            · obtain ⟨⟨_, h27, rfl⟩, ⟨_, h26, rfl⟩, -⟩ : SFacts _ _ a' w' [27, 26] := hf
              clear hag
              have HI' := Lw.hid hI
              have cc := hI.cell z0 (fun h => h)
              clear hI
              go_wp2_with fail
              exact hK _ _ HI'.out (Kept.refl _ _) rfl
            refine ssteps_cons (fun a' w' hI hag hf K hK => ?_) ?_
            · obtain ⟨⟨_, h28, rfl⟩, ⟨_, h26, rfl⟩, -⟩ : SFacts _ _ a' w' [28, 26] := hf
              clear hag
              go_wp2_with fail
              exact hK _ _ hI (Kept.refl _ _) rfl
            refine ssteps_cons (fun a' w' hI hag hf K hK => ?_) ?_
            · obtain ⟨⟨_, h29, rfl⟩, ⟨_, h26, rfl⟩, -⟩ : SFacts _ _ a' w' [29, 26] := hf
              clear hag
              go_wp2_with fail
              exact hK _ _ hI (Kept.refl _ _) rfl
            refine ssteps_cons (fun a' w' hI hag hf K hK => ?_) ?_
            · obtain ⟨⟨_, h30, rfl⟩, -⟩ : SFacts _ _ a' w' [30] := hf
              have s7 := hag.same 7 (by decide)
              clear hag
              go_wp2_with fail
              exact hK _ _ hI (Kept.refl _ _) rfl
            refine ssteps_cons (fun a' w' hI hag hf K hK => ?_) ?_
            · obtain ⟨⟨_, h31, rfl⟩, ⟨_, h30, rfl⟩, -⟩ : SFacts _ _ a' w' [31, 30] := hf
              clear hag
              go_wp2_with fail
              exact hK _ _ hI (Kept.refl _ _) rfl
            refine ssteps_cons (fun a' w' hI hag hf K hK => ?_) ?_
            · obtain ⟨⟨_, h32, rfl⟩, ⟨_, h30, rfl⟩, -⟩ : SFacts _ _ a' w' [32, 30] := hf
              clear hag
              go_wp2_with fail
              exact hK _ _ hI (Kept.refl _ _) rfl
            refine ssteps_cons (fun a' w' hI hag hf K hK => ?_) ?_
            · obtain ⟨⟨_, h33, rfl⟩, ⟨_, h30, rfl⟩, -⟩ : SFacts _ _ a' w' [33, 30] := hf
              clear hag
              have HI' := Lw.hid hI
              have cc := hI.cell x1 (fun h => h)
              clear hI
              go_wp2_with fail
              exact hK _ _ HI'.out (Kept.refl _ _) rfl
            refine ssteps_cons (fun a' w' hI hag hf K hK => ?_) ?_
            · obtain ⟨⟨_, h34, rfl⟩, ⟨_, h30, rfl⟩, -⟩ : SFacts _ _ a' w' [34, 30] := hf
              clear hag
              have HI' := Lw.hid hI
              clear hI
              go_wp2_with fail
              refine (rows_w (PL.out.keptF HI'.out).s (BXL.out.keptF HI'.out) hfin HLP.out).mono ?_
              rintro e w9 ⟨rg, vg, rfl, hog, _, hpg, k9⟩
              have RG := Lw.hid (RdBB.of_rows hog hpg); have K9 := Lw.hid k9
              obtain ⟨adg, capg, rfl, _, _, _⟩ := own_slice hog
              clear hog hpg k9
              go_wp2_with fail
              exact hK _ _ (HI'.out.trans K9.out (fun _ _ h => h)) K9.out RG.out
            refine ssteps_cons (fun a' w' hI hag hf K hK => ?_) ?_
            · obtain ⟨⟨_, h30, rfl⟩, -⟩ : SFacts _ _ a' w' [30] := hf
              have s7 := hag.same 7 (by decide)
              clear hag
              go_wp2_with fail
              exact hK _ _ hI (Kept.refl _ _) rfl
            refine ssteps_cons (fun a' w' hI hag hf K hK => ?_) ?_
            · obtain ⟨⟨_, h36, rfl⟩, ⟨_, h30, rfl⟩, -⟩ : SFacts _ _ a' w' [36, 30] := hf
              clear hag
              go_wp2_with fail
              exact hK _ _ hI (Kept.refl _ _) rfl
            refine ssteps_cons (fun a' w' hI hag hf K hK => ?_) ?_
            · obtain ⟨⟨_, h37, rfl⟩, ⟨_, h30, rfl⟩, -⟩ : SFacts _ _ a' w' [37, 30] := hf
              clear hag
              go_wp2_with fail
              exact hK _ _ hI (Kept.refl _ _) rfl
            refine ssteps_cons (fun a' w' hI hag hf K hK => ?_) ?_
            · obtain ⟨⟨_, h38, rfl⟩, ⟨_, h30, rfl⟩, -⟩ : SFacts _ _ a' w' [38, 30] := hf
              clear hag
              have HI' := Lw.hid hI
              have cc := hI.cell x3 (fun h => h)
              clear hI
              go_wp2_with fail
              exact hK _ _ HI'.out (Kept.refl _ _) rfl
            refine ssteps_cons (fun a' w' hI hag hf K hK => ?_) ?_
            · obtain ⟨⟨_, h39, rfl⟩, ⟨_, h30, rfl⟩, -⟩ : SFacts _ _ a' w' [39, 30] := hf
              clear hag
              go_wp2_with fail
              exact hK _ _ hI (Kept.refl _ _) rfl
            refine ssteps_cons (fun a' w' hI hag hf K hK => ?_) ?_
            · obtain ⟨⟨_, h40, rfl⟩, ⟨_, h30, rfl⟩, -⟩ : SFacts _ _ a' w' [40, 30] := hf
              clear hag
              go_wp2_with fail
              exact hK _ _ hI (Kept.refl _ _) rfl
            refine ssteps_cons (fun a' w' hI hag hf K hK => ?_) ?_
            · obtain ⟨⟨_, h41, rfl⟩, ⟨_, h30, rfl⟩, -⟩ : SFacts _ _ a' w' [41, 30] := hf
              clear hag
              have HI' := Lw.hid hI
              have cc := hI.cell y1 (fun h => h)
              clear hI
              go_wp2_with fail
              exact hK _ _ HI'.out (Kept.refl _ _) rfl
            refine ssteps_cons (fun a' w' hI hag hf K hK => ?_) ?_
            · obtain ⟨⟨v35, h35, e35⟩, ⟨_, h42, rfl⟩, ⟨_, h30, rfl⟩, -⟩ : SFacts _ _ a' w' [35, 42, 30] := hf
              clear hag
              have HI' := Lw.hid hI
              clear hI
              have E35 := Lw.hid (show RdBB w' v35 A6 from e35)
              obtain ⟨adg, capg, rfl, _⟩ := E35.out.shape
              clear e35
              go_wp2_with fail
              refine (same_any w' _ _ A6 A6 E35.out (RBL.out.kept HI'.out) true (by simp)).mono ?_
              rintro e _ ⟨rfl, rfl⟩
              go_wp2_with fail
              exact hK _ _ HI'.out (Kept.refl _ _) rfl
            refine ssteps_cons (fun a' w' hI hag hf K hK => ?_) ?_
            · obtain ⟨⟨_, h43, rfl⟩, ⟨_, h30, rfl⟩, -⟩ : SFacts _ _ a' w' [43, 30] := hf
              clear hag
              go_wp2_with fail
              exact hK _ _ hI (Kept.refl _ _) rfl
            refine ssteps_cons (fun a' w' hI hag hf K hK => ?_) ?_
            · obtain ⟨⟨_, h30, rfl⟩, ⟨_, h44, rfl⟩, ⟨_, h26, rfl⟩, -⟩ : SFacts _ _ a' w' [30, 44, 26] := hf
              clear hag
              go_wp2_with fail
              exact hK _ _ hI (Kept.refl _ _) rfl
            refine ssteps_cons (fun a' w' hI hag hf K hK => ?_) ?_
            · obtain ⟨⟨_, h26, rfl⟩, ⟨_, h45, rfl⟩, -⟩ : SFacts _ _ a' w' [26, 45] := hf
              clear hag
              go_wp2_with fail
              exact hK _ _ hI (Kept.refl _ _) rfl
            exact trivial
          intro vs w8 hI hvs
          have q0 : vs 0 = (.pointer (some ⟨X, 0, none⟩)) := hvs 0 _ _ rfl rfl
          have q1 : vs 1 = (.pointer (some ⟨X, 0, none⟩)) := hvs 1 _ _ rfl rfl
          have q2 : vs 2 = (.pointer (some ⟨X, 1, none⟩)) := hvs 2 _ _ rfl rfl
          have q3 : vs 3 = (.pointer (some ⟨BL, 0, none⟩)) := hvs 3 _ _ rfl rfl
          have q4 : vs 4 = (.int .u32 ((na + 1 : Nat) : Int)) := hvs 4 _ _ rfl rfl
          have q5 : vs 5 = (.pointer (some ⟨X, 0, none⟩)) := hvs 5 _ _ rfl rfl
          have q6 : vs 6 = (.pointer (some ⟨X, 0, none⟩)) := hvs 6 _ _ rfl rfl
          have q7 : vs 7 = (.pointer (some ⟨X, 3, none⟩)) := hvs 7 _ _ rfl rfl
          have q8 : vs 8 = (.pointer (some ⟨GR, 0, none⟩)) := hvs 8 _ _ rfl rfl
          have q9 : vs 9 = (.int .u32 ((na + 1 : Nat) : Int)) := hvs 9 _ _ rfl rfl
          have q10 : vs 10 = (.bool false) := hvs 10 _ _ rfl rfl
          have q11 : vs 11 = (.bool false) := hvs 11 _ _ rfl rfl
          have q12 : vs 12 = (.pointer (some ⟨X, 0, none⟩)) := hvs 12 _ _ rfl rfl
          have q13 : vs 13 = (.pointer (some ⟨X, 0, none⟩)) := hvs 13 _ _ rfl rfl
          have q14 : vs 14 = (.pointer (some ⟨X, 1, none⟩)) := hvs 14 _ _ rfl rfl
          have q15 : vs 15 = (.pointer (some ⟨BL, 0, none⟩)) := hvs 15 _ _ rfl rfl
          have q16 : vs 16 = (.int .i64 (fn : Int)) := hvs 16 _ _ rfl rfl
          have q17 : vs 17 = (.pointer (some ⟨X, 0, none⟩)) := hvs 17 _ _ rfl rfl
          have q18 : vs 18 = (.pointer (some ⟨X, 0, none⟩)) := hvs 18 _ _ rfl rfl
          have q19 : vs 19 = (.pointer (some ⟨X, 3, none⟩)) := hvs 19 _ _ rfl rfl
          have q20 : vs 20 = (.pointer (some ⟨GR, 0, none⟩)) := hvs 20 _ _ rfl rfl
          have q21 : vs 21 = (.pointer (some ⟨GR, 0, none⟩)) := hvs 21 _ _ rfl rfl
          have q22 : vs 22 = (.pointer (some ⟨GR, 2, none⟩)) := hvs 22 _ _ rfl rfl
          have q23 : vs 23 = (.int .i64 (fn : Int)) := hvs 23 _ _ rfl rfl
          have q24 : vs 24 = (.bool false) := hvs 24 _ _ rfl rfl
          have q25 : vs 25 = (.bool false) := hvs 25 _ _ rfl rfl
          have q26 : vs 26 = (.bool false) := hvs 26 _ _ rfl rfl
          have q27 : vs 27 = (.pointer (some ⟨BA, 0, none⟩)) := hvs 27 _ _ rfl rfl
          have q28 : vs 28 = (.int .i64 tw) := hvs 28 _ _ rfl rfl
          have q29 : vs 29 = (.bool true) := hvs 29 _ _ rfl rfl
          have q30 : vs 30 = (.bool true) := hvs 30 _ _ rfl rfl
          have q31 : vs 31 = (.pointer (some ⟨X, 0, none⟩)) := hvs 31 _ _ rfl rfl
          have q32 : vs 32 = (.pointer (some ⟨X, 0, none⟩)) := hvs 32 _ _ rfl rfl
          have q33 : vs 33 = (.pointer (some ⟨X, 1, none⟩)) := hvs 33 _ _ rfl rfl
          have q34 : vs 34 = (.pointer (some ⟨BL, 0, none⟩)) := hvs 34 _ _ rfl rfl
          have q35 := hvs 35 _ _ rfl rfl
          have q36 : vs 36 = (.pointer (some ⟨X, 0, none⟩)) := hvs 36 _ _ rfl rfl
          have q37 : vs 37 = (.pointer (some ⟨X, 0, none⟩)) := hvs 37 _ _ rfl rfl
          have q38 : vs 38 = (.pointer (some ⟨X, 3, none⟩)) := hvs 38 _ _ rfl rfl
          have q39 : vs 39 = (.pointer (some ⟨GR, 0, none⟩)) := hvs 39 _ _ rfl rfl
          have q40 : vs 40 = (.pointer (some ⟨GR, 0, none⟩)) := hvs 40 _ _ rfl rfl
          have q41 : vs 41 = (.pointer (some ⟨GR, 1, none⟩)) := hvs 41 _ _ rfl rfl
          have q42 : vs 42 = (.slice adl na capl) := hvs 42 _ _ rfl rfl
          have q43 : vs 43 = (.bool true) := hvs 43 _ _ rfl rfl
          have q44 : vs 44 = (.bool false) := hvs 44 _ _ rfl rfl
          have q45 : vs 45 = (.bool false) := hvs 45 _ _ rfl rfl
          have q46 : vs 46 = (.bool false) := hvs 46 _ _ rfl rfl
          clear hvs
          simp only [List.take_succ_cons, List.take_zero, List.drop_succ_cons, List.drop_zero, putAll, Act.put, List.setIfInBounds_toArray, List.set_cons_zero, List.set_cons_succ, Nat.reduceAdd, q0, q1, q2, q3, q4, q5, q6, q7, q8, q9, q10, q11, q12, q13, q14, q15, q16, q17, q18, q19, q20, q21, q22, q23, q24, q25, q26, q27, q28, q29, q30, q31, q32, q33, q34, q36, q37, q38, q39, q40, q41, q42, q43, q44, q45, q46]
          clear q0 q1 q2 q3 q4 q5 q6 q7 q8 q9 q10 q11 q12 q13 q14 q15 q16 q17 q18 q19 q20 q21 q22 q23 q24 q25 q26 q27 q28 q29 q30 q31 q32 q33 q34 q36 q37 q38 q39 q40 q41 q42 q43 q44 q45 q46
          generalize vs 35 = x35 at *
          have K8 := Lw.hid hI
          clear hI q35
          go_wp2_with fail
          go_roundg (N - (k + 1))
          case measure => omega
          case rel => exact ⟨k + 1, rfl, hkn, by go_num, HNEXT.out _ K8.out⟩
    · have hkd : decide ((k : Int) < (N : Int)) = false := by simp; omega
      obtain ⟨P, Q, v, vr, D, R, pl, pm, A, hpl, _, _⟩ := HBO.out
      have HPL := Lw.hid hpl
      clear hpl
      go_wp2_with fail
      refine (lwakes_any wr HPL.out.s.tab).mono ?_
      rintro e w8 ⟨rfl, k8⟩
      go_wp2_with fail
      go_ret
      exact ⟨rfl, HPL.out.s.k.trans k8 (fun _ _ h => h)⟩
end Go.Proofs.YtfmebmaklakckaaDoor
