/- DiskPlays: the program's disk beside the document's (plain); both in one world. -/
import Derived.Test.YtoiinmiedmjghaaRefDisk3
import Derived.Test.YtoiinmiedmjghaaDiskLastP
namespace Go.Proofs.Ytoiinmiedmjghaa
open Go Go.RowKit Go.Lw
set_option maxRecDepth 100000
/-- Behind k calls: they are alike, and within bounds. -/
structure Good (k : Nat) (D : Dsk) (R : Rsk) : Prop where
  cap : D.cap = R.cap
  b : D.b = R.b
  puts : D.puts = R.puts
  st : D.stopped = R.stopped
  plan : D.is = true → R.left = D.np ∧ R.bytes = D.nb ∧ 0 ≤ D.np ∧ 0 ≤ D.nb
  none : D.is = false → R.left = -1
  bytes : 0 ≤ R.bytes ∧ R.bytes ≤ 9223372036854775807
  len : D.b.length ≤ D.cap
  cap9 : D.cap ≤ 1048576
  puts9 : D.puts ≤ k
  np : -(k : Int) ≤ D.np ∧ D.np ≤ 9223372036854775807
  nb : 0 ≤ D.nb ∧ D.nb ≤ 9223372036854775807
theorem Good.dok {k : Nat} {D : Dsk} {R : Rsk} (h : Good k D R) (hk : k ≤ 1000) : D.ok :=
  ⟨h.len, h.cap9, by have := h.puts9; omega, by have := h.np; omega, h.np.2, fun hi => ⟨(h.plan hi).2.2.1, h.nb.1⟩, by have := h.nb; omega⟩
theorem Good.rok {k : Nat} {D : Dsk} {R : Rsk} (h : Good k D R) (hk : k ≤ 1000) : R.ok := by
  refine ⟨by rw [← h.b, ← h.cap]; exact h.len, by rw [← h.cap]; exact h.cap9, by rw [← h.puts]; have := h.puts9; omega, ?_, h.bytes⟩
  cases hi : D.is with
  | true => have := h.plan hi; have := h.np; omega
  | false => have := h.none hi; omega
theorem Good.next {k : Nat} {D : Dsk} {R : Rsk} (h : Good k D R) : Good (k + 1) D R :=
  ⟨h.cap, h.b, h.puts, h.st, h.plan, h.none, h.bytes, h.len, h.cap9, by have := h.puts9; omega, by have := h.np; omega, h.nb⟩
theorem Good.put {k : Nat} {D : Dsk} {R : Rsk} (h : Good k D R) (a : Int) (l : List UInt8) : (D.put a l).2 = (R.put a l).2 ∧ Good (k + 1) (D.put a l).1 (R.put a l).1 := by
  obtain ⟨cp, b, pt, st, is, np, nb⟩ := D
  obtain ⟨cp', b', pt', st', left, bytes⟩ := R
  obtain ⟨h1, h2, h3, h4, h5, h6, h7, h8, h9, h10, h11, h12⟩ := h
  simp only at h1 h2 h3 h4 h5 h6 h7 h8 h9 h10 h11 h12
  subst h1 h2 h3 h4
  have hg : Good (k + 1) ⟨cp, b, pt, st, is, np, nb⟩ ⟨cp, b, pt, st, left, bytes⟩ := ⟨rfl, rfl, rfl, rfl, h5, h6, h7, h8, h9, by simp only; omega, by simp only; omega, h12⟩
  unfold Dsk.put Rsk.put
  simp only
  by_cases c1 : st = true
  · rw [if_pos c1, if_pos c1]; exact ⟨rfl, hg⟩
  rw [if_neg c1, if_neg c1]
  by_cases c2 : a < 0 ∨ (b.length : Int) < a
  · rw [if_pos c2, if_pos c2]; exact ⟨rfl, hg⟩
  rw [if_neg c2, if_neg c2]
  by_cases c3 : (cp : Int) - a < l.length
  · rw [if_pos c3, if_pos (show (cp : Int) < a + l.length by omega)]; exact ⟨rfl, hg⟩
  rw [if_neg c3, if_neg (show ¬ (cp : Int) < a + l.length by omega)]
  have hlen : ∀ m : List UInt8, m.length ≤ l.length → (lay b a.toNat m).length ≤ cp := fun m hm => by rw [lay_len (by omega)]; omega
  cases is with
  | true =>
    obtain ⟨e1, e2, e3, e4⟩ := h5 rfl
    subst e1 e2
    by_cases c4 : left = 0
    · rw [if_pos ⟨rfl, c4⟩, if_pos c4]
      exact ⟨rfl, ⟨rfl, rfl, rfl, rfl, (fun h => by cases h), fun _ => rfl, h7, hlen _ (by rw [List.length_take]; omega), h9, by simp only; omega, by simp only; omega, by simp only; omega⟩⟩
    · rw [if_neg (fun h => c4 h.2), if_neg c4]
      exact ⟨rfl, ⟨rfl, rfl, rfl, rfl, fun _ => ⟨if_pos (by omega), rfl, by simp only; omega, e4⟩, (fun h => by cases h), h7, hlen _ (Nat.le_refl _), h9, by simp only; omega, by simp only; omega, h12⟩⟩
  | false =>
    have e1 := h6 rfl
    subst e1
    rw [if_neg (by simp), if_neg (by decide)]
    exact ⟨rfl, ⟨rfl, rfl, rfl, rfl, (fun h => by cases h), fun _ => by simp, h7, hlen _ (Nat.le_refl _), h9, by simp only; omega, by simp only; omega, h12⟩⟩
theorem Good.plan' {k : Nat} {D : Dsk} {R : Rsk} (h : Good k D R) (p n : Int) (hp : p ≤ 9223372036854775807) (hn : n ≤ 9223372036854775807) : (D.plan p n).2 = (R.plan p n).2 ∧ Good (k + 1) (D.plan p n).1 (R.plan p n).1 := by
  unfold Dsk.plan Rsk.plan
  have hs := h.st
  by_cases c1 : R.stopped = true
  · rw [if_pos (hs.trans c1), if_pos c1]; exact ⟨rfl, h.next⟩
  rw [if_neg (by rw [hs]; exact c1), if_neg c1]
  by_cases c2 : p < 0 ∨ n < 0
  · rw [if_pos c2, if_pos c2]; exact ⟨rfl, h.next⟩
  rw [if_neg c2, if_neg c2]
  exact ⟨rfl, ⟨h.cap, h.b, h.puts, h.st, fun _ => ⟨rfl, rfl, by simp only; omega, by simp only; omega⟩, (fun hf => by cases hf), by simp only; omega, h.len, h.cap9, by have := h.puts9; simp only; omega, by simp only; omega, by simp only; omega⟩⟩
theorem Good.revive {k : Nat} {D : Dsk} {R : Rsk} (h : Good k D R) : D.revive.2 = R.revive.2 ∧ Good (k + 1) D.revive.1 R.revive.1 := by
  unfold Dsk.revive Rsk.revive
  have hs := h.st
  by_cases c1 : R.stopped = true
  · rw [if_pos (hs.trans c1), if_pos c1]
    exact ⟨rfl, ⟨h.cap, h.b, h.puts, rfl, h.plan, h.none, h.bytes, h.len, h.cap9, by have := h.puts9; simp only; omega, by have := h.np; simp only; omega, h.nb⟩⟩
  · rw [if_neg (by rw [hs]; exact c1), if_neg c1]; exact ⟨rfl, h.next⟩
/-- Both disks in one world, apart; what has turned since w3 is of T. -/
structure Both (T : Nat → Prop) (w3 w : World) (g gr : Nat) (v vr : Value) (D : Dsk) (R : Rsk) : Prop where
  d : DiskAt w g v D
  r : RefAt w gr vr R
  k : Kept T w3 w
  tg : T g
  tr : T gr
  tv : ∀ q, blk v q → T q
  tvr : ∀ q, blk vr q → T q
  ne : g ≠ gr
  a1 : ¬ blk v gr
  a2 : ¬ blk vr g
  a3 : ∀ q, blk v q → ¬ blk vr q
theorem Both.kept {T S : Nat → Prop} {w3 w w' : World} {g gr : Nat} {v vr : Value} {D : Dsk} {R : Rsk} (h : Both T w3 w g gr v vr D R) (k : Kept S w w') (hS : ∀ q, S q → q < w.heap.size → T q ∧ q ≠ g ∧ q ≠ gr ∧ ¬ blk v q ∧ ¬ blk vr q) (h3 : w3.heap.size ≤ w.heap.size) : Both T w3 w' g gr v vr D R := by
  have hdl := heap_lt h.d.box; have hrl := heap_lt h.r.box; have hvl := own_lt h.d.own; have hvrl := own_lt h.r.own
  exact ⟨h.d.kept k (fun e => (hS g e hdl).2.1 rfl) (fun b hb e => (hS b e (hvl b hb)).2.2.2.1 hb), h.r.kept k (fun e => (hS gr e hrl).2.2.1 rfl) (fun b hb e => (hS b e (hvrl b hb)).2.2.2.2 hb),
    h.k.trans k (fun i hi e => (hS i e (by omega)).1), h.tg, h.tr, h.tv, h.tvr, h.ne, h.a1, h.a2, h.a3⟩
theorem fresh_nil {w : World} {v : Value} (h : Fresh w (.slice none 0 0) v) : ∀ q, blk v q → w.heap.size ≤ q := fun q hq => (h q hq).resolve_left (fun h => blk_none h)
theorem own_apart {wr : World} {o : Obj} {u v : Value} {g : Nat} (hf : ∀ q, blk u q → (wr.alloc o).heap.size ≤ q) (hg : g < wr.heap.size) (hv : ∀ q, blk v q → q < wr.heap.size) : ∀ q, blk u q → q ≠ g ∧ ¬ blk v q := fun q hq => by
  have h := hf q hq
  simp at h
  exact ⟨by omega, fun h' => by have := hv q h'; omega⟩
theorem box_apart {wr : World} {v : Value} {g : Nat} (hg : g < wr.heap.size) (hv : ∀ q, blk v q → q < wr.heap.size) : ¬ (wr.heap.size = g ∨ blk v wr.heap.size) := fun h => by
  rcases h with h | h
  · omega
  · have := hv _ h; omega
theorem args_apart {T : Nat → Prop} {u v : Value} {g : Nat} (h : ∀ q, blk u q → ¬ T q) (hg : T g) (hv : ∀ q, blk v q → T q) : ∀ q, blk u q → q ≠ g ∧ ¬ blk v q := fun q hq => ⟨fun e => h q hq (e ▸ hg), fun e => h q hq (hv q e)⟩
theorem kept_set1 (w : World) (g i : Nat) (u : Value) : Kept (fun q => q = g) w (w.setCell ⟨g, i, none⟩ u) := (Kept.refl (fun q => q = g) w).set g i (fun _ => rfl) u
theorem xor_bv (y : UInt8) : ∃ c : UInt8, Value.int .u8 (bits BinOp.xor .u8 (y.toNat : Int) 255) = bv c := by
  have hy := y.toNat_lt
  refine ⟨UInt8.ofNat (y.toNat ^^^ 255), ?_⟩
  rw [show (255 : Int) = ((255 : Nat) : Int) from rfl, u8_xor_nat y.toNat 255 hy (by decide)]
  have hx : y.toNat ^^^ 255 < 256 := Nat.xor_lt_two_pow (n := 8) hy (by decide)
  unfold bv
  rw [UInt8.toNat_ofNat', Nat.mod_eq_of_lt hx]
theorem rdb_len9 {w : World} {a : Option Addr} {n c : Nat} {l : List UInt8} (hn : l.length = n) (h : w.ownsRow 0 5 1 (.slice a n c) l.length (l.map bv)) : RdB w (.slice a n c) l := by
  have := hn
  exact RdB.of_own h rfl
theorem Both.keptF {T : Nat → Prop} {w3 w w' : World} {g gr : Nat} {v vr : Value} {D : Dsk} {R : Rsk} (h : Both T w3 w g gr v vr D R) (k : Kept (fun _ => False) w w') : Both T w3 w' g gr v vr D R :=
  h.kept k (fun _ h => h.elim) h.k.size
theorem Both.put {T : Nat → Prop} {w3 w w' : World} {g gr : Nat} {v vr : Value} {D D' : Dsk} {R : Rsk} (h : Both T w3 w g gr v vr D R) (hp : DPost w w' g v D') (hT : ∀ q, w3.heap.size ≤ q → T q) :
    ∃ v', Both T w3 w' g gr v' vr D' R ∧ Kept (fun q => q = g ∨ blk v q) w w' ∧ ∀ q, q < w.heap.size → blk v' q → blk v q := by
  obtain ⟨v', d, k, f⟩ := hp
  have hrl := heap_lt h.r.box; have hvrl := own_lt h.r.own; have hgl := heap_lt h.d.box
  have h3 := h.k.size
  refine ⟨v', ⟨d, h.r.kept k (fun e => ?_) (fun b hb e => ?_), h.k.trans k (fun i _ e => ?_), h.tg, h.tr, fun q hq => ?_, h.tvr, h.ne, fun e => ?_, h.a2, fun q hq hr => ?_⟩, k, fun q hq h => (f q h).resolve_right (by omega)⟩
  · rcases e with e | e
    · exact h.ne e.symm
    · exact h.a1 e
  · rcases e with e | e
    · exact h.a2 (e ▸ hb)
    · exact h.a3 b e hb
  · rcases e with e | e
    · exact e ▸ h.tg
    · exact h.tv i e
  · rcases f q hq with e | e
    · exact h.tv q e
    · exact hT q (by omega)
  · rcases f gr e with e | e
    · exact h.a1 e
    · omega
  · rcases f q hq with e | e
    · exact h.a3 q e hr
    · have := hvrl q hr; omega
theorem Both.rput {T : Nat → Prop} {w3 w w' : World} {g gr : Nat} {v vr : Value} {D : Dsk} {R R' : Rsk} (h : Both T w3 w g gr v vr D R) (hp : RPost w w' gr vr R') (hT : ∀ q, w3.heap.size ≤ q → T q) :
    ∃ vr', Both T w3 w' g gr v vr' D R' ∧ Kept (fun q => q = gr ∨ blk vr q) w w' ∧ ∀ q, q < w.heap.size → blk vr' q → blk vr q := by
  obtain ⟨v', d, k, f⟩ := hp
  have hrl := heap_lt h.d.box; have hvrl := own_lt h.d.own
  have h3 := h.k.size
  refine ⟨v', ⟨h.d.kept k (fun e => ?_) (fun b hb e => ?_), d, h.k.trans k (fun i _ e => ?_), h.tg, h.tr, h.tv, fun q hq => ?_, h.ne, h.a1, fun e => ?_, fun q hq hr => ?_⟩, k, fun q hq h => (f q h).resolve_right (by omega)⟩
  · rcases e with e | e
    · exact h.ne e
    · exact h.a2 e
  · rcases e with e | e
    · exact h.a1 (e ▸ hb)
    · exact h.a3 b hb e
  · rcases e with e | e
    · exact e ▸ h.tr
    · exact h.tvr i e
  · rcases f q hq with e | e
    · exact h.tvr q e
    · exact hT q (by omega)
  · rcases f g e with e | e
    · exact h.a2 e
    · omega
  · rcases f q hr with e | e
    · exact h.a3 q hq e
    · have := hvrl q hq; omega
theorem own_over {T : Nat → Prop} {w3 w5 w6 w7 : World} {g gr : Nat} {v vr v6 vr7 u : Value} {n : Nat} {xs : List Value} (ho : w5.ownsRow 0 5 1 u n xs) (ha : ∀ q, blk u q → (q ≠ g ∧ ¬ blk v q) ∧ (q ≠ gr ∧ ¬ blk vr q)) (hT : ∀ q, blk u q → w3.heap.size ≤ q) (hT3 : ∀ q, w3.heap.size ≤ q → T q)
    (k6 : Kept (fun q => q = g ∨ blk v q) w5.drew w6) (f6 : ∀ q, q < w5.drew.heap.size → blk v6 q → blk v q) (k7 : Kept (fun q => q = gr ∨ blk vr q) w6 w7) (f7 : ∀ q, q < w6.heap.size → blk vr7 q → blk vr q) :
    w7.ownsRow 0 5 1 u n xs ∧ ∀ q, blk u q → T q ∧ q ≠ g ∧ q ≠ gr ∧ ¬ blk v6 q ∧ ¬ blk vr7 q := by
  have hl := own_lt ho
  have h6 : w6.ownsRow 0 5 1 u n xs := own_kept (a := w5.drew) k6 ho (fun q hq h => by
    rcases h with h | h
    · exact (ha q hq).1.1 h
    · exact (ha q hq).1.2 h)
  have h7 : w7.ownsRow 0 5 1 u n xs := own_kept k7 h6 (fun q hq h => by
    rcases h with h | h
    · exact (ha q hq).2.1 h
    · exact (ha q hq).2.2 h)
  exact ⟨h7, fun q hq => ⟨hT3 q (hT q hq), (ha q hq).1.1, (ha q hq).2.1, fun h => (ha q hq).1.2 (f6 q (hl q hq) h), fun h => (ha q hq).2.2 (f7 q (own_lt h6 q hq) h)⟩⟩
theorem Both.copy {T : Nat → Prop} {w3 w w' : World} {g gr g' : Nat} {v vr v' : Value} {D : Dsk} {R : Rsk} (h : Both T w3 w g gr v vr D R) (d : DiskAt w' g' v' D) (k : Kept (fun _ => False) w w') (hg : w.heap.size ≤ g') (hv : ∀ q, blk v' q → w.heap.size ≤ q) (hT : ∀ q, w3.heap.size ≤ q → T q) :
    Both T w3 w' g' gr v' vr D R := by
  have hrl := heap_lt h.r.box; have hvrl := own_lt h.r.own
  have h3 := h.k.size
  exact ⟨d, h.r.kept k (fun h => h) (fun _ _ h => h), h.k.trans k (fun _ _ e => e.elim), hT g' (by omega), h.tr, fun q hq => hT q (by have := hv q hq; omega), h.tvr, by omega, fun e => by have := hv gr e; omega, fun e => by have := hvrl g' e; omega, fun q hq hr => by have := hv q hq; have := hvrl q hr; omega⟩
end Go.Proofs.Ytoiinmiedmjghaa
