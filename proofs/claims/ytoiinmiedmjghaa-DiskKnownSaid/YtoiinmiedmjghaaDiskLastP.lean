/- DiskLast: what the disk holds, round by round (plain); how the loop goes on. -/
import Derived.Test.YtoiinmiedmjghaaDiskT
import Derived.Test.YtoiinmiedmjghaaActs
import Derived.Test.YtoiinmiedmjghaaSlEq
namespace Go.Proofs.Ytoiinmiedmjghaa
open Go Go.RowKit Go.Lw
set_option maxRecDepth 100000
/-- The disk behind 'done' puts that count, planned to stop within the put number n. -/
def lastD (n many done : Nat) (W : List UInt8) : Dsk := if done ≤ n then ⟨2000, W, done, false, true, (n : Int) - (done : Int), many⟩ else ⟨2000, W, n, true, false, 0, 0⟩
theorem lastD_b (n many done : Nat) (W : List UInt8) : (lastD n many done W).b = W := by unfold lastD; split <;> rfl
theorem lastD_pos {n many done : Nat} {W : List UInt8} (h : done ≤ n) : lastD n many done W = ⟨2000, W, done, false, true, (n : Int) - (done : Int), many⟩ := if_pos h
theorem lastD_neg {n many done : Nat} {W : List UInt8} (h : ¬ done ≤ n) : lastD n many done W = ⟨2000, W, n, true, false, 0, 0⟩ := if_neg h
theorem lastD_lt {n many done : Nat} {W : List UInt8} (h : done < n) (p : Nat) (l : List UInt8) (hp : p ≤ W.length) (hl : W.length + l.length ≤ 1000) : (lastD n many done W).put p l = (lastD n many (done + 1) (lay W p l), 0) := by
  rw [lastD_pos (by omega), lastD_pos (by omega)]
  unfold Dsk.put
  simp only
  rw [if_neg (by simp), if_neg (by omega), if_neg (by omega), if_neg (by omega)]
  simp
  omega
theorem lastD_eq {n many : Nat} {W : List UInt8} (p : Nat) (l : List UInt8) (hp : p ≤ W.length) (hl : W.length + l.length ≤ 1000) : (lastD n many n W).put p l = (lastD n many (n + 1) (lay W p (l.take (min many l.length))), 10) := by
  rw [lastD_pos (Nat.le_refl _), lastD_neg (by omega)]
  unfold Dsk.put
  simp only
  rw [if_neg (by simp), if_neg (by omega), if_neg (by omega), if_pos ⟨trivial, by omega⟩]
  simp
theorem lastD_gt {n many : Nat} {W : List UInt8} (p : Int) (l : List UInt8) : (lastD n many (n + 1) W).put p l = (lastD n many (n + 1) W, 10) := by
  rw [lastD_neg (by omega)]
  unfold Dsk.put
  simp
theorem lastD_ok {n many done : Nat} {W : List UInt8} (hn : n ≤ 14) (hm : many < 50) (hd : done ≤ n + 1) (hW : W.length ≤ 2000) : (lastD n many done W).ok := by
  unfold lastD
  split
  · exact Dsk.ok_mk hW (by decide) (by omega) (by omega) (by omega) (fun _ => by omega)
  · exact Dsk.ok_mk hW (by decide) (by omega) (by omega) (by omega) (fun _ => by omega)
theorem lastD_stopped (n many done : Nat) (W : List UInt8) : (lastD n many done W).stopped = decide (n < done) := by
  unfold lastD; split
  · simp; omega
  · simp; omega
theorem lastD_puts (n many done : Nat) (W : List UInt8) (h : done ≤ n + 1) : (lastD n many done W).puts = min done n := by
  unfold lastD; split
  · simp; omega
  · simp; omega
theorem place_of (a : Int) (L : Nat) (hL : L ≤ 1000) : ∃ p : Nat, p ≤ L ∧ wrap64 ((IntKind.u64.wrap a).tmod ((L : Int) + 1)) = (p : Int) := by
  have h0 : IntKind.u64.wrap a = a % 18446744073709551616 := by rw [IntKind.wrap_u64]
  obtain ⟨q, hq⟩ : ∃ q : Nat, IntKind.u64.wrap a = (q : Int) := ⟨(a % 18446744073709551616).toNat, by rw [h0]; omega⟩
  refine ⟨q % (L + 1), by have := Nat.mod_lt q (show 0 < L + 1 by omega); omega, ?_⟩
  have h1 : ((q : Int)).tmod ((L : Int) + 1) = ((q % (L + 1) : Nat) : Int) := by
    rw [Int.tmod_eq_emod_of_nonneg (by omega)]; norm_cast
  rw [hq, h1]
  have := Nat.mod_lt q (show 0 < L + 1 by omega)
  exact IntWalk.wrap64_in _ (by omega)
theorem RdA.kept {S : Nat → Prop} {w w' : World} {v : Value} {l : List Act4} (h : RdA w v l) (k : Kept S w w') (hv : ∀ q, blk v q → ¬ S q) (hl : ∀ a ∈ l, a.l.length ≠ 0 → ∀ q, blk a.v q → ¬ S q) : RdA w' v l :=
  ⟨h.1.kept k hv, fun a ha => ⟨(h.2 a ha).what, (h.2 a ha).at_, (h.2 a ha).many, (h.2 a ha).rd.keptE k (hl a ha)⟩⟩
/-- A call that turned a disk: what is left, of blocks that may turn; another own row. -/
theorem DPost.goes {T : Nat → Prop} {w w' W : World} {g : Nat} {v : Value} {D : Dsk} (h : DPost w w' g v D) (k0 : Kept T W w) (hg : T g) (hv : ∀ k, blk v k → T k) (hT : ∀ k, w.heap.size ≤ k → T k) :
    ∃ v', DiskAt w' g v' D ∧ Kept T W w' ∧ (∀ k, blk v' k → T k) ∧ w.heap.size ≤ w'.heap.size ∧
      ∀ (u : Value) (n : Nat) (xs : List Value), w.ownsRow 0 5 1 u n xs → (∀ k, blk u k → k ≠ g ∧ ¬ blk v k) → w'.ownsRow 0 5 1 u n xs ∧ ∀ k, blk u k → k ≠ g ∧ ¬ blk v' k := by
  obtain ⟨v', d, k, f⟩ := h
  refine ⟨v', d, k0.trans k (fun i hi hs => ?_), fun i hi => ?_, k.size, fun u n xs ho hd => ⟨own_kept k ho (fun q hq hs => ?_), fun q hq => ⟨(hd q hq).1, fun h => ?_⟩⟩⟩
  · rcases hs with hs | hs
    · exact hs ▸ hg
    · exact hv i hs
  · rcases f i hi with h | h
    · exact hv i h
    · exact hT i h
  · rcases hs with hs | hs
    · exact (hd q hq).1 hs
    · exact (hd q hq).2 hs
  · rcases f q h with h | h
    · exact (hd q hq).2 h
    · have := own_lt ho q hq; omega
theorem cut3 {w : World} {a : Option Addr} {n c : Nat} {l : List UInt8} {q : Nat} (h : RdB w (.slice a n c) l) (_ : l.length = n) (hq : q ≤ n) : RdB w (.slice a q c) (l.take q) := h.take q hq
theorem blk_len {a : Option Addr} {n m c k : Nat} (h : blk (.slice a n c) k) : blk (.slice a m c) k := by
  cases a with
  | none => exact (blk_none h).elim
  | some a => rw [blk_some h]; rfl
theorem zeros_snoc (W : List UInt8) (z : Nat) : W.map bv ++ List.replicate z (Value.int .u8 0) ++ [.int .u8 0] = W.map bv ++ List.replicate (z + 1) (Value.int .u8 0) := by
  rw [List.replicate_succ', List.append_assoc]
theorem want_laid {b : List UInt8} {a : Nat} {l : List UInt8} {z : Nat} (h : a ≤ b.length) (hz : z = 0 ∧ a + l.length ≤ b.length ∨ b.length + z = a + l.length) :
    (b.map bv ++ List.replicate z (Value.int .u8 0)).take a ++ (l.map bv ++ (b.map bv ++ List.replicate z (Value.int .u8 0)).drop (a + l.length)) = (lay b a l).map bv := by
  rcases hz with ⟨rfl, _⟩ | hz
  · simp [lay]
  · exact lay_map_out h hz
theorem want_grown {T : Nat → Prop} {w wi w1 : World} {o : Obj} {g : Nat} {vd : Value} {D : Dsk} {a ad : Option Addr} {n c cap : Nat} {xs : List Value} (hk : Kept T w wi) (hd : DiskAt wi g vd D) (hap : ∀ i, blk (.slice a n c) i → i ≠ g ∧ ¬ blk vd i) (hT : ∀ i, blk (.slice a n c) i → T i)
    (ho : wi.ownsRow 0 5 1 (.slice a n c) n xs) (hT3 : ∀ i, wi.heap.size ≤ i → T i) (hg : (wi.alloc o).grownBy w1 (Value.slice a n c).ownBlock) (hfr : Fresh (wi.alloc o) (.slice a n c) (.slice ad (n + 1) cap)) :
    Kept T w w1 ∧ DiskAt w1 g vd D ∧ (∀ i, blk (.slice ad (n + 1) cap) i → i ≠ g ∧ ¬ blk vd i) ∧ ∀ i, blk (.slice ad (n + 1) cap) i → T i := by
  have _ := ho
  have hgl := heap_lt hd.box
  have hvl := own_lt hd.own
  have hkk : Kept (blk (.slice a n c)) wi w1 := ((Kept.refl _ wi).alloc o).grown hg (fun k hk _ => hk)
  refine ⟨hk.trans hkk (fun i _ hi => hT i hi), hd.kept hkk (fun h => (hap g h).1 rfl) (fun i hi h => (hap i h).2 hi), fun i hi => ?_, fun i hi => ?_⟩
  · rcases hfr i hi with h | h
    · exact hap i h
    · simp at h; exact ⟨by omega, fun h' => by have := hvl i h'; omega⟩
  · rcases hfr i hi with h | h
    · exact hT i h
    · simp at h; exact hT3 i (by omega)
theorem below_T {T : Nat → Prop} {w w3 w' : World} (hk : Kept T w3 w') (h3 : w.heap.size ≤ w3.heap.size) (hT : ∀ q, T q → w.heap.size ≤ q) : Below w.heap.size w3 w' :=
  ⟨hk.os, hk.tape, hk.output, hk.size, fun k hk' => hk.block k (by omega) (fun h => by have := hT k h; omega)⟩
theorem want_copied {T : Nat → Prop} {w wi w1 : World} {g : Nat} {vd v : Value} {D : Dsk} (hk : Kept T w wi) (hd : DiskAt wi g vd D) (hap : ∀ i, blk v i → i ≠ g ∧ ¬ blk vd i) (hT : ∀ i, blk v i → T i)
    (hg : wi.grownBy w1 v.ownBlock) : Kept T w w1 ∧ DiskAt w1 g vd D := by
  have hkk : Kept (blk v) wi w1 := (Kept.refl _ wi).grown hg (fun k hk _ => hk)
  exact ⟨hk.trans hkk (fun i _ hi => hT i hi), hd.kept hkk (fun h => (hap g h).1 rfl) (fun i hi h => (hap i h).2 hi)⟩
end Go.Proofs.Ytoiinmiedmjghaa
