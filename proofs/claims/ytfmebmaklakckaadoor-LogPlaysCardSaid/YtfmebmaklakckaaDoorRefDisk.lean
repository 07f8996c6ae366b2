/- longwireref14.Disk: what each function does. -/
import Derived.Test.YtfmebmaklakckaaDoorDiskT
namespace Go.Proofs.YtfmebmaklakckaaDoor
open Go Go.RowKit Go.Lw
set_option maxRecDepth 100000
/-- The document's disk. -/
structure Rsk where
  cap : Nat
  b : List UInt8
  puts : Nat
  stopped : Bool
  left : Int
  bytes : Int
def Rsk.put (R : Rsk) (a : Int) (l : List UInt8) : Rsk × Nat :=
  if R.stopped then (R, 10)
  else if a < 0 ∨ (R.b.length : Int) < a then (R, 1)
  else if (R.cap : Int) < a + l.length then (R, 7)
  else if R.left = 0 then ({ R with b := lay R.b a.toNat (l.take (min R.bytes.toNat l.length)), left := -1, stopped := true }, 10)
  else ({ R with b := lay R.b a.toNat l, left := if 0 < R.left then R.left - 1 else R.left, puts := R.puts + 1 }, 0)
def Rsk.plan (R : Rsk) (p n : Int) : Rsk × Nat :=
  if R.stopped then (R, 10) else if p < 0 ∨ n < 0 then (R, 1) else ({ R with left := p, bytes := n }, 0)
def Rsk.revive (R : Rsk) : Rsk × Nat := if R.stopped then ({ R with stopped := false }, 0) else (R, 10)
def Rsk.rd (R : Rsk) (a n : Int) : List UInt8 := if a < 0 ∨ n < 0 ∨ (R.b.length : Int) < a then [] else (R.b.drop a.toNat).take n.toNat
structure Rsk.ok (R : Rsk) : Prop where
  len : R.b.length ≤ R.cap
  cap : R.cap ≤ 1048576
  puts : R.puts < 4611686018427387904
  left : -1 ≤ R.left ∧ R.left ≤ 9223372036854775807
  bytes : 0 ≤ R.bytes ∧ R.bytes ≤ 9223372036854775807
abbrev rbox (R : Rsk) (v : Value) : Obj := .cells #[.int .i64 (R.cap : Int), v, .int .i64 (R.puts : Int), .bool R.stopped, .int .i64 R.left, .int .i64 R.bytes] 82 (0, 0)
structure RefAt (w : World) (g : Nat) (v : Value) (R : Rsk) : Prop where
  box : w.heap[g]? = some (rbox R v)
  own : w.ownsRow 0 5 1 v R.b.length (R.b.map bv)
  apart : ¬ blk v g
theorem RefAt.kept {S : Nat → Prop} {w w' : World} {g : Nat} {v : Value} {R : Rsk} (h : RefAt w g v R) (k : Kept S w w') (hg : ¬ S g) (hv : ∀ b, blk v b → ¬ S b) : RefAt w' g v R :=
  ⟨k.heap h.box hg, own_kept k h.own hv, h.apart⟩
/-- What a call that turns a disk leaves. -/
def RPost (w w' : World) (g : Nat) (v : Value) (R : Rsk) : Prop := ∃ v', RefAt w' g v' R ∧ Kept (fun k => k = g ∨ blk v k) w w' ∧ ∀ k, blk v' k → blk v k ∨ w.heap.size ≤ k
theorem RPost.same {w : World} {g : Nat} {v : Value} {R : Rsk} (h : RefAt w g v R) : RPost w w g v R := ⟨v, h, Kept.refl _ _, fun _ h => .inl h⟩
theorem RefAt.set {w : World} {g : Nat} {v : Value} {R R' : Rsk} (h : RefAt w g v R) (hb : R'.b = R.b) (W : World) (hk : Kept (fun k => k = g) w W) (hbox : W.heap[g]? = some (rbox R' v)) : RPost w W g v R' :=
  ⟨v, ⟨hbox, by rw [hb]; exact own_kept hk h.own (fun k hk e => h.apart (e ▸ hk)), h.apart⟩, hk.mono (fun _ _ h => .inl h), fun _ h => .inl h⟩
theorem RPost.next {w w1 W : World} {g : Nat} {v v1 : Value} {R R1 : Rsk} (_ : RefAt w1 g v1 R1) (k1 : Kept (fun k => k = g ∨ blk v k) w w1) (f1 : ∀ k, blk v1 k → blk v k ∨ w.heap.size ≤ k) (h : RPost w1 W g v1 R) : RPost w W g v R := by
  obtain ⟨v2, d2, k2, f2⟩ := h
  refine ⟨v2, d2, k1.trans k2 (fun i hi hs => ?_), fun k hk => ?_⟩
  · rcases hs with hs | hs
    · exact .inl hs
    · rcases f1 i hs with h | h
      · exact .inr h
      · omega
  · rcases f2 k hk with h | h
    · exact f1 k h
    · exact .inr (Nat.le_trans k1.size h)
set_option maxHeartbeats 1000000 in
theorem rnew_any (w : World) (n : Nat) (hn : n ≤ 1048576) :
    Calls Tryd.prog 19 #[.int .i64 (n : Int)] w fun e w' => ∃ g, e = .returned (.tuple #[.pointer (some ⟨g, 0, none⟩), .int .i64 0]) ∧ RefAt w' g (.slice none 0 0) ⟨n, [], 0, false, -1, 0⟩ ∧ Kept (fun _ => False) w w' ∧ w.heap.size ≤ g := by
  have h1 : ¬ (n : Int) < 0 := by omega
  have h2 : ¬ (1048576 : Int) < (n : Int) := by omega
  go_enter Tryd.func19, Tryd.ntmps19
  go_wp2_with fail
  refine bodyPost_ret (v := .tuple #[.pointer (some ⟨w.heap.size, 0, none⟩), .int .i64 0]) (by simp [results, go_sem]) rfl ?_
  exact ⟨w.heap.size, rfl, ⟨heap_alloc _ _, World.ownsRow_nil _ 0 _ 1, fun h => by cases h⟩, (Kept.refl _ _).alloc _, Nat.le_refl _⟩
theorem rnew_no (w : World) (n : Int) (hn : n < 0 ∨ 1048576 < n) (hb : -9223372036854775808 ≤ n ∧ n ≤ 9223372036854775807) :
    Calls Tryd.prog 19 #[.int .i64 n] w fun e w' => e = .returned (.tuple #[.pointer none, .int .i64 1]) ∧ w = w' := by
  by_cases h1 : n < 0
  · go_enter Tryd.func19, Tryd.ntmps19
    go_wp2_with fail
    exact bodyPost_ret (v := .tuple #[.pointer none, .int .i64 1]) (by simp [results, go_sem]) rfl ⟨rfl, rfl⟩
  · have h2 : (1048576 : Int) < n := by omega
    go_enter Tryd.func19, Tryd.ntmps19
    go_wp2_with fail
    exact bodyPost_ret (v := .tuple #[.pointer none, .int .i64 1]) (by simp [results, go_sem]) rfl ⟨rfl, rfl⟩
set_option maxHeartbeats 1000000 in
theorem rrevive_any (w : World) (g : Nat) (v : Value) (R : Rsk) (h : RefAt w g v R) :
    Calls Tryd.prog 44 #[.pointer (some ⟨g, 0, none⟩)] w fun e w' => e = .returned (.int .i64 (R.revive.2 : Int)) ∧ RPost w w' g v R.revive.1 := by
  have c2 := heap_cell h.box 3
  have f2 := heap_free h.box 3
  have H := Lw.hid h
  obtain ⟨st, hst⟩ : ∃ st, R.stopped = st := ⟨_, rfl⟩
  have HST := Lw.hid hst
  rw [hst] at c2
  clear h hst
  have hs : Hid ((w.setCell ⟨g, 3, none⟩ (.bool false)).heap[g]? = some (rbox { R with stopped := false } v)) := Lw.hid (heap_set H.out.box 3 (.bool false))
  have hq := H.out.set (R' := { R with stopped := false }) rfl _ ((Kept.refl (fun k => k = g) w).set g 3 (fun _ => rfl) (.bool false)) hs.out
  have HQ := Lw.hid hq
  clear hs hq
  cases st
  · go_enter Tryd.func44, Tryd.ntmps44
    go_wp2_with fail
    go_ret
    unfold Rsk.revive
    rw [HST.out]
    exact ⟨rfl, RPost.same H.out⟩
  · go_enter Tryd.func44, Tryd.ntmps44
    go_wp2_with fail
    go_ret
    unfold Rsk.revive
    rw [HST.out]
    exact ⟨rfl, HQ.out⟩
set_option maxHeartbeats 1000000 in
theorem rplan_any (w : World) (g : Nat) (v : Value) (R : Rsk) (h : RefAt w g v R) (p n : Int) :
    Calls Tryd.prog 43 #[.pointer (some ⟨g, 0, none⟩), .int .i64 p, .int .i64 n] w fun e w' => e = .returned (.int .i64 ((R.plan p n).2 : Int)) ∧ RPost w w' g v (R.plan p n).1 := by
  have c4 := heap_cell h.box 3
  have f5 := heap_free h.box 4; have f6 := heap_free h.box 5
  have d5 := heap_cell h.box 4; have d6 := heap_cell h.box 5
  have H := Lw.hid h
  obtain ⟨st, hst⟩ : ∃ st, R.stopped = st := ⟨_, rfl⟩
  have HST := Lw.hid hst
  rw [hst] at c4
  clear h hst
  have hs := heap_set (heap_set H.out.box 4 (.int .i64 p)) 5 (.int .i64 n)
  have hq := H.out.set (R' := { R with left := p, bytes := n }) rfl _ (((Kept.refl (fun k => k = g) w).set g 4 (fun _ => rfl) (.int .i64 p)).set g 5 (fun _ => rfl) (.int .i64 n)) hs
  have HQ := Lw.hid hq
  clear hs hq
  cases st
  · by_cases hp : p < 0
    · go_enter Tryd.func43, Tryd.ntmps43
      go_wp2_with fail
      go_ret
      unfold Rsk.plan
      rw [HST.out, if_neg (by decide), if_pos (.inl hp)]
      exact ⟨rfl, RPost.same H.out⟩
    by_cases hn : n < 0
    · go_enter Tryd.func43, Tryd.ntmps43
      go_wp2_with fail
      go_ret
      unfold Rsk.plan
      rw [HST.out, if_neg (by decide), if_pos (.inr hn)]
      exact ⟨rfl, RPost.same H.out⟩
    · go_enter Tryd.func43, Tryd.ntmps43
      go_wp2_with fail
      go_ret
      rw [show R.plan p n = ({ R with left := p, bytes := n }, 0) by unfold Rsk.plan; rw [if_neg (by rw [HST.out]; decide), if_neg (by omega)]]
      exact ⟨rfl, HQ.out⟩
  · go_enter Tryd.func43, Tryd.ntmps43
    go_wp2_with fail
    go_ret
    unfold Rsk.plan
    rw [HST.out]
    exact ⟨rfl, RPost.same H.out⟩
end Go.Proofs.YtfmebmaklakckaaDoor
