/- package disk: what each function does. -/
import Derived.Test.YtfmebmaklakckaaDoorBytes
import Derived.Test.YtfmebmaklakckaaDoorAppZ
import Derived.Test.YtfmebmaklakckaaDoorCopy
import Derived.Test.YtfmebmaklakckaaDoorSoftTail
namespace Go.Proofs.YtfmebmaklakckaaDoor
open Go Go.RowKit Go.Lw
set_option maxRecDepth 100000
/-- A disk. -/
structure Dsk where
  cap : Nat
  b : List UInt8
  puts : Nat
  stopped : Bool
  is : Bool
  np : Int
  nb : Int
/-- Bytes laid at a place that is not behind the end. -/
def lay (b : List UInt8) (a : Nat) (l : List UInt8) : List UInt8 := b.take a ++ (l ++ b.drop (a + l.length))
theorem lay_len {b : List UInt8} {a : Nat} {l : List UInt8} (h : a ≤ b.length) : (lay b a l).length = max b.length (a + l.length) := by simp [lay]; omega
def Dsk.put (D : Dsk) (a : Int) (l : List UInt8) : Dsk × Nat :=
  if D.stopped then (D, 10)
  else if a < 0 ∨ (D.b.length : Int) < a then (D, 1)
  else if (D.cap : Int) - a < l.length then (D, 7)
  else if D.is = true ∧ D.np = 0 then ({ D with b := lay D.b a.toNat (l.take (min D.nb.toNat l.length)), stopped := true, is := false, np := 0, nb := 0 }, 10)
  else ({ D with b := lay D.b a.toNat l, puts := D.puts + 1, np := D.np - 1 }, 0)
def Dsk.plan (D : Dsk) (p n : Int) : Dsk × Nat :=
  if D.stopped then (D, 10) else if p < 0 ∨ n < 0 then (D, 1) else ({ D with is := true, np := p, nb := n }, 0)
def Dsk.revive (D : Dsk) : Dsk × Nat := if D.stopped then ({ D with stopped := false }, 0) else (D, 10)
def Dsk.rd (D : Dsk) (a n : Int) : List UInt8 := if a < 0 ∨ n < 0 ∨ (D.b.length : Int) < a then [] else (D.b.drop a.toNat).take n.toNat
structure Dsk.ok (D : Dsk) : Prop where
  len : D.b.length ≤ D.cap
  cap : D.cap ≤ 1048576
  puts : D.puts < 4611686018427387904
  lo : -4611686018427387904 < D.np
  hi : D.np ≤ 9223372036854775807
  plan : D.is = true → 0 ≤ D.np ∧ 0 ≤ D.nb
  nb : -1 < D.nb ∧ D.nb ≤ 9223372036854775807
abbrev dbox (D : Dsk) (v : Value) : Obj := .cells #[.bool true, .int .i64 (D.cap : Int), v, .int .i64 (D.puts : Int), .bool D.stopped, .bool D.is, .int .i64 D.np, .int .i64 D.nb] 79 (0, 0)
structure DiskAt (w : World) (g : Nat) (v : Value) (D : Dsk) : Prop where
  box : w.heap[g]? = some (dbox D v)
  own : w.ownsRow 0 5 1 v D.b.length (D.b.map bv)
  apart : ¬ blk v g
theorem DiskAt.kept {S : Nat → Prop} {w w' : World} {g : Nat} {v : Value} {D : Dsk} (h : DiskAt w g v D) (k : Kept S w w') (hg : ¬ S g) (hv : ∀ b, blk v b → ¬ S b) : DiskAt w' g v D :=
  ⟨k.heap h.box hg, own_kept k h.own hv, h.apart⟩
/-- What a call that turns a disk leaves. -/
def DPost (w w' : World) (g : Nat) (v : Value) (D : Dsk) : Prop := ∃ v', DiskAt w' g v' D ∧ Kept (fun k => k = g ∨ blk v k) w w' ∧ ∀ k, blk v' k → blk v k ∨ w.heap.size ≤ k
theorem DPost.same {w : World} {g : Nat} {v : Value} {D : Dsk} (h : DiskAt w g v D) : DPost w w g v D := ⟨v, h, Kept.refl _ _, fun _ h => .inl h⟩
set_option maxHeartbeats 1000000 in
theorem dnone_any (w : World) (g : Nat) (v : Value) (D : Dsk) (h : DiskAt w g v D) :
    Calls Tryd.prog 38 #[.pointer (some ⟨g, 0, none⟩)] w fun e w' => e = .returned (.bool false) ∧ w = w' := by
  have c0 := heap_cell h.box 0
  clear h
  go_enter Tryd.func38, Tryd.ntmps38
  go_wp2_with fail
  go_ret
  exact ⟨rfl, rfl⟩
set_option maxHeartbeats 1000000 in
theorem dnew_any (w : World) (n : Nat) (hn : n ≤ 1048576) :
    Calls Tryd.prog 12 #[.int .i64 (n : Int)] w fun e w' => ∃ g, e = .returned (.tuple #[.pointer (some ⟨g, 0, none⟩), .int .i64 0]) ∧ DiskAt w' g (.slice none 0 0) ⟨n, [], 0, false, false, 0, 0⟩ ∧ Kept (fun _ => False) w w' ∧ w.heap.size ≤ g := by
  have h1 : ¬ (n : Int) < 0 := by omega
  have h2 : ¬ (1048576 : Int) < (n : Int) := by omega
  go_enter Tryd.func12, Tryd.ntmps12
  go_wp2_with fail
  refine bodyPost_ret (v := .tuple #[.pointer (some ⟨w.heap.size, 0, none⟩), .int .i64 0]) (by simp [results, go_sem]) rfl ?_
  exact ⟨w.heap.size, rfl, ⟨heap_alloc _ _, World.ownsRow_nil _ 0 _ 1, fun h => by cases h⟩, (Kept.refl _ _).alloc _, Nat.le_refl _⟩
theorem dnew_no (w : World) (n : Int) (hn : n < 0 ∨ 1048576 < n) (hb : -9223372036854775808 ≤ n ∧ n ≤ 9223372036854775807) :
    Calls Tryd.prog 12 #[.int .i64 n] w fun e w' => e = .returned (.tuple #[.pointer none, .int .i64 1]) ∧ w = w' := by
  by_cases h1 : n < 0
  · go_enter Tryd.func12, Tryd.ntmps12
    go_wp2_with fail
    exact bodyPost_ret (v := .tuple #[.pointer none, .int .i64 1]) (by simp [results, go_sem]) rfl ⟨rfl, rfl⟩
  · have h2 : (1048576 : Int) < n := by omega
    go_enter Tryd.func12, Tryd.ntmps12
    go_wp2_with fail
    exact bodyPost_ret (v := .tuple #[.pointer none, .int .i64 1]) (by simp [results, go_sem]) rfl ⟨rfl, rfl⟩
set_option maxHeartbeats 1000000 in
theorem dend_any (w : World) (g : Nat) (v : Value) (D : Dsk) (h : DiskAt w g v D) :
    Calls Tryd.prog 37 #[.pointer (some ⟨g, 0, none⟩)] w fun e w' => e = .returned (.int .i64 (D.b.length : Int)) ∧ w = w' := by
  obtain ⟨ad, cap, rfl, _, _, _⟩ := own_slice h.own
  have c2 := heap_cell h.box 2
  have H := Lw.hid h
  clear h
  go_enter Tryd.func37, Tryd.ntmps37
  go_wp2_with fail
  refine (dnone_any w g _ D H.out).mono ?_
  rintro e _ ⟨rfl, rfl⟩
  go_wp2_with fail
  go_ret
  exact ⟨rfl, rfl⟩
set_option maxHeartbeats 1000000 in
theorem dstopped_any (w : World) (g : Nat) (v : Value) (D : Dsk) (h : DiskAt w g v D) :
    Calls Tryd.prog 26 #[.pointer (some ⟨g, 0, none⟩)] w fun e w' => e = .returned (.bool D.stopped) ∧ w = w' := by
  have c2 := heap_cell h.box 4
  have H := Lw.hid h
  clear h
  go_enter Tryd.func26, Tryd.ntmps26
  go_wp2_with fail
  refine (dnone_any w g _ D H.out).mono ?_
  rintro e _ ⟨rfl, rfl⟩
  go_wp2_with fail
  go_ret
  exact ⟨rfl, rfl⟩
theorem DiskAt.set {w : World} {g : Nat} {v : Value} {D D' : Dsk} (h : DiskAt w g v D) (hb : D'.b = D.b) (W : World) (hk : Kept (fun k => k = g) w W) (hbox : W.heap[g]? = some (dbox D' v)) : DPost w W g v D' :=
  ⟨v, ⟨hbox, by rw [hb]; exact own_kept hk h.own (fun k hk e => h.apart (e ▸ hk)), h.apart⟩, hk.mono (fun _ _ h => .inl h), fun _ h => .inl h⟩
set_option maxHeartbeats 1000000 in
theorem drevive_any (w : World) (g : Nat) (v : Value) (D : Dsk) (h : DiskAt w g v D) :
    Calls Tryd.prog 16 #[.pointer (some ⟨g, 0, none⟩)] w fun e w' => e = .returned (.int .i64 (D.revive.2 : Int)) ∧ DPost w w' g v D.revive.1 := by
  have c2 := heap_cell h.box 4
  have f2 := heap_free h.box 4
  have H := Lw.hid h
  obtain ⟨st, hst⟩ : ∃ st, D.stopped = st := ⟨_, rfl⟩
  have HST := Lw.hid hst
  rw [hst] at c2
  clear h hst
  have hs : Hid ((w.setCell ⟨g, 4, none⟩ (.bool false)).heap[g]? = some (dbox { D with stopped := false } v)) := Lw.hid (heap_set H.out.box 4 (.bool false))
  have hq := H.out.set (D' := { D with stopped := false }) rfl _ ((Kept.refl (fun k => k = g) w).set g 4 (fun _ => rfl) (.bool false)) hs.out
  have HQ := Lw.hid hq
  clear hs hq
  cases st
  · go_enter Tryd.func16, Tryd.ntmps16
    go_wp2_with fail
    refine (dnone_any w g _ D H.out).mono ?_
    rintro e _ ⟨rfl, rfl⟩
    go_wp2_with fail
    go_ret
    unfold Dsk.revive
    rw [HST.out]
    exact ⟨rfl, DPost.same H.out⟩
  · go_enter Tryd.func16, Tryd.ntmps16
    go_wp2_with fail
    refine (dnone_any w g _ D H.out).mono ?_
    rintro e _ ⟨rfl, rfl⟩
    go_wp2_with fail
    go_ret
    unfold Dsk.revive
    rw [HST.out]
    exact ⟨rfl, HQ.out⟩
end Go.Proofs.YtfmebmaklakckaaDoor
