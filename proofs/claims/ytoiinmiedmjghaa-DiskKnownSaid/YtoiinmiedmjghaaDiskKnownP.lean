/- DiskKnown: where there is no disk; two disks in one world. -/
import Derived.Test.YtoiinmiedmjghaaRefDisk3
import Derived.Test.YtoiinmiedmjghaaDiskLastP
namespace Go.Proofs.Ytoiinmiedmjghaa
open Go Go.RowKit Go.Lw
set_option maxRecDepth 100000
/-- A pointer to no disk: nil, or one that New did not make. -/
def NoDisk (w : World) (p : Option Addr) : Prop := p = none ∨ ∃ g, p = some ⟨g, 0, none⟩ ∧ w.cell? ⟨g, 0, none⟩ = some (.bool false)
theorem dnone_no (w : World) (p : Option Addr) (h : NoDisk w p) : Calls Try.prog 56 #[.pointer p] w fun e w' => e = .returned (.bool true) ∧ w = w' := by
  rcases h with rfl | ⟨g, rfl, c0⟩
  · go_enter Try.func56, Try.ntmps56
    go_wp2_with fail
    go_ret
    exact ⟨rfl, rfl⟩
  · go_enter Try.func56, Try.ntmps56
    go_wp2_with fail
    go_ret
    exact ⟨rfl, rfl⟩
theorem dput_no (w : World) (p : Option Addr) (h : NoDisk w p) (a : Int) (s : Value) : Calls Try.prog 13 #[.pointer p, .int .i64 a, s] w fun e w' => e = .returned (.int .i64 2) ∧ w = w' := by
  have H := Lw.hid h
  clear h
  go_enter Try.func13, Try.ntmps13
  go_wp2_with fail
  refine (dnone_no w p H.out).mono ?_
  rintro e _ ⟨rfl, rfl⟩
  go_wp2_with fail
  go_ret
  exact ⟨rfl, rfl⟩
theorem dplan_no (w : World) (p : Option Addr) (h : NoDisk w p) (a b : Int) : Calls Try.prog 14 #[.pointer p, .int .i64 a, .int .i64 b] w fun e w' => e = .returned (.int .i64 2) ∧ w = w' := by
  have H := Lw.hid h
  clear h
  go_enter Try.func14, Try.ntmps14
  go_wp2_with fail
  refine (dnone_no w p H.out).mono ?_
  rintro e _ ⟨rfl, rfl⟩
  go_wp2_with fail
  go_ret
  exact ⟨rfl, rfl⟩
theorem drevive_no (w : World) (p : Option Addr) (h : NoDisk w p)  : Calls Try.prog 24 #[.pointer p] w fun e w' => e = .returned (.int .i64 2) ∧ w = w' := by
  have H := Lw.hid h
  clear h
  go_enter Try.func24, Try.ntmps24
  go_wp2_with fail
  refine (dnone_no w p H.out).mono ?_
  rintro e _ ⟨rfl, rfl⟩
  go_wp2_with fail
  go_ret
  exact ⟨rfl, rfl⟩
theorem dstopped_no (w : World) (p : Option Addr) (h : NoDisk w p)  : Calls Try.prog 17 #[.pointer p] w fun e w' => e = .returned (.bool false) ∧ w = w' := by
  have H := Lw.hid h
  clear h
  go_enter Try.func17, Try.ntmps17
  go_wp2_with fail
  refine (dnone_no w p H.out).mono ?_
  rintro e _ ⟨rfl, rfl⟩
  go_wp2_with fail
  go_ret
  exact ⟨rfl, rfl⟩
theorem dend_no (w : World) (p : Option Addr) (h : NoDisk w p)  : Calls Try.prog 15 #[.pointer p] w fun e w' => e = .returned (.int .i64 0) ∧ w = w' := by
  have H := Lw.hid h
  clear h
  go_enter Try.func15, Try.ntmps15
  go_wp2_with fail
  refine (dnone_no w p H.out).mono ?_
  rintro e _ ⟨rfl, rfl⟩
  go_wp2_with fail
  go_ret
  exact ⟨rfl, rfl⟩
theorem dputs_no (w : World) (p : Option Addr) (h : NoDisk w p)  : Calls Try.prog 16 #[.pointer p] w fun e w' => e = .returned (.int .i64 0) ∧ w = w' := by
  have H := Lw.hid h
  clear h
  go_enter Try.func16, Try.ntmps16
  go_wp2_with fail
  refine (dnone_no w p H.out).mono ?_
  rintro e _ ⟨rfl, rfl⟩
  go_wp2_with fail
  go_ret
  exact ⟨rfl, rfl⟩
theorem dread_no (w : World) (p : Option Addr) (h : NoDisk w p) (a b : Int) : Calls Try.prog 18 #[.pointer p, .int .i64 a, .int .i64 b] w fun e w' => e = .returned (.slice none 0 0) ∧ w = w' := by
  have H := Lw.hid h
  clear h
  go_enter Try.func18, Try.ntmps18
  go_wp2_with fail
  refine (dnone_no w p H.out).mono ?_
  rintro e _ ⟨rfl, rfl⟩
  go_wp2_with fail
  go_ret
  exact ⟨rfl, rfl⟩
theorem dcopy_no (w : World) (p : Option Addr) (h : NoDisk w p)  : Calls Try.prog 27 #[.pointer p] w fun e w' => e = .returned (.pointer none) ∧ w = w' := by
  have H := Lw.hid h
  clear h
  go_enter Try.func27, Try.ntmps27
  go_wp2_with fail
  refine (dnone_no w p H.out).mono ?_
  rintro e _ ⟨rfl, rfl⟩
  go_wp2_with fail
  go_ret
  exact ⟨rfl, rfl⟩
/-- Two disks in one world, apart; what has turned since w3 is of T. -/
structure Duo (T : Nat → Prop) (w3 w : World) (g gr : Nat) (v vr : Value) (D R : Dsk) : Prop where
  d : DiskAt w g v D
  r : DiskAt w gr vr R
  k : Kept T w3 w
  tg : T g
  tr : T gr
  tv : ∀ q, blk v q → T q
  tvr : ∀ q, blk vr q → T q
  ne : g ≠ gr
  a1 : ¬ blk v gr
  a2 : ¬ blk vr g
  a3 : ∀ q, blk v q → ¬ blk vr q
theorem Duo.swap {T : Nat → Prop} {w3 w : World} {g gr : Nat} {v vr : Value} {D R : Dsk} (h : Duo T w3 w g gr v vr D R) : Duo T w3 w gr g vr v R D :=
  ⟨h.r, h.d, h.k, h.tr, h.tg, h.tvr, h.tv, h.ne.symm, h.a2, h.a1, fun q hq hr => h.a3 q hr hq⟩
theorem Duo.keptF {T : Nat → Prop} {w3 w w' : World} {g gr : Nat} {v vr : Value} {D R : Dsk} (h : Duo T w3 w g gr v vr D R) (k : Kept (fun _ => False) w w') : Duo T w3 w' g gr v vr D R :=
  ⟨h.d.kept k (fun h => h) (fun _ _ h => h), h.r.kept k (fun h => h) (fun _ _ h => h), h.k.trans k (fun _ _ e => e.elim), h.tg, h.tr, h.tv, h.tvr, h.ne, h.a1, h.a2, h.a3⟩
theorem Duo.put {T : Nat → Prop} {w3 w w' : World} {g gr : Nat} {v vr : Value} {D D' R : Dsk} (h : Duo T w3 w g gr v vr D R) (hp : DPost w w' g v D') (hT : ∀ q, w3.heap.size ≤ q → T q) :
    ∃ v', Duo T w3 w' g gr v' vr D' R := by
  obtain ⟨v', d, k, f⟩ := hp
  have hrl := heap_lt h.r.box; have hvrl := own_lt h.r.own; have hgl := heap_lt h.d.box
  have h3 := h.k.size
  refine ⟨v', ⟨d, h.r.kept k (fun e => ?_) (fun b hb e => ?_), h.k.trans k (fun i _ e => ?_), h.tg, h.tr, fun q hq => ?_, h.tvr, h.ne, fun e => ?_, h.a2, fun q hq hr => ?_⟩⟩
  · rcases e with e | e
    · exact h.ne e.symm
    · exact h.a1 e
  · rcases e with e | e
    · exact h.a2 (e ▸ hb)
    · exact h.a3 b e hb
  · rcases e with e | e
    · exact e ▸ h.tg
    · exact h.tv i e
  · rcases f q hq with e | e
    · exact h.tv q e
    · exact hT q (by omega)
  · rcases f gr e with e | e
    · exact h.a1 e
    · omega
  · rcases f q hq with e | e
    · exact h.a3 q e hr
    · have := hvrl q hr; omega
theorem Duo.rput {T : Nat → Prop} {w3 w w' : World} {g gr : Nat} {v vr : Value} {D R R' : Dsk} (h : Duo T w3 w g gr v vr D R) (hp : DPost w w' gr vr R') (hT : ∀ q, w3.heap.size ≤ q → T q) :
    ∃ vr', Duo T w3 w' g gr v vr' D R' := by
  obtain ⟨v', h'⟩ := h.swap.put hp hT
  exact ⟨v', h'.swap⟩
/-- A copy beside the first. -/
theorem Duo.copy {T : Nat → Prop} {w3 w w' : World} {g gr g' : Nat} {v vr v' : Value} {D R D' : Dsk} (h : Duo T w3 w g gr v vr D R) (d : DiskAt w' g' v' D') (k : Kept (fun _ => False) w w') (hg : w.heap.size ≤ g') (hv : ∀ q, blk v' q → w.heap.size ≤ q) (hT : ∀ q, w3.heap.size ≤ q → T q) :
    Duo T w3 w' gr g' vr v' R D' := by
  have hrl := heap_lt h.r.box; have hvrl := own_lt h.r.own
  have h3 := h.k.size
  exact ⟨h.r.kept k (fun h => h) (fun _ _ h => h), d, h.k.trans k (fun _ _ e => e.elim), h.tr, hT g' (by omega), h.tvr, fun q hq => hT q (by have := hv q hq; omega), by omega, fun e => by have := hvrl g' e; omega, fun e => by have := hv gr e; omega, fun q hq hr => by have := hv q hr; have := hvrl q hq; omega⟩
end Go.Proofs.Ytoiinmiedmjghaa
