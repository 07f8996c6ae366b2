/- arith: the law's Eval; the examples. -/
import Derived.Test.YtoedopgjonhemaaGreatDoorArith11
namespace Go.Proofs.YtoedopgjonhemaaGreatDoor
open Go Go.RowKit Go.Lw
set_option maxRecDepth 100000
set_option linter.unusedVariables false
set_option linter.unusedSimpArgs false
attribute [local go_sem] BA_toList
/-- The names that were asked, as a slice in new memory. -/
def AskR (w : World) (lo : Nat) (sl : Value) (l : List (List UInt8)) : Prop := ∃ ad cap, sl = .slice ad l.length cap ∧ w.ownsRow 0 9 1 sl l.length (l.map sV) ∧ ∀ k, blk sl k → lo ≤ k
def LawPost (w : World) (A : Va) (x : Ending) (w' : World) : Prop := (∃ sl, x = .returned (.tuple #[.int .i64 A.v, .int .i64 (A.e : Int), sl]) ∧ AskR w' w.heap.size sl A.l) ∧ Kept (fun _ => False) w w'
set_option maxHeartbeats 4000000 in
theorem lawE_any (B : Nat) (w : World) (s : List UInt8) (mo : Option Nat) (dv : Value) (env : List UInt8 → List UInt8) (hD : DEnv B dv w) (hs9 : s.length ≤ 1000000) (henv : ∀ s, (env s).length ≤ 1000000) (hL : LkAt 23 (.map mo) (fun _ => True) (fun s => textV (env s)) w) :
    Calls Tryz.prog 5 #[.string (BA s), .map mo] w (LawPost w (evalF env s)) := by
  obtain ⟨z, hz⟩ : ∃ z, w.heap.size = z := ⟨_, rfl⟩
  obtain ⟨w2, hw2⟩ : ∃ w2, (w.alloc (.cells #[.map mo] 23)).alloc (.cells #[.slice none 0 0] 30) = w2 := ⟨_, rfl⟩
  have k2 : Kept (fun _ => False) w w2 := by rw [← hw2]; exact ((Kept.refl _ w).alloc _).alloc _
  have hV : w2.heap[z]? = some (.cells #[.map mo] 23 (0, 0)) := by
    rw [← hw2, ← hz]; exact ((Kept.refl (fun _ => False) _).alloc _).heap (heap_alloc w _) (fun h => h)
  have hA : w2.heap[z + 1]? = some (.cells #[.slice none 0 0] 30 (0, 0)) := by
    have := heap_alloc (w.alloc (.cells #[.map mo] 23)) (.cells #[.slice none 0 0] 30)
    rw [← hw2, ← hz]; simpa using this
  have hB : B ≤ z := by rw [← hz]; exact hD.ae.lt
  have HC := Lw.hid (evalA_any B w2 s (z + 1) z (.map mo) dv env (hD.kept k2 (fun _ h => h.elim)) hs9 henv hA hV (hL.kept k2 (fun _ _ h => h)) (fun b hb => by have := hL.lt b hb; omega) (by omega) (by omega))
  have HW := Lw.hid hw2; have HZ := Lw.hid hz; have K2 := Lw.hid k2
  have hz2 : z ≤ w2.heap.size := by rw [← hz]; exact k2.size
  obtain ⟨A, hA'⟩ : ∃ A, evalF env s = A := ⟨_, rfl⟩
  rw [hA'] at HC ⊢
  obtain ⟨av, ae, al⟩ := A
  clear hD hL hw2 hz k2 hV hA hA'
  go_enter Tryz.func5, Tryz.ntmps5
  go_wp2_with fail
  rw [HW.out, HZ.out]
  go_wp2_with fail
  refine HC.out.mono ?_
  unfold twoA
  simp only
  rintro x w3 ⟨rfl, ha3, k3⟩
  obtain ⟨ad, cap, e1, e2, e3⟩ := ha3.cell
  have K3 : Hid (Kept (fun _ => False) w w3) := Lw.hid ((K2.out.trans k3 (fun i hi h => by have := HZ.out; omega)))
  have E2 := Lw.hid e2; have E3 := Lw.hid e3
  have q1 := heap_cell e1 0
  clear ha3 k3 e1 e2 e3 HC
  go_wp2_with fail
  go_quiet (fail)
  go_wp2_with fail
  refine bodyPost_ret (v := .tuple #[.int .i64 av, .int .i64 (ae : Int), .slice ad al.length cap]) (by first | rfl | simp [results, go_sem]) rfl ?_
  first
    | exact ⟨⟨_, rfl, ad, cap, rfl, E2.out, fun k hk => Nat.le_trans (by rw [HZ.out]; exact hz2) (E3.out k hk)⟩, K3.out⟩
    | exact ⟨⟨_, rfl, ad, cap, rfl, own_kept (kept_drewN' _ _) E2.out (fun _ _ h => h), fun k hk => Nat.le_trans (by rw [HZ.out]; exact hz2) (E3.out k hk)⟩, K3.out.trans (kept_drewN' _ _) (fun _ _ h => h)⟩
set_option maxHeartbeats 8000000 in
theorem wakes_any (B : Nat) (w : World) (dv : Value) (hD : DEnv B dv w) : Calls Tryz.prog 9 #[] w fun x w' => x = .returned (.bool true) ∧ Kept (fun _ => False) w w' := by
  obtain ⟨e1, e2, e3, e4, e5, e6, e7⟩ := ex_wakes
  have H1 := Lw.hid (fun (wx : World) (k : Kept (fun _ => False) w wx) => (lawE_any B wx [49, 43, 50, 42, 51] none dv envN (hD.kept k (fun _ h => h.elim)) (by decide) (fun _ => Nat.zero_le _) (look_nil wx)))
  rw [show evalF envN [49, 43, 50, 42, 51] = ⟨7, 0, []⟩ from e1] at H1
  have H2 := Lw.hid (fun (wx : World) (k : Kept (fun _ => False) w wx) => (lawE_any B wx [40, 49, 43, 50, 41, 42, 51] none dv envN (hD.kept k (fun _ h => h.elim)) (by decide) (fun _ => Nat.zero_le _) (look_nil wx)))
  rw [show evalF envN [40, 49, 43, 50, 41, 42, 51] = ⟨9, 0, []⟩ from e2] at H2
  have H3 := Lw.hid (fun (wx : World) (k : Kept (fun _ => False) w wx) => (lawE_any B wx [55, 45, 50, 45, 49] none dv envN (hD.kept k (fun _ h => h.elim)) (by decide) (fun _ => Nat.zero_le _) (look_nil wx)))
  rw [show evalF envN [55, 45, 50, 45, 49] = ⟨4, 0, []⟩ from e3] at H3
  obtain ⟨⟨v4, x4, l4⟩, hV4⟩ : ∃ A, evalF envN [120, 63, 45, 120, 58, 48, 124, 124, 49, 47, 48] = A := ⟨_, rfl⟩
  have hx4 : x4 = 25 := by have := e4; rw [show (fun _ => [] : List UInt8 → List UInt8) = envN from rfl, hV4] at this; exact this
  subst hx4
  have H4 := Lw.hid (fun (wx : World) (k : Kept (fun _ => False) w wx) => (lawE_any B wx [120, 63, 45, 120, 58, 48, 124, 124, 49, 47, 48] none dv envN (hD.kept k (fun _ h => h.elim)) (by decide) (fun _ => Nat.zero_le _) (look_nil wx)))
  rw [hV4] at H4
  have H5 := Lw.hid (fun (wx : World) (k : Kept (fun _ => False) w wx) => (lawE_any B wx [45, 55, 47, 50] none dv envN (hD.kept k (fun _ h => h.elim)) (by decide) (fun _ => Nat.zero_le _) (look_nil wx)))
  rw [show evalF envN [45, 55, 47, 50] = ⟨-3, 0, []⟩ from e5] at H5
  have H6 := Lw.hid (fun (wx : World) (k : Kept (fun _ => False) w wx) => (lawE_any B wx [45, 55, 37, 50] none dv envN (hD.kept k (fun _ h => h.elim)) (by decide) (fun _ => Nat.zero_le _) (look_nil wx)))
  rw [show evalF envN [45, 55, 37, 50] = ⟨-1, 0, []⟩ from e6] at H6
  have H7 := Lw.hid (fun (wx : World) (k : Kept (fun _ => False) w wx) => (lawE_any B wx [49, 60, 60, 54, 51] none dv envN (hD.kept k (fun _ h => h.elim)) (by decide) (fun _ => Nat.zero_le _) (look_nil wx)))
  rw [show evalF envN [49, 60, 60, 54, 51] = ⟨-9223372036854775808, 0, []⟩ from e7] at H7
  clear e1 e2 e3 e4 e5 e6 e7 hD hV4
  go_enter Tryz.func9, Tryz.ntmps9
  go_wp2_with fail
  refine (H1.out w (Kept.refl _ w)).mono ?_
  rintro x w1 ⟨⟨sl1, rfl, -⟩, k1⟩
  have K1 := Lw.hid ((Kept.refl _ w).trans k1 (fun _ _ h => h))
  clear k1
  simp only
  go_wp2_with fail
  refine (H2.out w1 K1.out).mono ?_
  rintro x w2 ⟨⟨sl2, rfl, -⟩, k2⟩
  have K2 := Lw.hid (K1.out.trans k2 (fun _ _ h => h))
  clear k2
  simp only
  go_wp2_with fail
  refine (H3.out w2 K2.out).mono ?_
  rintro x w3 ⟨⟨sl3, rfl, -⟩, k3⟩
  have K3 := Lw.hid (K2.out.trans k3 (fun _ _ h => h))
  clear k3
  simp only
  go_wp2_with fail
  refine (H4.out w3 K3.out).mono ?_
  rintro x w4 ⟨⟨sl4, rfl, -⟩, k4⟩
  have K4 := Lw.hid (K3.out.trans k4 (fun _ _ h => h))
  clear k4
  simp only
  go_wp2_with fail
  refine (H5.out w4 K4.out).mono ?_
  rintro x w5 ⟨⟨sl5, rfl, -⟩, k5⟩
  have K5 := Lw.hid (K4.out.trans k5 (fun _ _ h => h))
  clear k5
  simp only
  go_wp2_with fail
  refine (H6.out w5 K5.out).mono ?_
  rintro x w6 ⟨⟨sl6, rfl, -⟩, k6⟩
  have K6 := Lw.hid (K5.out.trans k6 (fun _ _ h => h))
  clear k6
  simp only
  go_wp2_with fail
  refine (H7.out w6 K6.out).mono ?_
  rintro x w7 ⟨⟨sl7, rfl, -⟩, k7⟩
  have K7 := Lw.hid (K6.out.trans k7 (fun _ _ h => h))
  clear k7
  simp only
  go_wp2_with fail
  go_ret
  exact ⟨rfl, K7.out⟩
end Go.Proofs.YtoedopgjonhemaaGreatDoor
