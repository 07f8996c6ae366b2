/- sync.Once, not yet done and the lock free: the function is called once. -/
import Derived.Test.YtoedopgjonhemaaGreatDoorWorks1
import Derived.Tactics2
import Derived.Defers
import Derived.Laws.Pointers
import Derived.Laws.LoneSync
import Derived.RegionTactic
import Derived.RegionCalls
import Derived.ChangeAlike
namespace Go.Proofs.YtoedopgjonhemaaGreatDoor
open Go Go.RowKit Go.Lw
set_option maxRecDepth 100000
set_option linter.unusedVariables false
set_option linter.unusedSimpArgs false
theorem rDisable (w : World) : (callFunc 89 #[]).run Tryz.prog w = .ok (.value (.tuple #[])) w := run_call_mark0 Tryz.func89 (by kernel_rfl) (by kernel_rfl) (by kernel_rfl) .disable (by kernel_rfl) w
theorem rEnable (w : World) : (callFunc 91 #[]).run Tryz.prog w = .ok (.value (.tuple #[])) w := run_call_mark0 Tryz.func91 (by kernel_rfl) (by kernel_rfl) (by kernel_rfl) .enable (by kernel_rfl) w
theorem rAcquire (a : Addr) (w : World) : (callFunc 92 #[.pointer (some a)]).run Tryz.prog w = .ok (.value (.tuple #[])) w := run_call_marked Tryz.func92 (by kernel_rfl) (by kernel_rfl) (by kernel_rfl) .acquire (by kernel_rfl) a w
theorem rRelease (a : Addr) (w : World) : (callFunc 94 #[.pointer (some a)]).run Tryz.prog w = .ok (.value (.tuple #[])) w := run_call_marked Tryz.func94 (by kernel_rfl) (by kernel_rfl) (by kernel_rfl) .releaseMerge (by kernel_rfl) a w
/-- Store(true), as a deferred call. -/
theorem store_deferred (a : Addr) (x : Value) (u : FrameMode) (w : World) (hc : w.cell? a = some x) (hz : w.frozen? a = false) :
    CallsD Tryz.prog 52 #[.pointer (some a), .bool true] u w fun e u' w' => u' = u ∧ (e = .returned (.tuple #[]) ∧ w' = w.drew.setCell a (.int .u32 1)) := by
  have hc' : w.drew.cell? a = some x := by go_simp
  have hz' : w.drew.frozen? a = false := by go_simp
  have hst := run_call_store (P := Tryz.prog) Tryz.func71 (by kernel_rfl) (by kernel_rfl) (by kernel_rfl) (by kernel_rfl) (k := .u32) (y := 1) hc' hz'
  go_enter_d Tryz.func52, Tryz.ntmps52
  go_wp2
  go_region_calls
  all_goals (go_end0; exact ⟨rfl, rfl⟩)
/-- Unlock, as a deferred call; nobody waits. -/
theorem unlock_deferred (a : Addr) (u : FrameMode) (w : World) (hc : w.cell? a = some (.int .i32 1)) (hz : w.frozen? a = false) :
    CallsD Tryz.prog 51 #[.pointer (some a)] u w fun e u' w' => u' = u ∧ (e = .returned (.tuple #[]) ∧ w' = w.setCell a (.int .i32 0)) := by
  have hd := rDisable
  have he := rEnable
  have hr := rRelease
  have hadd := run_call_add (P := Tryz.prog) Tryz.func95 (by kernel_rfl) (by kernel_rfl) (by kernel_rfl) .i32 (by kernel_rfl) (y := -1) (s := 0) hc hz (by simp [go_sem]; rfl)
  have hcv := run_convert_to_unsafe (P := Tryz.prog) (src := 157) (dst := 161) Tryz.underlying157 Tryz.underlying161 (by kernel_rfl) hc
  go_enter_d Tryz.func51, Tryz.ntmps51
  go_wp2
  go_end0
  go_wp2
  go_end0
  exact ⟨rfl, rfl⟩
/-- Lock, the lock free. -/
theorem lock_free (a : Addr) (w : World) (hc : w.cell? a = some (.int .i32 0)) (hz : w.frozen? a = false) :
    Calls Tryz.prog 50 #[.pointer (some a)] w fun e w' => e = .returned (.tuple #[]) ∧ w' = w.setCell a (.int .i32 1) := by
  have hd := rDisable
  have he := rEnable
  have ha := rAcquire
  have hcas := run_call_cas_hit (P := Tryz.prog) Tryz.func90 (by kernel_rfl) (by kernel_rfl) (by kernel_rfl) .i32 (by kernel_rfl) (y := 1) hc hz
  have hc' : (w.setCell a (.int .i32 1)).cell? a = some (.int .i32 1) := World.cell?_setCell_same w a _ hc
  have hcv := run_convert_to_unsafe (P := Tryz.prog) (src := 157) (dst := 161) Tryz.underlying157 Tryz.underlying161 (by kernel_rfl) hc'
  go_enter Tryz.func50, Tryz.ntmps50
  go_wp2
  first | go_end0 | (simp only [Exit.inBlock, Exit.then]; refine bodyPost_ret (results_none rfl _ _ _) rfl ?_) | refine bodyPost_ret (results_none rfl _ _ _) rfl ?_
  go_wp2
  go_end0
  exact ⟨rfl, rfl⟩
/-- What the function leaves of the lock. -/
structure Locked (rb : Nat) (w : World) : Prop where
  c0 : w.cell? ⟨rb, 0, none⟩ = some (.int .u32 0)
  c1 : w.cell? ⟨rb, 1, none⟩ = some (.int .i32 1)
  f0 : w.frozen? ⟨rb, 0, none⟩ = false
  f1 : w.frozen? ⟨rb, 1, none⟩ = false
theorem slow_any (rb : Nat) (w : World) (Q : World → Prop) (h0 : w.cell? ⟨rb, 0, none⟩ = some (.int .u32 0)) (h1 : w.cell? ⟨rb, 1, none⟩ = some (.int .i32 0)) (f0 : w.frozen? ⟨rb, 0, none⟩ = false) (f1 : w.frozen? ⟨rb, 1, none⟩ = false)
    (hcall : Calls Tryz.prog 19 #[.pointer (some ⟨rb, 0, none⟩)] (w.setCell ⟨rb, 1, none⟩ (.int .i32 1)) fun e w' => e = .returned (.tuple #[]) ∧ Q w') (hQ : ∀ w', Q w' → Locked rb w') :
    Calls Tryz.prog 32 #[.pointer (some ⟨rb, 0, none⟩), .func (.func 19) #[.pointer (some ⟨rb, 0, none⟩)] #[]] w fun e w' => e = .returned (.tuple #[]) ∧ ∃ w1, Q w1 ∧ w' = (w1.drew.setCell ⟨rb, 0, none⟩ (.int .u32 1)).setCell ⟨rb, 1, none⟩ (.int .i32 0) := by
  have hl := run_call_load (P := Tryz.prog) Tryz.func49 (by kernel_rfl) (by kernel_rfl) (by kernel_rfl) .u32 (by kernel_rfl) (w := w.setCell ⟨rb, 1, none⟩ (.int .i32 1)) (a := ⟨rb, 0, none⟩) (x := 0) ((World.cell?_setCell_other _ ⟨rb, 1, none⟩ ⟨rb, 0, none⟩ _ (by simp)).trans h0)
  have hnot : ∀ (x : Bool) (w : World), (Op.unary .not (.bool x)).run Tryz.prog w = .ok (.bool (!x)) w := fun _ _ => rfl
  have HC := Lw.hid hcall
  clear hcall
  go_enter_defers Tryz.func32, Tryz.ntmps32
  go_wp2_with (first | (go_at_call 50; refine (lock_free ⟨rb, 1, none⟩ _ (by go_simp) (by go_simp)).mono ?_; rintro e w' ⟨rfl, rfl⟩))
  go_wp2_with (first | (go_at_call 31; go_in) | (go_at_call 19; refine HC.out.mono ?_; rintro e w1 ⟨rfl, hq⟩))
  have hk := hQ _ hq
  refine leaves_cons (f := 52) (args := #[.pointer (some ⟨rb, 0, none⟩), .bool true]) (by simp) (by simp [go_sem]) ?_
  refine (store_deferred ⟨rb, 0, none⟩ (.int .u32 0) .returning _ hk.c0 hk.f0).mono ?_
  rintro e u' w'' ⟨rfl, rfl, rfl⟩
  refine leaves_cons (f := 51) (args := #[.pointer (some ⟨rb, 1, none⟩)]) (by simp [settle]) (by simp [go_sem]) ?_
  refine (unlock_deferred ⟨rb, 1, none⟩ _ _ ?_ (by simp [hk.f1])).mono ?_
  · refine (World.cell?_setCell_other _ ⟨rb, 0, none⟩ ⟨rb, 1, none⟩ _ (by simp)).trans ?_
    rw [World.cell?_drew]
    exact hk.c1
  rintro e u' w'' ⟨rfl, rfl, rfl⟩
  simp [Leaves, settle, results, Tryz.results32]
  exact ⟨w1, hq, rfl⟩
/-- Do, not yet done, the lock free. -/
theorem do_first (rb : Nat) (w : World) (Q : World → Prop) (h0 : w.cell? ⟨rb, 0, none⟩ = some (.int .u32 0)) (h1 : w.cell? ⟨rb, 1, none⟩ = some (.int .i32 0)) (f0 : w.frozen? ⟨rb, 0, none⟩ = false) (f1 : w.frozen? ⟨rb, 1, none⟩ = false)
    (hcall : Calls Tryz.prog 19 #[.pointer (some ⟨rb, 0, none⟩)] (w.setCell ⟨rb, 1, none⟩ (.int .i32 1)) fun e w' => e = .returned (.tuple #[]) ∧ Q w') (hQ : ∀ w', Q w' → Locked rb w') :
    Calls Tryz.prog 18 #[.pointer (some ⟨rb, 0, none⟩), .func (.func 19) #[.pointer (some ⟨rb, 0, none⟩)] #[]] w fun e w' => e = .returned (.tuple #[]) ∧ ∃ w1, Q w1 ∧ w' = (w1.drew.setCell ⟨rb, 0, none⟩ (.int .u32 1)).setCell ⟨rb, 1, none⟩ (.int .i32 0) := by
  have hl := run_call_load (P := Tryz.prog) Tryz.func49 (by kernel_rfl) (by kernel_rfl) (by kernel_rfl) .u32 (by kernel_rfl) h0
  have hnot : ∀ (x : Bool) (w : World), (Op.unary .not (.bool x)).run Tryz.prog w = .ok (.bool (!x)) w := fun _ _ => rfl
  have HS := Lw.hid (slow_any rb w Q h0 h1 f0 f1 hcall hQ)
  clear hcall hQ
  go_enter Tryz.func18, Tryz.ntmps18
  go_wp2_with (first | (go_at_call 32; refine HS.out.mono ?_; rintro e w' ⟨rfl, hw⟩) | (go_at_call 31; go_in))
  go_end0
  exact ⟨rfl, hw⟩
end Go.Proofs.YtoedopgjonhemaaGreatDoor
