/- Bytes: their element; a copy of them. -/
import Derived.Test.YtoiinmiedmjghaaChecked
import Derived.Test.YtoiinmiedmjghaaLib
import Derived.Laws.BitsAllLaws
import Derived.Test.YtoiinmiedmjghaaSlice
namespace Go.Proofs.Ytoiinmiedmjghaa
open Go Go.RowKit Go.Lw
set_option maxRecDepth 100000
theorem EB : ElemT Try.prog 22 5 1 1 := ElemT.of (z := .int .u8 0) Try.underlying22 (by kernel_rfl) rfl (by decide)
set_option maxHeartbeats 400000 in
/-- A copy of bytes: new memory, that may be written. -/
theorem clone_any (w : World) (src : Value) (l : List UInt8) (hs : RdB w src l) (hlen : l.length ≤ 70368744177664) :
    Calls Try.prog 58 #[src] w fun e w' => ∃ v, e = .returned v ∧ w'.ownsRow 0 5 1 v l.length (l.map bv) ∧ Kept (fun _ => False) w w' ∧ (∀ k, blk v k → w.heap.size ≤ k) := by
  obtain ⟨ad, cap, rfl, h1, h2, hc⟩ := hs.open
  cases ad with
  | none =>
    obtain rfl : l = [] := by
      cases l with
      | nil => rfl
      | cons c l => obtain ⟨g, off, e, _⟩ := hc 0 (by simp); cases e
    have heq := fun w => Lib.run_eql_slice_nil (P := Try.prog) w 22 5 none 0 cap 0 0 Try.underlying22
    go_enter Try.func58, Try.ntmps58
    go_wp2_with fail
    go_ret
    exact ⟨_, rfl, World.ownsRow_nil w 0 _ 1, Kept.refl _ _, fun k hk => by cases hk⟩
  | some ad =>
    have HS := Lw.hid hs
    clear hc hs
    have heq := fun w => Lib.run_eql_slice_nil (P := Try.prog) w 22 5 (some ad) l.length cap 0 0 Try.underlying22
    have ho : (w.alloc (.cells #[] 5)).ownsRow 0 5 1 (.slice (some ⟨w.heap.size, 0, none⟩) 0 0) 0 [] := World.ownsRow_lit w #[] 0 (Nat.zero_le _) (by unfold maxLen; omega) rfl
    go_enter Try.func58, Try.ntmps58
    go_wp2_with (at_builtin; refine wpList_app rfl _ _ _ rfl EB _ 0 _ rfl ho _ l.length _ rfl (Rd.alloc HS.out _) (bytes_oneCell l) (by unfold maxLen; omega) (by omega) ?_; intro ad' cap' w1 ho' hg hf)
    go_ret
    rw [Nat.zero_add] at ho' hf
    refine ⟨.slice ad' l.length cap', rfl, ho', ((Kept.refl _ w).alloc _).grown hg (fun k hk hl => ?_), fun k hk => ?_⟩
    · have e : k = w.heap.size := blk_some hk
      omega
    · rcases hf k hk with h | h
      · have e : k = w.heap.size := blk_some h
        omega
      · simp at h; omega
end Go.Proofs.Ytoiinmiedmjghaa
