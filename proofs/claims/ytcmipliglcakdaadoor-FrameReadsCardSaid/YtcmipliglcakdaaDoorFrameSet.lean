/- A whole frame, stored. -/
import Derived.Test.YtcmipliglcakdaaDoorFrameL
namespace Go.Proofs.YtcmipliglcakdaaDoor
open Go Go.RowKit Go.Lw
set_option maxRecDepth 100000
/-- A whole frame, stored. -/
def fset (w : World) (b : Nat) (f : Frm) (v : Value) : World := ((((((w.setCell ⟨b, 0, none⟩ (.int .u8 (f.kind : Int))).setCell ⟨b, 1, none⟩ (.int .u32 (f.ses : Int))).setCell ⟨b, 2, none⟩ (.int .u32 (f.ep : Int))).setCell ⟨b, 3, none⟩ (.int .u32 (f.num : Int))).setCell ⟨b, 4, none⟩ (.int .u32 (f.ack : Int))).setCell ⟨b, 5, none⟩ (.int .u32 (f.mask : Int))).setCell ⟨b, 6, none⟩ v
theorem fset_other {w : World} {b k : Nat} {f : Frm} {v : Value} (h : k ≠ b) : (fset w b f v).heap[k]? = w.heap[k]? := by
  unfold fset
  rw [Below.heap_setCell _ _ _ _ h, Below.heap_setCell _ _ _ _ h, Below.heap_setCell _ _ _ _ h, Below.heap_setCell _ _ _ _ h, Below.heap_setCell _ _ _ _ h, Below.heap_setCell _ _ _ _ h, Below.heap_setCell _ _ _ _ h]
theorem fset_same {w : World} {b : Nat} {f : Frm} {v a0 a1 a2 a3 a4 a5 a6 : Value} {T : TypeId} (h : w.heap[b]? = some (.cells #[a0, a1, a2, a3, a4, a5, a6] T (0, 0))) :
    (fset w b f v).heap[b]? = some (.cells #[.int .u8 (f.kind : Int), .int .u32 (f.ses : Int), .int .u32 (f.ep : Int), .int .u32 (f.num : Int), .int .u32 (f.ack : Int), .int .u32 (f.mask : Int), v] T (0, 0)) := by
  have h0 := heap_set h 0 (.int .u8 (f.kind : Int))
  have h1 := heap_set h0 1 (.int .u32 (f.ses : Int))
  have h2 := heap_set h1 2 (.int .u32 (f.ep : Int))
  have h3 := heap_set h2 3 (.int .u32 (f.num : Int))
  have h4 := heap_set h3 4 (.int .u32 (f.ack : Int))
  have h5 := heap_set h4 5 (.int .u32 (f.mask : Int))
  have h6 := heap_set h5 6 v
  simp only [List.setIfInBounds_toArray, List.set_cons_zero, List.set_cons_succ] at h6
  exact h6
theorem fset_kept {S : Nat → Prop} {a w : World} {b : Nat} {f : Frm} {v : Value} (h : Kept S a w) (hb : b < a.heap.size → S b) : Kept S a (fset w b f v) :=
  ((((((h.set b 0 hb _).set b 1 hb _).set b 2 hb _).set b 3 hb _).set b 4 hb _).set b 5 hb _).set b 6 hb _
end Go.Proofs.YtcmipliglcakdaaDoor
