/- longwirelaw14.tells. -/
import Derived.Test.YtfmebmaklakckaaDoorDisk4
namespace Go.Proofs.YtfmebmaklakckaaDoor
open Go Go.RowKit Go.Lw
set_option maxRecDepth 100000
theorem DPost.keeps {w w' W : World} {g : Nat} {v : Value} {D : Dsk} (h : DPost w w' g v D) (k0 : Kept (fun _ => False) W w) (hg : W.heap.size ≤ g) (hv : ∀ k, blk v k → W.heap.size ≤ k) : ∃ v', DiskAt w' g v' D ∧ Kept (fun _ => False) W w' ∧ ∀ k, blk v' k → W.heap.size ≤ k := by
  obtain ⟨v', d, k, f⟩ := h
  refine ⟨v', d, k0.trans k (fun i hi hs => ?_), fun i hi => ?_⟩
  · rcases hs with hs | hs
    · omega
    · have := hv i hs; omega
  · rcases f i hi with h | h
    · exact hv i h
    · exact Nat.le_trans k0.size h
theorem Dsk.ok_mk {cp : Nat} {b : List UInt8} {pt : Nat} {st is : Bool} {np nb : Int} (h1 : b.length ≤ cp) (h2 : cp ≤ 1048576) (h3 : pt < 4611686018427387904) (h4 : -4611686018427387904 < np ∧ np ≤ 9223372036854775807) (h5 : 0 ≤ nb ∧ nb ≤ 9223372036854775807) (h6 : is = true → 0 ≤ np) : (⟨cp, b, pt, st, is, np, nb⟩ : Dsk).ok :=
  ⟨h1, h2, h3, h4.1, h4.2, fun h => ⟨h6 h, h5.1⟩, by simp only; omega⟩
theorem blk_new {g n c k : Nat} (h : blk (.slice (some ⟨g, 0, none⟩) n c) k) : k = g := blk_some h
theorem DPost.ok_next {w w' : World} {g : Nat} {v : Value} {D : Dsk} (h : DPost w w' g v D) : ∃ v', DPost w w' g v D ∧ DiskAt w' g v' D := by
  obtain ⟨v', d, k, f⟩ := id h
  exact ⟨v', h, d⟩
end Go.Proofs.YtfmebmaklakckaaDoor
