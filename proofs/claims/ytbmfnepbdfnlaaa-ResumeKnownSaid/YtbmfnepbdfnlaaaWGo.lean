/- A writer that goes on, in a region that draws its order. -/
import Derived.Test.YtbmfnepbdfnlaaaChain
import Derived.Test.YtbmfnepbdfnlaaaWriter
namespace Go.Proofs.Ytbmfnepbdfnlaaa
open Go Go.RowKit Go.Lw
theorem WGo.of_post {w w' : World} {bw : Nat} {v : Value} {l l' : List UInt8} {e e' : Int} (h : WriterAt w bw v l e) (hp : WrPost w w' bw v l' e') : WGo bw w w' := by
  obtain ⟨v', ⟨⟨T', h1⟩, _, _⟩, h2, h3⟩ := hp
  obtain ⟨⟨T, h0⟩, _, _⟩ := h
  refine ⟨h2.mono (fun k _ hk => ?_), fun k hk => ?_⟩
  · rcases hk with hk | hk
    · exact .inl hk
    · exact .inr ⟨v, _, T, _, h0, hk⟩
  · rcases hk with hk | ⟨u, x, U, fr, q1, q2⟩
    · exact .inl (.inl hk)
    · rw [h1] at q1
      simp only [Option.some.injEq, Obj.cells.injEq, Array.mk.injEq, List.cons.injEq] at q1
      obtain ⟨⟨rfl, _⟩, _⟩ := q1
      rcases h3 k q2 with h4 | h4
      · exact .inl (.inr ⟨v, _, T, _, h0, h4⟩)
      · exact .inr h4
theorem WriterAt.lt {w : World} {bw : Nat} {v : Value} {l : List UInt8} {e : Int} (h : WriterAt w bw v l e) : bw < w.heap.size := by
  obtain ⟨⟨T, h0⟩, _⟩ := h; exact (Array.getElem?_eq_some_iff.1 h0).1
/-- A row just made is none of the writer's. -/
theorem WriterAt.wf {w : World} {bw : Nat} {v : Value} {l : List UInt8} {e : Int} (h : WriterAt w bw v l e) : ∀ k, WF bw w k → k < w.heap.size := fun k hk => by
  obtain ⟨⟨T, h0⟩, h1, _⟩ := h
  rcases hk with rfl | ⟨u, x, U, fr, q1, q2⟩
  · exact (Array.getElem?_eq_some_iff.1 h0).1
  · rw [h0] at q1
    simp only [Option.some.injEq, Obj.cells.injEq, Array.mk.injEq, List.cons.injEq] at q1
    obtain ⟨⟨rfl, _⟩, _⟩ := q1
    exact own_lt h1 k q2
theorem byte_made {w : World} {bw : Nat} {v : Value} {l : List UInt8} {e : Int} (h : WriterAt w bw v l e) (lit : Int) (b : Nat) (hl : lit = (b : Int)) (hb : b < 256) : (rB bw [lo b]).1 (.slice (some ⟨w.heap.size, 0, none⟩) 1 1) (w.alloc (.cells #[.int .u8 lit] 5)) := by
  subst hl
  refine ⟨?_, fun k hk => ?_⟩
  · rw [show Value.int .u8 (b : Int) = bv (lo b) by rw [bv_lo, Nat.mod_eq_of_lt (by omega)]]
    exact RdB.mark w [lo b] _ (0, 0) _ 1 rfl rfl (by decide)
  · have e1 : k = w.heap.size := blk_some hk
    subst e1
    refine ⟨by simp, fun hw => ?_⟩
    have := (WGo.of_kept h.lt ((Kept.refl (fun _ => False) w).alloc (.cells #[.int .u8 (b : Int)] 5))).f _ hw
    rcases this with h4 | h4
    · have := h.wf _ h4; omega
    · rcases hw with hw | ⟨u, x, U, fr, q1, q2⟩
      · have := h.lt; omega
      · obtain ⟨⟨T, h0⟩, h1, _⟩ := h
        rw [((Kept.refl (fun _ => False) w).alloc (.cells #[.int .u8 (b : Int)] 5)).heap h0 (fun h => h)] at q1
        simp only [Option.some.injEq, Obj.cells.injEq, Array.mk.injEq, List.cons.injEq] at q1
        obtain ⟨⟨rfl, _⟩, _⟩ := q1
        have := own_lt h1 _ q2; omega
end Go.Proofs.Ytbmfnepbdfnlaaa
