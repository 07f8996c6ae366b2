/- ResumeEach: what the law keeps while it ranges. -/
import Derived.Test.YtbmfnepbdfnlaaaEachP
import Derived.Test.YtbmfnepbdfnlaaaIMap
import Derived.Test.YtbmfnepbdfnlaaaRWakes
namespace Go.Proofs.Ytbmfnepbdfnlaaa
open Go Go.RowKit Go.Lw
set_option linter.unusedVariables false
abbrev IM (w : World) (b : Nat) (L : List Nat) : Prop := IMap Try.prog 24 3 w b L
theorem zeroInt (w : World) : (zeroValue 3).run Try.prog w = .ok (.int .i64 0) w := by kernel_rfl
theorem rdh_at {w : World} {ad : Option Addr} {cn cap : Nat} {l : List Hv} (h : RdH w (.slice ad cn cap) l) : ∀ k (hk : k < l.length), ∃ g off, ad = some ⟨g, off, none⟩ ∧ w.cell? ⟨g, off + k * 4, none⟩ = some (u32v l[k].id) ∧ w.cell? ⟨g, off + k * 4 + 1, none⟩ = some (u32v l[k].out) ∧ w.cell? ⟨g, off + k * 4 + 2, none⟩ = some (u32v l[k].er) ∧ w.cell? ⟨g, off + k * 4 + 3, none⟩ = some (.bool l[k].st) := by
  obtain ⟨a', c', e, _, _, h'⟩ := h.shape
  cases e
  exact h'
structure EcAt (w : World) (b nx n : Nat) (v : Value) (l : List Hv) (m : Nat) (Ds : List Nat) (at_ : Nat) (L : List Nat) (V : World) : Prop where
  k : Kept (fun _ => False) w V
  lo : w.heap.size < b
  hm : b + 5 ≤ m
  hs : m ≤ V.heap.size
  res : V.heap[w.heap.size]? = some (.cells #[.bool false] 4 (0, 0))
  ask : V.heap[b]? = some (.cells #[u32v nx, v] 26 (0, 0))
  num : V.heap[b + 1]? = some (.cells #[u32v n] 24 (0, 0))
  mp : V.heap[b + 3]? = some (.cells #[.map (some (b + 2))] 28 (0, 0))
  at_ : V.heap[b + 4]? = some (.cells #[u32v at_] 24 (0, 0))
  own : IM V (b + 2) L
  rd : RdH V v l
  fr : ∀ k, blk v k → w.heap.size < k ∧ k < b
  ds : ∀ d ∈ Ds, V.heap[d]? = some (.deferred (some [])) ∧ b + 5 ≤ d ∧ d < m
  nd : Ds.Nodup
section
variable {w V V' : World} {b nx n m at_ : Nat} {v : Value} {l : List Hv} {Ds L : List Nat}
theorem EcAt.kept {X : Nat → Prop} (h : EcAt w b nx n v l m Ds at_ L V) (hk : Kept X V V') (hX : ∀ k, X k → m ≤ k) : EcAt w b nx n v l m Ds at_ L V' := by
  have := h.lo; have := h.hm
  have hn : ∀ k, k < m → ¬ X k := fun k hk hx => by have := hX k hx; omega
  refine ⟨h.k.trans hk (fun i hi hx => by have := hX i hx; have := h.lo; omega), h.lo, h.hm, Nat.le_trans h.hs hk.size, hk.heap h.res (hn _ (by omega)), hk.heap h.ask (hn _ (by omega)), hk.heap h.num (hn _ (by omega)), hk.heap h.mp (hn _ (by omega)), hk.heap h.at_ (hn _ (by omega)), h.own.kept hk (hn _ (by omega)), h.rd.kept hk (fun i hi => hn _ (by have := h.fr i hi; omega)), h.fr, fun d hd => ?_, h.nd⟩
  have := h.ds d hd
  exact ⟨hk.heap this.1 (hn _ this.2.2), this.2⟩
theorem EcAt.keptF (h : EcAt w b nx n v l m Ds at_ L V) (hk : Kept (fun _ => False) V V') : EcAt w b nx n v l m Ds at_ L V' := h.kept hk (fun _ h => h.elim)
theorem EcAt.up (h : EcAt w b nx n v l m Ds at_ L V) {m' : Nat} (h1 : m ≤ m') (h2 : m' ≤ V.heap.size) : EcAt w b nx n v l m' Ds at_ L V :=
  ⟨h.k, h.lo, Nat.le_trans h.hm h1, h2, h.res, h.ask, h.num, h.mp, h.at_, h.own, h.rd, h.fr, fun d hd => ⟨(h.ds d hd).1, (h.ds d hd).2.1, Nat.lt_of_lt_of_le (h.ds d hd).2.2 h1⟩, h.nd⟩
theorem EcAt.mark (h : EcAt w b nx n v l m Ds at_ L V) {D : Nat} (hD : V.heap[D]? = some (.deferred (some []))) (hm : m ≤ D) : EcAt w b nx n v l V.heap.size (D :: Ds) at_ L V := by
  have hlt := (Array.getElem?_eq_some_iff.1 hD).1
  have := h.hm
  refine ⟨h.k, h.lo, by omega, Nat.le_refl _, h.res, h.ask, h.num, h.mp, h.at_, h.own, h.rd, h.fr, fun d hd => ?_, List.nodup_cons.2 ⟨fun hd => by have := (h.ds D hd).2.2; omega, h.nd⟩⟩
  rcases List.mem_cons.1 hd with rfl | hd
  · exact ⟨hD, by omega, hlt⟩
  · have := h.ds d hd
    exact ⟨this.1, this.2.1, by omega⟩
theorem EcAt.setAt (h : EcAt w b nx n v l m Ds at_ L V) (j : Nat) : EcAt w b nx n v l m Ds j L (V.setCell ⟨b + 4, 0, none⟩ (u32v j)) := by
  have := h.lo; have := h.hm
  have hk : Kept (fun k => k = b + 4) V (V.setCell ⟨b + 4, 0, none⟩ (u32v j)) := (Kept.refl (fun k => k = b + 4) V).set _ _ (fun _ => rfl) _
  refine ⟨h.k.trans hk (fun i hi hx => by omega), h.lo, h.hm, Nat.le_trans h.hs hk.size, hk.heap h.res (by omega), hk.heap h.ask (by omega), hk.heap h.num (by omega), hk.heap h.mp (by omega), Boxed.set _ h.at_, h.own.kept hk (by omega), h.rd.kept hk (fun i hi => by have := h.fr i hi; omega), h.fr, fun d hd => ?_, h.nd⟩
  have := h.ds d hd
  exact ⟨hk.heap this.1 (by omega), this.2⟩
theorem EcAt.put (h : EcAt w b nx n v l m Ds at_ L V) {L' : List Nat} (ho : IM V' (b + 2) L') (hg : V.grownBy V' (some (b + 2))) : EcAt w b nx n v l m Ds at_ L' V' := by
  have := h.lo; have := h.hm
  have hk : Kept (fun k => k = b + 2) V V' := (Kept.refl (fun k => k = b + 2) V).grown hg (fun k e _ => by cases e; rfl)
  refine ⟨h.k.trans hk (fun i hi hx => by omega), h.lo, h.hm, Nat.le_trans h.hs hk.size, hk.heap h.res (by omega), hk.heap h.ask (by omega), hk.heap h.num (by omega), hk.heap h.mp (by omega), hk.heap h.at_ (by omega), ho, h.rd.kept hk (fun i hi => by have := h.fr i hi; omega), h.fr, fun d hd => ?_, h.nd⟩
  have := h.ds d hd
  exact ⟨hk.heap this.1 (by omega), this.2⟩
theorem EcAt.keeps {X R : Nat → Prop} (h : EcAt w b nx n v l m Ds at_ L V) (hR : ∀ k, R k → (w.heap.size < k ∧ k < b) ∨ b + 5 ≤ k) (hX : ∀ k, X k → m ≤ k) (hk : Kept (fun k => k = b + 2 ∨ k = b + 4) V V') : Keeps (fun k => R k ∨ X k) V V' :=
  hk.keeps (fun k _ hr he => by
    have := h.hm
    rcases hr with hr | hr
    · have := hR k hr; omega
    · have := hX k hr; omega)
/-- The end: the answer is laid, the marks go. -/
theorem EcAt.leaves (h : EcAt w b nx n v l m Ds at_ L V) (x : Bool) {V' : World} (hk : Kept (fun k => k ∈ Ds) (V.setCell ⟨w.heap.size, 0, none⟩ (.bool x)) V') : V'.cell? ⟨w.heap.size, 0, none⟩ = some (.bool x) ∧ Kept (fun _ => False) w V' := by
  have hd : ∀ k, k ∈ Ds → w.heap.size < k := fun k hd => by have := (h.ds k hd).2.1; have := h.lo; omega
  refine ⟨?_, (h.k.set _ _ (fun e => by omega) _).trans hk (fun i hi hx => by have := hd i hx; omega)⟩
  exact heap_cell (hk.heap (Boxed.set (.bool x) h.res) (fun hx => by have := hd _ hx; omega)) 0
end
end Go.Proofs.Ytbmfnepbdfnlaaa
