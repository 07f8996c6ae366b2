/- ScribeLays, walked. -/
import Derived.Test.YtcmipliglcakdaaDoorForm
namespace Go.Proofs.YtcmipliglcakdaaDoor
open Go Go.RowKit Go.Lw
set_option maxRecDepth 100000
/-- A round's state: the writer; what is wanted; the pieces; all apart, all the call's own. -/
structure LS (w wr : World) (bw : Nat) (vw want v : Value) (W W2 : List UInt8) (m : List Piece) : Prop where
  wrt : WriterAt wr bw vw W 0
  own : wr.ownsRow 0 5 1 want W2.length (W2.map bv)
  pcs : wr.ownsRow 0 35 3 v m.length (m.flatMap Piece.cells)
  d1 : ∀ k, blk want k → k ≠ bw ∧ ¬ blk vw k ∧ ¬ blk v k
  d2 : ∀ k, blk v k → k ≠ bw ∧ ¬ blk vw k
  below : Below w.heap.size w wr
  b1 : w.heap.size ≤ bw
  b2 : ∀ k, blk vw k → w.heap.size ≤ k
  b3 : ∀ k, blk want k → w.heap.size ≤ k
theorem WriterAt.lt {w : World} {bw : Nat} {v : Value} {l : List UInt8} {e : Int} (h : WriterAt w bw v l e) : bw < w.heap.size ∧ ∀ k, blk v k → k < w.heap.size := by
  obtain ⟨⟨T, hh⟩, ho, _⟩ := h
  exact ⟨heap_lt hh, own_lt ho⟩
theorem LS.keep {S : Nat → Prop} {w wr w' : World} {bw : Nat} {vw want v : Value} {W W2 : List UInt8} {m : List Piece} (h : LS w wr bw vw want v W W2 m) (hk : Kept S wr w') (h0 : ∀ k, S k → w.heap.size ≤ k ∧ k ≠ bw ∧ ¬ blk vw k ∧ ¬ blk want k ∧ ¬ blk v k) : LS w w' bw vw want v W W2 m :=
  ⟨h.wrt.kept hk (fun e => (h0 _ e).2.1 rfl) (fun g hg e => (h0 _ e).2.2.1 hg), own_kept hk h.own (fun g hg e => (h0 _ e).2.2.2.1 hg), own_kept hk h.pcs (fun g hg e => (h0 _ e).2.2.2.2 hg), h.d1, h.d2,
   h.below.trans (hk.below h.below.size (fun k hk' e => by have := (h0 k e).1; omega)), h.b1, h.b2, h.b3⟩
theorem LS.ext {w wr w' : World} {bw : Nat} {vw want v : Value} {W W2 : List UInt8} {m : List Piece} (h : LS w wr bw vw want v W W2 m) (hk : Kept (fun _ => False) wr w') : LS w w' bw vw want v W W2 m := h.keep hk (fun _ h => h.elim)
theorem LS.write {w wr w' : World} {bw : Nat} {vw want v : Value} {W W' W2 : List UInt8} {m : List Piece} (h : LS w wr bw vw want v W W2 m) (hp : WrPost wr w' bw vw W' 0) : ∃ vw', LS w w' bw vw' want v W' W2 m := by
  obtain ⟨vw', h1, h2, h3⟩ := hp
  refine ⟨vw', h1, own_kept h2 h.own (fun g hg e => ?_), own_kept h2 h.pcs (fun g hg e => ?_), fun k hk => ⟨(h.d1 k hk).1, fun e => ?_, (h.d1 k hk).2.2⟩, fun k hk => ⟨(h.d2 k hk).1, fun e => ?_⟩,
    h.below.trans (h2.below h.below.size ?_), h.b1, fun k hk => ?_, h.b3⟩
  · rcases e with e | e
    · exact (h.d1 g hg).1 e
    · exact (h.d1 g hg).2.1 e
  · rcases e with e | e
    · exact (h.d2 g hg).1 e
    · exact (h.d2 g hg).2 e
  · rcases h3 k e with e' | e'
    · exact (h.d1 k hk).2.1 e'
    · have := own_lt h.own k hk; omega
  · rcases h3 k e with e' | e'
    · exact (h.d2 k hk).2 e'
    · have := own_lt h.pcs k hk; omega
  · rintro k hk (e | e)
    · have := h.b1; omega
    · have := h.b2 k e; omega
  · rcases h3 k hk with e | e
    · exact h.b2 k e
    · have := h.below.size; omega
theorem LS.app {w wr w' : World} {bw : Nat} {vw want want' v : Value} {W W2 W3 : List UInt8} {m : List Piece} (h : LS w wr bw vw want v W W2 m) (ho : w'.ownsRow 0 5 1 want' W3.length (W3.map bv)) (hg : wr.grownBy w' want.ownBlock) (hf : Fresh wr want want') : LS w w' bw vw want' v W W3 m := by
  have hk : Kept (blk want) wr w' := (Kept.refl _ _).grown hg (fun k hk _ => hk)
  refine ⟨h.wrt.kept hk (fun e => (h.d1 _ e).1 rfl) (fun g hg e => (h.d1 _ e).2.1 hg), ho, own_kept hk h.pcs (fun g hg e => (h.d1 _ e).2.2 hg), fun k hk' => ?_, h.d2, h.below.trans (hk.below h.below.size (fun k hk' e => by have := h.b3 k e; omega)), h.b1, h.b2, fun k hk' => ?_⟩
  · rcases hf k hk' with e | e
    · exact h.d1 k e
    · have h1 := h.wrt.lt
      refine ⟨by omega, fun e' => by have := h1.2 k e'; omega, fun e' => by have := own_lt h.pcs k e'; omega⟩
  · rcases hf k hk' with e | e
    · exact h.b3 k e
    · have := h.below.size; omega
theorem LS.done {w wr w' : World} {bw : Nat} {vw want v r : Value} {W W2 : List UInt8} {m : List Piece} (h : LS w wr bw vw want v W W2 m) (hp : DnPost wr w' bw vw r W) :
    ∃ vw', LS w w' bw vw' want v W W2 m ∧ w'.ownsRow 0 5 1 r W.length (W.map bv) ∧ ∀ k, blk r k → w.heap.size ≤ k ∧ k ≠ bw ∧ ¬ blk vw' k ∧ ¬ blk want k ∧ ¬ blk v k := by
  obtain ⟨vw', h1, h2, h3, hr, hf⟩ := hp
  have hw : ∃ vw'', LS w w' bw vw'' want v W W2 m ∧ vw'' = vw' := by
    refine ⟨vw', ⟨h1, own_kept h2 h.own (fun g hg e => ?_), own_kept h2 h.pcs (fun g hg e => ?_), fun k hk => ⟨(h.d1 k hk).1, fun e => ?_, (h.d1 k hk).2.2⟩, fun k hk => ⟨(h.d2 k hk).1, fun e => ?_⟩,
      h.below.trans (h2.below h.below.size ?_), h.b1, fun k hk => ?_, h.b3⟩, rfl⟩
    · rcases e with e | e
      · exact (h.d1 g hg).1 e
      · exact (h.d1 g hg).2.1 e
    · rcases e with e | e
      · exact (h.d2 g hg).1 e
      · exact (h.d2 g hg).2 e
    · rcases h3 k e with e' | e'
      · exact (h.d1 k hk).2.1 e'
      · have := own_lt h.own k hk; omega
    · rcases h3 k e with e' | e'
      · exact (h.d2 k hk).2 e'
      · have := own_lt h.pcs k hk; omega
    · rintro k hk (e | e)
      · have := h.b1; omega
      · have := h.b2 k e; omega
    · rcases h3 k hk with e | e
      · exact h.b2 k e
      · have := h.below.size; omega
  obtain ⟨_, hw, rfl⟩ := hw
  refine ⟨_, hw, hr, fun k hk => ?_⟩
  obtain ⟨f1, f2, f3⟩ := hf k hk
  exact ⟨Nat.le_trans h.below.size f1, f3, f2, fun e => by have := own_lt h.own k e; omega, fun e => by have := own_lt h.pcs k e; omega⟩
def formL (m : List Piece) : List UInt8 := m.flatMap Piece.form
theorem formL_len (m : List Piece) (h : ∀ p ∈ m, p.text.size ≤ 100) : (formL m).length ≤ 102 * m.length := by
  induction m with
  | nil => simp [formL]
  | cons p m ih =>
    have h1 := Piece.form_len p (h p (List.mem_cons_self ..))
    have h2 := ih (fun q hq => h q (List.mem_cons_of_mem _ hq))
    simp only [formL, List.flatMap_cons, List.length_append, List.length_cons] at *
    omega
theorem formL_snoc (m : List Piece) (k : Nat) (h : k < m.length) : formL (m.take (k + 1)) = formL (m.take k) ++ m[k].form := by
  unfold formL; rw [take_snoc m k h, List.flatMap_append, List.flatMap_singleton]
theorem few_ok (most : Nat) (l : List Piece) (h : ∀ p ∈ l, p.ok) : ∀ p ∈ fewL most l, p.ok ∧ p.text.size ≤ 100 := by
  intro p hp
  unfold fewL at hp
  obtain ⟨q, hq, rfl⟩ := List.mem_map.1 hp
  obtain ⟨h1, h2, h3, h4⟩ := h q (List.mem_of_mem_take hq)
  have : (q.text.extract 0 (min q.text.size 100)).size ≤ 100 := by rw [ByteArray.size_extract]; omega
  exact ⟨⟨h1, h2, h3, by unfold maxLen; show (q.text.extract 0 (min q.text.size 100)).size ≤ _; omega⟩, this⟩
set_option maxHeartbeats 2000000 in
theorem lays_any (w : World) (x : Value) (l : List Piece) (hx : RdP w x l) (ht : Tab w) :
    Calls Tryd.prog 4 #[x] w fun e w' => e = .returned (.bool true) ∧ Below w.heap.size w w' := by
  have HX := Lw.hid hx
  have HT := Lw.hid ht
  clear hx ht
  go_enter Tryd.func4, Tryd.ntmps4
  go_wp2_with fail
  refine (few_any _ x l 30 (by omega) ⟨Rd.alloc HX.out.1 _, HX.out.2⟩).mono ?_
  rintro e w1 ⟨v, rfl, hv, hb, hvf⟩
  have hok := few_ok 30 l HX.out.2
  have hml := fewL_len 30 l
  generalize fewL 30 l = m at *
  obtain ⟨ad, cap, rfl, hcap, hcm, _⟩ := own_slice hv
  have HLS : Hid (LS w w1 w.heap.size (.slice none 0 0) (.slice none 0 0) (.slice ad m.length cap) [] [] m) := by
    have hk : Kept (fun _ => False) (w.alloc (.cells #[.slice none 0 0, .int .i64 0] 30)) w1 := (Kept.of_below hb).mono (fun i hi h => by omega)
    refine ⟨(WriterAt.new w).kept hk (fun h => h) (fun _ _ h => h), World.ownsRow_nil _ 0 _ 1, hv, fun k h => (blk_none h).elim, fun k h => ⟨?_, fun h => blk_none h⟩, ((Below.refl _ w).alloc (Nat.le_refl _) _).trans (hb.mono (by simp)), Nat.le_refl _, fun k h => (blk_none h).elim, fun k h => (blk_none h).elim⟩
    have := hvf k h
    simp at this; omega
  have HOK := Lw.hid hok
  unfold maxLen at hcm
  clear hv hb hvf hok HX
  go_wp2_with fail
  go_loopw [4, 5, 14] (fun to want i wr => ∃ (k : Nat) (a : Option Addr) (c : Nat) (vw : Value), k ≤ m.length ∧ i = .int .i64 k ∧ to = .pointer (some ⟨w.heap.size, 0, none⟩) ∧ want = .slice a (formL (m.take k)).length c ∧ Hid (LS w wr w.heap.size vw want (.slice ad m.length cap) (formL (m.take k)) (formL (m.take k)) m)) (fun _ _ i _ => m.length - (intOf i).toNat)
  case atStart => exact ⟨0, none, 0, .slice none 0 0, Nat.zero_le _, rfl, rfl, rfl, HLS⟩
  case round =>
    obtain ⟨k, a, c, vw, hk, rfl, rfl, rfl, HL⟩ := hrel
    clear HLS
    by_cases hlt : k < m.length
    · obtain ⟨g, off, rfl, c0, cj⟩ := (Rd.own HL.out.pcs).elem (fun _ _ => rfl) (by decide) k hlt
      have c1 := cj 1 (by decide)
      have c2 := cj 2 (by decide)
      clear cj
      simp only [Piece.cells, List.getElem?_cons_zero, List.getElem?_cons_succ] at c0 c1 c2
      obtain ⟨hpo, hpt⟩ := HOK.out m[k] (List.getElem_mem hlt)
      have HS := Lw.hid (formL_snoc m k hlt)
      have hwl : (formL (m.take k)).length ≤ 3060 := by
        have := formL_len (m.take k) (fun p hp => (HOK.out p (List.mem_of_mem_take hp)).2)
        have h2 : (m.take k).length ≤ 30 := by rw [List.length_take]; omega
        omega
      generalize formL (m.take k) = W at *
      have hpf := Piece.form_len m[k] hpt
      have HPO := Lw.hid hpo
      clear hpo
      go_wp2_with fail
      refine (lay_any _ _ vw W m[k] HPO.out hpt (HL.out.wrt.alloc _) (by omega)).mono ?_
      rintro e w2 ⟨rfl, hp2⟩
      have hpb : w2.heap[wr.heap.size]? = some (.cells #[.int .i64 m[k].what, .int .u64 (m[k].n : Int), .string m[k].text] 35) := by
        obtain ⟨_, _, hk2, _⟩ := hp2
        refine hk2.heap (heap_alloc wr _) ?_
        have := HL.out.wrt.lt
        rintro (e | e)
        · omega
        · have := this.2 _ e; omega
      obtain ⟨vw2, h2⟩ := HL.out.write hp2.of_alloc
      have hpw : ∃ W', W ++ m[k].form = W' := ⟨_, rfl⟩
      obtain ⟨W', hW'⟩ := hpw
      rw [hW'] at h2
      have HW' := Lw.hid hW'
      have hwl' : W'.length ≤ 4000 := by rw [← hW', List.length_append]; omega
      clear hW'
      have H2 := Lw.hid h2
      have e0 := heap_cell hpb 0
      have e1 := heap_cell hpb 1
      have e2 := heap_cell hpb 2
      simp at e0 e1 e2
      clear hp2 h2 hpb c0 c1 c2 HL
      go_wp2_with fail
      refine (form_any _ m[k] HPO.out hpt).mono ?_
      rintro e w3 ⟨f, rfl, hf, hk3⟩
      have h3 := H2.out.ext hk3
      have H3 := Lw.hid h3
      have HF := Lw.hid hf
      clear h3 hf hk3 H2 e0 e1 e2
      go_wp2_with (at_builtin; refine wpList_app rfl _ _ _ rfl EB (.slice a W.length c) W.length _ rfl H3.out.own _ m[k].form.length _ rfl HF.out (bytes_oneCell _) (by unfold maxLen; omega) (by omega) ?_; intro ad4 cap4 w4 ho4 hg4 hf4)
      have h4 := H3.out.app (W3 := W') (by rw [← HW'.out, List.length_append, List.map_append]; exact ho4) hg4 hf4
      have H4 := Lw.hid h4
      clear ho4 hg4 hf4 h4 H3 HF
      go_wp2_with fail
      refine (done_any _ _ vw2 _ H4.out.wrt (by omega)).mono ?_
      rintro e w5 ⟨r, rfl, hp5⟩
      obtain ⟨vw5, h5, hr, hf5⟩ := H4.out.done hp5
      obtain ⟨ad5, cap5, rfl, hcap5, hcm5, hg5⟩ := own_slice hr
      have H5 := Lw.hid h5
      have HR := Lw.hid hr
      have HF5 := Lw.hid hf5
      clear hp5 h5 hr hf5 H4
      go_wp2_with fail
      refine (equal_any _ _ _ W' W' (Rd.own HR.out) (RdB.of_own H5.out.own rfl) true (by simp)).mono ?_
      rintro e w6 ⟨rfl, rfl⟩
      generalize hN : W'.length = N at *
      have HN := Lw.hid hN
      clear hN
      go_wp2_with fail
      obtain ⟨wo, rfl⟩ : ∃ wo : World, wo = w5 := ⟨_, rfl⟩
      go_loopw [40] (fun i wi => ∃ (j : Nat) (xs : List UInt8), j ≤ N ∧ i = .int .i64 j ∧ xs.length = N ∧ Hid (wi.ownsRow 0 5 1 (.slice ad5 N cap5) N (xs.map bv)) ∧ Hid (Kept (blk (.slice ad5 N cap5)) wo wi)) (fun i _ => N - (intOf i).toNat)
      case atStart => exact ⟨0, W', Nat.zero_le _, rfl, HN.out, HR, Lw.hid (Kept.refl _ _)⟩
      case round =>
        obtain ⟨j, xs, hj, rfl, hxs, HO, HK⟩ := hrel
        by_cases hjl : j < N
        · obtain ⟨g6, rfl⟩ := hg5 (by omega)
          obtain ⟨old, hold⟩ : ∃ old : UInt8, (xs.map bv)[j]? = some (bv old) := ⟨xs[j]'(by omega), by rw [List.getElem?_map, List.getElem?_eq_getElem (by omega)]; rfl⟩
          have hc := own_cell HO.out j _ hold (by omega)
          have hfz := HO.out.frozenAt j
          clear hold
          unfold bv at hc
          have hob := old.toNat_lt
          generalize old.toNat = ob at *
          clear old
          have HO6 : Hid ((wr.setCell ⟨g6, j, none⟩ (.int .u8 (((ob : Int) + 1) % 256))).ownsRow 0 5 1 (.slice (some ⟨g6, 0, none⟩) N cap5) N ((xs.set j (lo (ob + 1))).map bv)) := by
            have h := (HO.out.stored j (bv (lo (ob + 1)))).1
            rw [← List.map_set, bv_lo, show (((ob + 1) % 256 : Nat) : Int) = ((ob : Int) + 1) % 256 by omega] at h
            exact h
          have HK6 : Hid (Kept (blk (.slice (some ⟨g6, 0, none⟩) N cap5)) wo (wr.setCell ⟨g6, j, none⟩ (.int .u8 (((ob : Int) + 1) % 256)))) := Lw.hid (HK.out.setCell (p := ⟨g6, j, none⟩) (fun _ => rfl) _)
          go_wp2_with fail
          go_roundw
          case rel => exact ⟨j + 1, xs.set j (lo (ob + 1)), by omega, by go_num, by simp [hxs], HO6, HK6⟩
          case measure => simp [intOf]; omega
        · have h7 := H5.out.keep HK.out HF5.out
          have H7 := Lw.hid h7
          clear h7
          go_wp2_with fail
          go_roundw
          case rel => exact ⟨k + 1, ad4, cap4, vw5, by omega, by go_num, rfl, by rw [HS.out, List.length_append], Lw.hid (by rw [HS.out, HW'.out, ← List.length_append, HW'.out] at *; exact H7.out)⟩
          case measure => simp [intOf]; omega
    · go_wp2_with fail
      refine (wakes_any _ (HT.out.below HL.out.below)).mono ?_
      rintro e w2 ⟨rfl, hb⟩
      go_wp2_with fail
      go_ret
      exact ⟨rfl, HL.out.below.trans (hb.mono HL.out.below.size)⟩
end Go.Proofs.YtcmipliglcakdaaDoor
