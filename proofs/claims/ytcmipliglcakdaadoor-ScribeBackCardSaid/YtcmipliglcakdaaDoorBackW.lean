/- ScribeBack, walked. -/
import Derived.Test.YtcmipliglcakdaaDoorBackP
import Derived.Test.YtcmipliglcakdaaDoorRefReader
import Derived.Test.YtcmipliglcakdaaDoorWakes
namespace Go.Proofs.YtcmipliglcakdaaDoor
open Go Go.RowKit Go.Lw
set_option maxRecDepth 100000
/-- A round's state: the writer; what is wanted; the pieces; all apart, all the call's own. -/
structure LG (w wr : World) (bw : Nat) (vw want v : Value) (W : List UInt8) (E : TypeId) (xs : List Value) (m : List Piece) : Prop where
  wrt : WriterAt wr bw vw W 0
  own : wr.ownsRow 0 E 1 want xs.length xs
  pcs : wr.ownsRow 0 35 3 v m.length (m.flatMap Piece.cells)
  d1 : ∀ k, blk want k → k ≠ bw ∧ ¬ blk vw k ∧ ¬ blk v k
  d2 : ∀ k, blk v k → k ≠ bw ∧ ¬ blk vw k
  below : Below w.heap.size w wr
  b1 : w.heap.size ≤ bw
  b2 : ∀ k, blk vw k → w.heap.size ≤ k
  b3 : ∀ k, blk want k → w.heap.size ≤ k
theorem LG.keep {S : Nat → Prop} {w wr w' : World} {bw : Nat} {vw want v : Value} {W : List UInt8} {E : TypeId} {xs : List Value} {m : List Piece} (h : LG w wr bw vw want v W E xs m) (hk : Kept S wr w') (h0 : ∀ k, S k → w.heap.size ≤ k ∧ k ≠ bw ∧ ¬ blk vw k ∧ ¬ blk want k ∧ ¬ blk v k) : LG w w' bw vw want v W E xs m :=
  ⟨h.wrt.kept hk (fun e => (h0 _ e).2.1 rfl) (fun g hg e => (h0 _ e).2.2.1 hg), own_kept hk h.own (fun g hg e => (h0 _ e).2.2.2.1 hg), own_kept hk h.pcs (fun g hg e => (h0 _ e).2.2.2.2 hg), h.d1, h.d2,
   h.below.trans (hk.below h.below.size (fun k hk' e => by have := (h0 k e).1; omega)), h.b1, h.b2, h.b3⟩
theorem LG.ext {w wr w' : World} {bw : Nat} {vw want v : Value} {W : List UInt8} {E : TypeId} {xs : List Value} {m : List Piece} (h : LG w wr bw vw want v W E xs m) (hk : Kept (fun _ => False) wr w') : LG w w' bw vw want v W E xs m := h.keep hk (fun _ h => h.elim)
theorem LG.write {w wr w' : World} {bw : Nat} {vw want v : Value} {W W' : List UInt8} {E : TypeId} {xs : List Value} {m : List Piece} (h : LG w wr bw vw want v W E xs m) (hp : WrPost wr w' bw vw W' 0) : ∃ vw', LG w w' bw vw' want v W' E xs m := by
  obtain ⟨vw', h1, h2, h3⟩ := hp
  refine ⟨vw', h1, own_kept h2 h.own (fun g hg e => ?_), own_kept h2 h.pcs (fun g hg e => ?_), fun k hk => ⟨(h.d1 k hk).1, fun e => ?_, (h.d1 k hk).2.2⟩, fun k hk => ⟨(h.d2 k hk).1, fun e => ?_⟩,
    h.below.trans (h2.below h.below.size ?_), h.b1, fun k hk => ?_, h.b3⟩
  · rcases e with e | e
    · exact (h.d1 g hg).1 e
    · exact (h.d1 g hg).2.1 e
  · rcases e with e | e
    · exact (h.d2 g hg).1 e
    · exact (h.d2 g hg).2 e
  · rcases h3 k e with e' | e'
    · exact (h.d1 k hk).2.1 e'
    · have := own_lt h.own k hk; omega
  · rcases h3 k e with e' | e'
    · exact (h.d2 k hk).2 e'
    · have := own_lt h.pcs k hk; omega
  · rintro k hk (e | e)
    · have := h.b1; omega
    · have := h.b2 k e; omega
  · rcases h3 k hk with e | e
    · exact h.b2 k e
    · have := h.below.size; omega
theorem LG.app {w wr w' : World} {bw : Nat} {vw want want' v : Value} {W : List UInt8} {E : TypeId} {xs xs' : List Value} {m : List Piece} (h : LG w wr bw vw want v W E xs m) (ho : w'.ownsRow 0 E 1 want' xs'.length xs') (hg : wr.grownBy w' want.ownBlock) (hf : Fresh wr want want') : LG w w' bw vw want' v W E xs' m := by
  have hk : Kept (blk want) wr w' := (Kept.refl _ _).grown hg (fun k hk _ => hk)
  refine ⟨h.wrt.kept hk (fun e => (h.d1 _ e).1 rfl) (fun g hg e => (h.d1 _ e).2.1 hg), ho, own_kept hk h.pcs (fun g hg e => (h.d1 _ e).2.2 hg), fun k hk' => ?_, h.d2, h.below.trans (hk.below h.below.size (fun k hk' e => by have := h.b3 k e; omega)), h.b1, h.b2, fun k hk' => ?_⟩
  · rcases hf k hk' with e | e
    · exact h.d1 k e
    · have h1 := h.wrt.lt
      refine ⟨by omega, fun e' => by have := h1.2 k e'; omega, fun e' => by have := own_lt h.pcs k e'; omega⟩
  · rcases hf k hk' with e | e
    · exact h.b3 k e
    · have := h.below.size; omega
theorem LG.done {w wr w' : World} {bw : Nat} {vw want v r : Value} {W : List UInt8} {E : TypeId} {xs : List Value} {m : List Piece} (h : LG w wr bw vw want v W E xs m) (hp : DnPost wr w' bw vw r W) :
    ∃ vw', LG w w' bw vw' want v W E xs m ∧ w'.ownsRow 0 5 1 r W.length (W.map bv) ∧ ∀ k, blk r k → w.heap.size ≤ k ∧ k ≠ bw ∧ ¬ blk vw' k ∧ ¬ blk want k ∧ ¬ blk v k := by
  obtain ⟨vw', h1, h2, h3, hr, hf⟩ := hp
  have hw : ∃ vw'', LG w w' bw vw'' want v W E xs m ∧ vw'' = vw' := by
    refine ⟨vw', ⟨h1, own_kept h2 h.own (fun g hg e => ?_), own_kept h2 h.pcs (fun g hg e => ?_), fun k hk => ⟨(h.d1 k hk).1, fun e => ?_, (h.d1 k hk).2.2⟩, fun k hk => ⟨(h.d2 k hk).1, fun e => ?_⟩,
      h.below.trans (h2.below h.below.size ?_), h.b1, fun k hk => ?_, h.b3⟩, rfl⟩
    · rcases e with e | e
      · exact (h.d1 g hg).1 e
      · exact (h.d1 g hg).2.1 e
    · rcases e with e | e
      · exact (h.d2 g hg).1 e
      · exact (h.d2 g hg).2 e
    · rcases h3 k e with e' | e'
      · exact (h.d1 k hk).2.1 e'
      · have := own_lt h.own k hk; omega
    · rcases h3 k e with e' | e'
      · exact (h.d2 k hk).2 e'
      · have := own_lt h.pcs k hk; omega
    · rintro k hk (e | e)
      · have := h.b1; omega
      · have := h.b2 k e; omega
    · rcases h3 k hk with e | e
      · exact h.b2 k e
      · have := h.below.size; omega
  obtain ⟨_, hw, rfl⟩ := hw
  refine ⟨_, hw, hr, fun k hk => ?_⟩
  obtain ⟨f1, f2, f3⟩ := hf k hk
  exact ⟨Nat.le_trans h.below.size f1, f3, f2, fun e => by have := own_lt h.own k e; omega, fun e => by have := own_lt h.pcs k e; omega⟩
theorem EI : ElemT Tryd.prog 75 3 1 8 := ElemT.of (z := .int .i64 0) Tryd.underlying75 (by kernel_rfl) rfl (by decide)
def endsL (m : List Piece) (k : Nat) : List Value := (List.range k).map fun i => .int .i64 ((formL (m.take (i + 1))).length : Int)
theorem endsL_len (m : List Piece) (k : Nat) : (endsL m k).length = k := by simp [endsL]
theorem endsL_snoc (m : List Piece) (k : Nat) : endsL m (k + 1) = endsL m k ++ [.int .i64 ((formL (m.take (k + 1))).length : Int)] := by simp [endsL, List.range_succ]
theorem kept_alloc (w : World) (o : Obj) : Kept (fun _ => False) w (w.alloc o) := (Kept.refl _ w).alloc o
theorem kept_drewN (w : World) (n : Nat) : Kept (fun _ => False) w (w.drewN n) := ⟨rfl, rfl, rfl, Nat.le_refl _, fun _ _ _ => rfl⟩
/-- The state while a reader goes. -/
structure L2 (w wr : World) (bw : Nat) (vw ends v b : Value) (W : List UInt8) (xs : List Value) (m : List Piece) (br : Nat) (rv : Value) (R : Rdr) : Prop where
  lg : LG w wr bw vw ends v W 3 xs m
  rd : ReaderAt wr br rv R
  bb : RdB wr b W
  n1 : br ≠ bw
  n2 : ¬ blk vw br
  n3 : ¬ blk ends br
  n4 : ¬ blk v br
  n5 : W.length ≠ 0 → ¬ blk b br
  n6 : w.heap.size ≤ br
theorem L2.ext {w wr w' : World} {bw : Nat} {vw ends v b : Value} {W : List UInt8} {xs : List Value} {m : List Piece} {br : Nat} {rv : Value} {R : Rdr} (h : L2 w wr bw vw ends v b W xs m br rv R) (hk : Kept (fun _ => False) wr w') : L2 w w' bw vw ends v b W xs m br rv R :=
  ⟨h.lg.ext hk, h.rd.kept hk (fun h => h) (fun _ _ h => h), h.bb.kept hk (fun _ _ h => h), h.n1, h.n2, h.n3, h.n4, h.n5, h.n6⟩
theorem L2.read {w wr w' : World} {bw : Nat} {vw ends v b : Value} {W : List UInt8} {xs : List Value} {m : List Piece} {br : Nat} {rv : Value} {R R' : Rdr} (h : L2 w wr bw vw ends v b W xs m br rv R) (hp : RdPost wr w' br rv R') : ∃ rv', L2 w w' bw vw ends v b W xs m br rv' R' := by
  obtain ⟨rv', h1, hk, h3⟩ := hp
  refine ⟨rv', ⟨h.lg.keep hk (fun k e => ?_), h1, h.bb.keptE hk (fun h0 k hk e => h.n5 h0 (e ▸ hk)), h.n1, h.n2, h.n3, h.n4, h.n5, h.n6⟩⟩
  subst e
  exact ⟨h.n6, h.n1, h.n2, h.n3, h.n4⟩
theorem formL_take_all (m : List Piece) : m.take m.length = m := List.take_length
theorem formL_mono (m : List Piece) (k : Nat) : (formL (m.take k)).length ≤ (formL m).length := by
  have : formL m = formL (m.take k) ++ formL (m.drop k) := by
    unfold formL; rw [← List.flatMap_append, List.take_append_drop]
  rw [this, List.length_append]; omega
theorem cutR_full (m : List Piece) (k : Nat) : cutR m (formL m).length k = ⟨(formL m).drop (formL (m.take k)).length, false⟩ := by
  unfold cutR; rw [if_pos (formL_mono m k), List.take_length]
theorem cutR_zero (m : List Piece) (c : Nat) : cutR m c 0 = ⟨(formL m).take c, false⟩ := by
  unfold cutR; simp [formL]
theorem text_dead : (Rdr.mk [] true).text = ([], ⟨[], true⟩) := by unfold Rdr.text; rw [num_dead, take_dead]
set_option maxHeartbeats 4000000 in
theorem back_any (w : World) (x : Value) (l : List Piece) (cut : Nat) (hcut : cut < 65536) (hx : RdP w x l) (ht : Tab w) :
    Calls Tryd.prog 9 #[x, .int .u16 (cut : Int)] w fun e w' => e = .returned (.bool true) ∧ Below w.heap.size w w' := by
  have HX := Lw.hid hx
  have HT := Lw.hid ht
  clear hx ht
  go_enter Tryd.func9, Tryd.ntmps9
  go_wp2_with fail
  refine (few_any _ x l 20 (by omega) HX.out).mono ?_
  rintro e w1 ⟨v, rfl, hv, hb, hvf⟩
  have hok := few_ok 20 l HX.out.2
  have hml := fewL_len 20 l
  generalize fewL 20 l = m at *
  obtain ⟨ad, cap, rfl, hcap, hcm, _⟩ := own_slice hv
  have HLG : Hid (LG w (w1.alloc (.cells #[.slice none 0 0, .int .i64 0] 30)) w1.heap.size (.slice none 0 0) (.slice none 0 0) (.slice ad m.length cap) [] 3 [] m) := by
    refine ⟨WriterAt.new w1, World.ownsRow_nil _ 0 _ 1, hv.alloc _, fun k h => (blk_none h).elim, fun k h => ⟨?_, fun h => blk_none h⟩, hb.alloc hb.size _, hb.size, fun k h => (blk_none h).elim, fun k h => (blk_none h).elim⟩
    have := own_lt hv k h
    omega
  have HOK := Lw.hid hok
  have HWL : Hid ((formL m).length ≤ 2040) := Lw.hid (by have := formL_len m (fun p hp => (hok p hp).2); omega)
  unfold maxLen at hcm
  clear hv hb hvf hok HX
  go_wp2_with fail
  go_loopw [6, 7, 26] (fun to ends i wr => ∃ (k : Nat) (a : Option Addr) (c : Nat), k ≤ m.length ∧ i = .int .i64 k ∧ to = .pointer (some ⟨w1.heap.size, 0, none⟩) ∧ ends = .slice a k c ∧ Hid (∃ vw, LG w wr w1.heap.size vw (.slice a k c) (.slice ad m.length cap) (formL (m.take k)) 3 (endsL m k) m)) (fun _ _ i _ => m.length - (intOf i).toNat)
  case atStart => exact ⟨0, none, 0, Nat.zero_le _, rfl, rfl, rfl, Lw.hid ⟨_, HLG.out⟩⟩
  case round =>
    obtain ⟨k, a, c, hk, rfl, rfl, rfl, HL0⟩ := hrel
    clear HLG
    obtain ⟨vw, hl0⟩ := HL0.out
    have HL := Lw.hid hl0
    clear hl0 HL0
    by_cases hlt : k < m.length
    · obtain ⟨g, off, rfl, c0, cj⟩ := (Rd.own HL.out.pcs).elem (fun _ _ => rfl) (by decide) k hlt
      have c1 := cj 1 (by decide)
      have c2 := cj 2 (by decide)
      clear cj
      simp only [Piece.cells, List.getElem?_cons_zero, List.getElem?_cons_succ] at c0 c1 c2
      obtain ⟨hpo, hpt⟩ := HOK.out m[k] (List.getElem_mem hlt)
      have HS := Lw.hid (formL_snoc m k hlt)
      have hwl1 : (formL (m.take (k + 1))).length ≤ 2040 := Nat.le_trans (formL_mono m _) HWL.out
      have hwl : (formL (m.take k)).length ≤ 2040 := Nat.le_trans (formL_mono m _) HWL.out
      have HES := Lw.hid (endsL_snoc m k)
      have HEL := Lw.hid (endsL_len m k)
      obtain ⟨W', hWe⟩ : ∃ W', formL (m.take (k + 1)) = W' := ⟨_, rfl⟩
      rw [hWe] at HS hwl1 HES
      have HWE := Lw.hid hWe
      clear hWe
      generalize formL (m.take k) = W at *
      have HPO := Lw.hid hpo
      clear hpo
      go_wp2_with fail
      refine (lay_any _ _ vw W m[k] HPO.out hpt (HL.out.wrt.alloc _) (by omega)).mono ?_
      rintro e w2 ⟨rfl, hp2⟩
      obtain ⟨vw2, h2⟩ := HL.out.write hp2.of_alloc
      rw [← HS.out] at h2
      have H2 := Lw.hid h2
      clear hp2 h2 c0 c1 c2 HL
      go_wp2_with fail
      refine (done_any _ _ vw2 W' H2.out.wrt (by omega)).mono ?_
      rintro e w3 ⟨r, rfl, hp3⟩
      obtain ⟨vw3, h3, hr3, hf3⟩ := H2.out.done hp3
      obtain ⟨ad3, cap3, rfl, hcap3, _⟩ := own_slice hr3
      have H3 := Lw.hid h3
      clear hp3 h3 hr3 hf3 H2
      have HO3 : Hid (w3.ownsRow 0 3 1 (.slice a k c) k (endsL m k)) := by
        have h := H3.out.own
        rw [HEL.out] at h
        exact h
      go_wp2_with (at_builtin; refine wpList_app rfl _ _ _ rfl EI (.slice a k c) k _ rfl (HO3.out.alloc _) _ 1 _ rfl (Rd.lit _ [.int .i64 (W'.length : Int)] _ 1 _ 1 (by simp) rfl (by decide)) ?_ (by unfold maxLen; omega) (by omega) ?_; rotate_left; intro ad4 cap4 w4 ho4 hg4 hf4)
      case refine_1 => intro u hu; rw [List.mem_singleton] at hu; subst hu; rfl
      have h4 := (H3.out.ext (kept_alloc _ _)).app (want' := .slice ad4 (k + 1) cap4) (xs' := endsL m (k + 1)) (by rw [HES.out]; simpa [HEL.out] using ho4) hg4 hf4
      rw [← HWE.out] at h4
      exact ⟨⟨k + 1, ad4, cap4, hlt, rfl, rfl, rfl, Lw.hid ⟨_, h4⟩⟩, by rw [show ((k : Int) + 1) = ((k + 1 : Nat) : Int) from rfl, show ∀ z : Int, intOf (.int .i64 z) = z from fun _ => rfl, show ∀ z : Int, intOf (.int .i64 z) = z from fun _ => rfl]; omega⟩
    · obtain rfl : k = m.length := by omega
      clear hlt hk
      have HLE : Hid (∀ W', W' = formL (m.take m.length) → W'.length ≤ 2040) := Lw.hid (fun W' e => by rw [e, List.take_length]; exact HWL.out)
      obtain ⟨F, hF⟩ : ∃ F, formL (m.take m.length) = F := ⟨_, rfl⟩
      rw [hF] at HL
      have hF2 : formL m = F := by rw [← hF, List.take_length]
      rw [hF2] at HWL
      have HF := Lw.hid hF2
      have hwl := HWL.out
      clear hF hF2 HLE
      go_wp2_with fail
      refine (done_any _ _ vw F HL.out.wrt (by omega)).mono ?_
      rintro e w3 ⟨r, rfl, hp3⟩
      obtain ⟨vw3, h3, hr3, hf3⟩ := HL.out.done hp3
      obtain ⟨ad3, cap3, rfl, hcap3, hcm3, _⟩ := own_slice hr3
      have HRB : Hid (RdB w3 (.slice ad3 F.length cap3) F) := Lw.hid (Rd.own hr3)
      have HRL : Hid (∀ k, blk (.slice ad3 F.length cap3) k → k < w3.heap.size) := Lw.hid (fun k hk => own_lt hr3 k hk)
      have H3 := Lw.hid h3
      clear hp3 h3 hr3 hf3 HL
      go_wp2_with fail
      refine (new_any _ _ F HRB.out (by omega)).mono ?_
      rintro e w4 ⟨br, rv, rfl, hr4, hk4, hbr, _⟩
      have H4 : Hid (L2 w w4 w1.heap.size vw3 (.slice a m.length c) (.slice ad m.length cap) (.slice ad3 F.length cap3) F (endsL m m.length) m br rv (cutR m F.length 0)) := by
        refine ⟨H3.out.ext hk4, ?_, HRB.out.kept hk4 (fun _ _ h => h), ?_, fun h => ?_, fun h => ?_, fun h => ?_, fun _ h => ?_, ?_⟩
        · rw [cutR_zero, HF.out, List.take_length]; exact hr4
        · have := H3.out.wrt.lt; omega
        · have := H3.out.wrt.lt.2 br h; omega
        · have := own_lt H3.out.own br h; omega
        · have := own_lt H3.out.pcs br h; omega
        · have := HRL.out br h; omega
        · have := H3.out.below.size; omega
      clear hr4 hk4 hbr H3 HRB HRL
      go_wp2_with fail
      skip
      go_loopw [53] (fun i wq => ∃ k : Nat, k ≤ m.length ∧ i = .int .i64 k ∧ Hid (∃ rv, L2 w wq w1.heap.size vw3 (.slice a m.length c) (.slice ad m.length cap) (.slice ad3 F.length cap3) F (endsL m m.length) m br rv (cutR m F.length k))) (fun i _ => m.length - (intOf i).toNat)
      case atStart => exact ⟨0, Nat.zero_le _, rfl, Lw.hid ⟨_, H4.out⟩⟩
      case round =>
        obtain ⟨k, hk, rfl, HL0⟩ := hrel
        clear H4
        obtain ⟨rv2, hl0⟩ := HL0.out
        have HL := Lw.hid hl0
        clear hl0 HL0
        by_cases hlt : k < m.length
        · obtain ⟨g, off, rfl, c0, cj⟩ := (Rd.own HL.out.lg.pcs).elem (fun _ _ => rfl) (by decide) k hlt
          have c1 := cj 1 (by decide)
          have c2 := cj 2 (by decide)
          clear cj
          simp only [Piece.cells, List.getElem?_cons_zero, List.getElem?_cons_succ] at c0 c1 c2
          obtain ⟨hpo, hpt⟩ := HOK.out m[k] (List.getElem_mem hlt)
          have HST := Lw.hid (cutR_step m F.length k hlt HOK.out)
          have HFU : Hid (cutR m F.length (k + 1) = ⟨F.drop (formL (m.take (k + 1))).length, false⟩ ∧ (formL (m.take (k + 1))).length ≤ F.length) := Lw.hid (by rw [← HF.out]; exact ⟨cutR_full m _, formL_mono m _⟩)
          clear hpo
          go_wp2_with (refine (is_any _ br rv2 _ m[k] hpt (HL.out.ext (kept_alloc _ _)).rd).mono ?_)
          rintro e w5 ⟨rfl, hp5⟩
          obtain ⟨rv5, h5⟩ := (HL.out.ext (kept_alloc _ _)).read hp5
          rw [HST.out.1] at h5
          rw [HST.out.2 HFU.out.2]
          have H5 := Lw.hid h5
          clear hp5 h5 c0 c1 c2 HL HST
          rw [HFU.out.1] at H5
          go_wp2_with (refine (err_any _ br rv5 _ H5.out.rd).mono ?_)
          rw [← HFU.out.1] at H5
          exact ⟨⟨k + 1, hlt, rfl, Lw.hid ⟨_, H5.out⟩⟩, by rw [show ((k : Int) + 1) = ((k + 1 : Nat) : Int) from rfl, show ∀ z : Int, intOf (.int .i64 z) = z from fun _ => rfl, show ∀ z : Int, intOf (.int .i64 z) = z from fun _ => rfl]; omega⟩
        · obtain rfl : k = m.length := by omega
          clear hlt hk
          have HCR : Hid (cutR m F.length m.length = ⟨[], false⟩) := Lw.hid (by rw [← HF.out, cutR_full, List.take_length, List.drop_length])
          rw [HCR.out] at HL
          clear HCR
          go_wp2_with (refine (left_any _ br rv2 _ HL.out.rd).mono ?_)
          case isFalse h =>
            have h1 : cut % (F.length + 1) < F.length + 1 := Nat.mod_lt _ (by omega)
            have h2 : ((cut : Int) % ((F.length : Int) + 1)) = ((cut % (F.length + 1) : Nat) : Int) := rfl
            exact absurd (by rw [h2]; omega) h
          have hAT : cut % (F.length + 1) ≤ F.length := Nat.le_of_lt_succ (Nat.mod_lt _ (by omega))
          have hATe : ((cut : Int) % ((F.length : Int) + 1)) = ((cut % (F.length + 1) : Nat) : Int) := rfl
          rw [hATe]
          clear hATe
          generalize cut % (F.length + 1) = AT at *
          refine (new_any _ _ (F.take AT) (HL.out.bb.take AT hAT) (by rw [List.length_take]; omega)).mono ?_
          rintro e w5 ⟨bs, sv, rfl, hr5, hk5, hbs, _⟩
          have H5 : Hid (L2 w w5 w1.heap.size vw3 (.slice a m.length c) (.slice ad m.length cap) (.slice ad3 F.length cap3) F (endsL m m.length) m bs sv (cutR m AT 0)) := by
            refine ⟨HL.out.lg.ext hk5, ?_, HL.out.bb.kept hk5 (fun _ _ h => h), ?_, fun h => ?_, fun h => ?_, fun h => ?_, fun h0 h => ?_, ?_⟩
            · rw [cutR_zero, HF.out]; exact hr5
            · have := HL.out.lg.wrt.lt; omega
            · have := HL.out.lg.wrt.lt.2 bs h; omega
            · have := own_lt HL.out.lg.own bs h; omega
            · have := own_lt HL.out.lg.pcs bs h; omega
            · have := HL.out.bb.lt h0 bs h; omega
            · have := HL.out.lg.below.size; omega
          clear hr5 hk5 hbs HL
          go_wp2_with fail
          go_loopw [86] (fun i wq => ∃ k : Nat, k ≤ m.length ∧ i = .int .i64 k ∧ Hid (∃ rv, L2 w wq w1.heap.size vw3 (.slice a m.length c) (.slice ad m.length cap) (.slice ad3 F.length cap3) F (endsL m m.length) m bs rv (cutR m AT k))) (fun i _ => m.length - (intOf i).toNat)
          case atStart => exact ⟨0, Nat.zero_le _, rfl, Lw.hid ⟨_, H5.out⟩⟩
          case round =>
            obtain ⟨k, hk, rfl, HL0⟩ := hrel
            clear H5
            obtain ⟨rv6, hl0⟩ := HL0.out
            have HL := Lw.hid hl0
            clear hl0 HL0
            by_cases hlt : k < m.length
            · obtain ⟨g, off, rfl, c0, cj⟩ := (Rd.own HL.out.lg.pcs).elem (fun _ _ => rfl) (by decide) k hlt
              have c1 := cj 1 (by decide)
              have c2 := cj 2 (by decide)
              clear cj
              simp only [Piece.cells, List.getElem?_cons_zero, List.getElem?_cons_succ] at c0 c1 c2
              obtain ⟨hpo, hpt⟩ := HOK.out m[k] (List.getElem_mem hlt)
              have HST := Lw.hid (cutR_step m AT k hlt HOK.out)
              clear hpo
              go_wp2_with (refine (is_any _ bs rv6 _ m[k] hpt (HL.out.ext (kept_alloc _ _)).rd).mono ?_)
              rintro e w7 ⟨rfl, hp7⟩
              obtain ⟨rv7, h7⟩ := (HL.out.ext (kept_alloc _ _)).read hp7
              rw [HST.out.1] at h7
              have H7 := Lw.hid h7
              obtain ⟨hh, hhe⟩ : ∃ hh, (m[k].isL (cutR m AT k)).1 = hh := ⟨_, rfl⟩
              rw [hhe] at HST ⊢
              clear hp7 h7 c0 c1 c2 HL hhe
              have HEN : Hid (∃ ge, a = some ⟨ge, 0, none⟩ ∧ w7.cell? ⟨ge, k, none⟩ = some (.int .i64 ((formL (m.take (k + 1))).length : Int))) := Lw.hid (by
                have h := H7.out.lg.own
                rw [endsL_len] at h
                obtain ⟨a', c', hs, _, _, hp⟩ := own_slice h
                obtain ⟨ge, rfl⟩ := hp (by omega)
                injection hs with hs1 hs2 hs3
                subst hs1 hs3
                refine ⟨ge, rfl, own_cell h k _ ?_ (by omega)⟩
                simp [endsL, hlt])
              obtain ⟨ge, rfl, hce⟩ := HEN.out
              clear HEN
              have hcl : (formL (m.take (k + 1))).length ≤ F.length := by rw [← HF.out]; exact formL_mono m _
              by_cases hin : (formL (m.take (k + 1))).length ≤ AT
              · have hw : hh = true := HST.out.2 hin
                subst hw
                have HR : Hid (cutR m AT (k + 1) = ⟨(F.take AT).drop (formL (m.take (k + 1))).length, false⟩) := Lw.hid (by unfold cutR; rw [if_pos hin, HF.out])
                have H8 := H7
                rw [HR.out] at H8
                generalize (formL (m.take (k + 1))).length = EL at *
                have HQ : Hid (∀ n, Calls Tryd.prog 44 #[.pointer (some ⟨bs, 0, none⟩)] (w7.drewN n) fun e w'' => e = .returned (.int .i64 0) ∧ ∃ j, w'' = w7.drewN j) := Lw.hid (fun n => (err_any _ bs rv7 _ (H8.out.ext (kept_drewN _ n)).rd).mono (by rintro e _ ⟨rfl, rfl⟩; exact ⟨rfl, n, rfl⟩))
                go_wp2_with fail
                go_quiet (first | (go_at_call 44; exact HQ.out _))
                rename_i nq
                clear HQ
                go_wp2_with (refine (err_any _ bs rv7 _ (H8.out.ext (kept_drewN _ nq)).rd).mono ?_)
                exact ⟨⟨k + 1, hlt, rfl, Lw.hid ⟨_, H7.out.ext (kept_drewN _ nq)⟩⟩, by rw [show ((k : Int) + 1) = ((k + 1 : Nat) : Int) from rfl, show ∀ z : Int, intOf (.int .i64 z) = z from fun _ => rfl, show ∀ z : Int, intOf (.int .i64 z) = z from fun _ => rfl]; omega⟩
              · have HR : Hid (cutR m AT (k + 1) = ⟨[], true⟩) := Lw.hid (by unfold cutR; rw [if_neg hin])
                have H8 := H7
                rw [HR.out] at H8
                clear HST
                generalize (formL (m.take (k + 1))).length = EL at *
                have HQ : Hid (∀ n, Calls Tryd.prog 44 #[.pointer (some ⟨bs, 0, none⟩)] (w7.drewN n) fun e w'' => e = .returned (.int .i64 4) ∧ ∃ j, w'' = w7.drewN j) := Lw.hid (fun n => (err_any _ bs rv7 _ (H8.out.ext (kept_drewN _ n)).rd).mono (by rintro e _ ⟨rfl, rfl⟩; exact ⟨rfl, n, rfl⟩))
                go_wp2_with fail
                go_quiet (first | (go_at_call 44; exact HQ.out _))
                rename_i nq
                clear HQ
                go_wp2_with (first | (go_at_call 44; refine (err_any _ bs rv7 _ (H8.out.ext (kept_drewN _ nq)).rd).mono ?_) | (go_at_call 43; refine (left_any _ bs rv7 _ (H8.out.ext (kept_drewN _ nq)).rd).mono ?_))
                refine (rbyte_any _ bs rv7 _ (H8.out.ext (kept_drewN _ nq)).rd).mono ?_
                rintro e w8 ⟨rfl, hp8⟩
                obtain ⟨rv8, h8⟩ := (H8.out.ext (kept_drewN _ nq)).read hp8
                rw [num_dead] at h8 ⊢
                have H9 := Lw.hid h8
                clear hp8 h8 H7 H8
                go_wp2_with fail
                refine (rtext_any _ bs rv8 _ H9.out.rd).mono ?_
                rintro e w9 ⟨rfl, hp9⟩
                obtain ⟨rv9, h9⟩ := H9.out.read hp9
                rw [text_dead] at h9 ⊢
                have H10 := Lw.hid h9
                clear hp9 h9 H9
                go_wp2_with fail
                refine (take_any _ bs rv9 _ 0 0 rfl (by decide) H10.out.rd).mono ?_
                rintro e w10 ⟨out, rfl, ho, hp10, _⟩
                obtain ⟨rv10, h10⟩ := H10.out.read hp10
                rw [take_dead] at h10 ho
                obtain ⟨oa, oc, rfl, _⟩ := ho.open
                rw [← HR.out] at h10
                have H11 := Lw.hid h10
                clear hp10 h10 H10 ho
                go_wp2_with fail
                exact ⟨⟨k + 1, hlt, rfl, Lw.hid ⟨_, H11.out⟩⟩, by rw [show ((k : Int) + 1) = ((k + 1 : Nat) : Int) from rfl, show ∀ z : Int, intOf (.int .i64 z) = z from fun _ => rfl, show ∀ z : Int, intOf (.int .i64 z) = z from fun _ => rfl]; omega⟩
            · obtain rfl : k = m.length := by omega
              clear hlt hk
              go_wp2_with fail
              refine (wakes_any _ (HT.out.below HL.out.lg.below)).mono ?_
              rintro e w7 ⟨rfl, hb7⟩
              have hbb := Lw.hid (HL.out.lg.below.trans (hb7.mono HL.out.lg.below.size))
              go_wp2_with fail
              go_ret
              exact ⟨rfl, hbb.out⟩
end Go.Proofs.YtcmipliglcakdaaDoor
