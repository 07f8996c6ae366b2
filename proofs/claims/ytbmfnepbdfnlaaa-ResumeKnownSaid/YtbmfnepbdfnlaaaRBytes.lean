/- Chapter 13: a form's bytes; the program's. -/
import Derived.Test.YtbmfnepbdfnlaaaLaw13
import Derived.Test.YtbmfnepbdfnlaaaWGo
namespace Go.Proofs.Ytbmfnepbdfnlaaa
open Go Go.RowKit Go.Lw
set_option maxRecDepth 100000
set_option linter.unusedVariables false
set_option linter.unusedSimpArgs false
def stN (b : Bool) : Nat := if b then 1 else 0
def Hv.enc (h : Hv) : List UInt8 := be 4 h.id ++ (be 4 h.out ++ (be 4 h.er ++ [lo (stN h.st)]))
def askB (nx : Nat) (l : List Hv) : List UInt8 := be 4 nx ++ (lo l.length :: l.flatMap Hv.enc)
theorem Hv.enc_len (h : Hv) : h.enc.length = 13 := by simp [Hv.enc, be_length]
theorem encs_len (l : List Hv) : (l.flatMap Hv.enc).length = 13 * l.length := by
  induction l with
  | nil => rfl
  | cons h t ih => rw [List.flatMap_cons, List.length_append, ih, Hv.enc_len, List.length_cons]; omega
theorem askB_len (nx : Nat) (l : List Hv) : (askB nx l).length = 5 + 13 * l.length := by
  unfold askB; rw [List.length_append, List.length_cons, be_length, encs_len]; omega
/-- A writer of the call's own beside the argument's box. -/
structure BB (w : World) (T : TypeId) (nx m cap : Nat) (ad : Option Addr) (bw : Nat) (v : Value) (L : List UInt8) (wr : World) : Prop where
  k : Kept (fun _ => False) w wr
  box : wr.heap[w.heap.size]? = some (.cells #[u32v nx, .slice ad m cap] T (0, 0))
  wr : WriterAt wr bw v L 0
  lo : w.heap.size < bw
  fr : ∀ g, blk v g → w.heap.size < g
theorem BB.step {w wr w' : World} {T : TypeId} {nx m cap : Nat} {ad : Option Addr} {bw : Nat} {v : Value} {L L' : List UInt8} (h : BB w T nx m cap ad bw v L wr) (hp : WrPost wr w' bw v L' 0) : ∃ v', BB w T nx m cap ad bw v' L' w' := by
  obtain ⟨v', h1, h2, h3⟩ := hp
  have hS : ∀ i, (i = bw ∨ blk v i) → w.heap.size < i := fun i hi => by
    rcases hi with h4 | h4
    · have := h.lo; omega
    · exact h.fr i h4
  refine ⟨v', h.k.trans h2 (fun i hi e => by have := hS i e; omega), h2.heap h.box (fun e => by have := hS _ e; omega), h1, h.lo, fun g hg => ?_⟩
  rcases h3 g hg with h4 | h4
  · exact h.fr g h4
  · have := (Array.getElem?_eq_some_iff.1 h.box).1; omega
theorem BB.alloc {w wr : World} {T : TypeId} {nx m cap : Nat} {ad : Option Addr} {bw : Nat} {v : Value} {L : List UInt8} (h : BB w T nx m cap ad bw v L wr) (o : Obj) : BB w T nx m cap ad bw v L (wr.alloc o) :=
  ⟨h.k.alloc o, heap_alloc_lt h.box, h.wr.alloc o, h.lo, h.fr⟩
theorem BB.kept {w wr w' : World} {T : TypeId} {nx m cap : Nat} {ad : Option Addr} {bw : Nat} {v : Value} {L : List UInt8} (h : BB w T nx m cap ad bw v L wr) (k : Kept (fun _ => False) wr w') : BB w T nx m cap ad bw v L w' :=
  ⟨h.k.trans k (fun _ _ h => h), k.heap h.box (fun h => h), h.wr.kept k (fun h => h) (fun _ _ h => h), h.lo, h.fr⟩
theorem BB.cells {w wr : World} {T : TypeId} {nx m cap : Nat} {ad : Option Addr} {bw : Nat} {v : Value} {L : List UInt8} (h : BB w T nx m cap ad bw v L wr) : wr.cell? ⟨w.heap.size, 0, none⟩ = some (u32v nx) ∧ wr.cell? ⟨w.heap.size, 1, none⟩ = some (.slice ad m cap) := ⟨heap_cell h.box 0, heap_cell h.box 1⟩
/-- .. and a box beside, of a row's element. -/
structure BD (w : World) (T : TypeId) (nx m cap : Nat) (ad : Option Addr) (hb : Nat) (o : Obj) (bw : Nat) (v : Value) (L : List UInt8) (wr : World) : Prop where
  b : BB w T nx m cap ad bw v L wr
  x : wr.heap[hb]? = some o
  n : hb ≠ bw
  d : ¬ blk v hb
theorem BD.step {w wr w' : World} {T : TypeId} {nx m cap : Nat} {ad : Option Addr} {hb : Nat} {o : Obj} {bw : Nat} {v : Value} {L L' : List UInt8} (h : BD w T nx m cap ad hb o bw v L wr) (hp : WrPost wr w' bw v L' 0) : ∃ v', BD w T nx m cap ad hb o bw v' L' w' := by
  have hp' := hp
  obtain ⟨v', h1, h2, h3⟩ := hp'
  have hS : ∀ i, (i = bw ∨ blk v i) → w.heap.size < i := fun i hi => by
    rcases hi with h4 | h4
    · have := h.b.lo; omega
    · exact h.b.fr i h4
  refine ⟨v', ⟨h.b.k.trans h2 (fun i hi e => by have := hS i e; omega), h2.heap h.b.box (fun e => by have := hS _ e; omega), h1, h.b.lo, fun g hg => ?_⟩, h2.heap h.x (fun e => by rcases e with e | e; exact h.n e; exact h.d e), h.n, fun e => ?_⟩
  · rcases h3 g hg with h4 | h4
    · exact h.b.fr g h4
    · have := (Array.getElem?_eq_some_iff.1 h.b.box).1; omega
  · rcases h3 _ e with h4 | h4
    · exact h.d h4
    · have := (Array.getElem?_eq_some_iff.1 h.x).1; omega
theorem BD.kept {w wr w' : World} {T : TypeId} {nx m cap : Nat} {ad : Option Addr} {hb : Nat} {o : Obj} {bw : Nat} {v : Value} {L : List UInt8} (h : BD w T nx m cap ad hb o bw v L wr) (k : Kept (fun _ => False) wr w') : BD w T nx m cap ad hb o bw v L w' := ⟨h.b.kept k, k.heap h.x (fun h => h), h.n, h.d⟩
def nthL (l : List (List UInt8)) (s : Nat) : List UInt8 := l.getD s []
def bytesF (nx : Nat) (l : List Hv) : List UInt8 × Nat := if mayF nx l = true then (askB nx l, 0) else ([], 1)
def BtPost (w : World) (L : List UInt8) (er : Nat) (x : Ending) (w' : World) : Prop := ∃ r, x = .returned (.tuple #[r, .int .i64 (er : Int)]) ∧ RdB w' r L ∧ ((∀ k, blk r k → w.heap.size ≤ k ∧ k < w'.heap.size) ∧ w'.ownsRow 0 5 1 r L.length (L.map bv)) ∧ Kept (fun _ => False) w w'
theorem bt_of {w wr w' : World} {T : TypeId} {nx m cap : Nat} {ad : Option Addr} {bw : Nat} {v r : Value} {L : List UInt8} (h : BB w T nx m cap ad bw v L wr) (hd : DnPost wr w' bw v r L) : BtPost w L 0 (.returned (.tuple #[r, .int .i64 0])) w' := by
  obtain ⟨v', _, h2, h3, h4, h5⟩ := hd
  have hS : ∀ i, (i = bw ∨ blk v i) → w.heap.size < i := fun i hi => by
    rcases hi with h4 | h4
    · have := h.lo; omega
    · exact h.fr i h4
  exact ⟨r, rfl, RdB.of_own h4 rfl, ⟨fun k hk => ⟨Nat.le_trans h.k.size (h5 k hk).1, own_lt h4 k hk⟩, h4⟩, h.k.trans h2 (fun i hi e => by have := hS i e; omega)⟩
set_option maxHeartbeats 8000000 in
theorem bytes_any (w : World) (nx : Nat) (v : Value) (l : List Hv) (hl : RdH w v l) (hnx : nx < 4294967296) (hl9 : l.length ≤ 1000000) :
    Calls Try.prog 27 #[askV nx v] w (BtPost w (bytesF nx l).1 (bytesF nx l).2) := by
  obtain ⟨ad, cap, rfl, h1, h2, _⟩ := hl.shape
  have HL := Lw.hid hl
  obtain ⟨m, hm⟩ : ∃ m, l.length = m := ⟨_, rfl⟩
  have HM := Lw.hid hm
  obtain ⟨r1, hr1⟩ : ∃ r1, (bytesF nx l).1 = r1 := ⟨_, rfl⟩
  obtain ⟨r2, hr2⟩ : ∃ r2, (bytesF nx l).2 = r2 := ⟨_, rfl⟩
  rw [hr1, hr2]
  have HB0 : Hid (mayF nx l = false → r1 = [] ∧ r2 = 1) := Lw.hid (fun h => by rw [← hr1, ← hr2]; unfold bytesF; rw [if_neg (by rw [h]; simp)]; exact ⟨rfl, rfl⟩)
  have HB1 : Hid (mayF nx l = true → r1 = askB nx l ∧ r2 = 0 ∧ m ≤ 16) := Lw.hid (fun h => ⟨by rw [← hr1]; unfold bytesF; rw [if_pos h], by rw [← hr2]; unfold bytesF; rw [if_pos h], by rw [← hm]; exact (mayF_parts h).2.2⟩)
  rw [hm] at h1 hl9 HL ⊢
  have HS := Lw.hid (heap_at w (.cells #[u32v nx, .slice ad m cap] 26) rfl)
  clear hl hm hr1 hr2
  go_enter Try.func27, Try.ntmps27
  go_wp2_with fail
  refine (may_any _ _ l (HL.out.keptF ((Kept.refl _ w).alloc _)) nx hnx (by rw [HM.out]; exact hl9)).mono ?_
  rintro x w1 ⟨rfl, k1⟩
  have hb1 := k1.heap HS.out (fun h => h)
  have HK1 : Hid (Kept (fun _ => False) w w1) := Lw.hid (((Kept.refl _ w).alloc _).trans k1 (fun _ _ h => h))
  clear k1 HS
  cases hmay : mayF nx l with
  | false =>
    obtain ⟨hx1, hx2⟩ := HB0.out hmay
    have HX1 := Lw.hid hx1; have HX2 := Lw.hid hx2
    clear hmay hx1 hx2 hb1
    go_wp2_with fail
    go_ret2
    exact ⟨.slice none 0 0, by rw [HX2.out]; rfl, by rw [HX1.out]; exact RdB.nil _, ⟨fun k hk => (blk_none hk).elim, by rw [HX1.out]; exact World.ownsRow_nil _ _ _ _⟩, HK1.out⟩
  | true =>
    obtain ⟨hx1, hx2, hm16⟩ := HB1.out hmay
    have HX1 := Lw.hid hx1; have HX2 := Lw.hid hx2
    have HBB : Hid (BB w 26 nx m cap ad w1.heap.size (.slice none 0 0) [] (w1.alloc (.cells #[.slice none 0 0, .int .i64 0] 85))) := Lw.hid
      ⟨HK1.out.alloc _, heap_alloc_lt hb1, ⟨⟨_, heap_at _ _ rfl⟩, World.ownsRow_nil _ _ _ _, fun h => blk_none h⟩, (Array.getElem?_eq_some_iff.1 hb1).1, fun g h => (blk_none h).elim⟩
    obtain ⟨wb, hwb⟩ : ∃ wb, w1.alloc (.cells #[.slice none 0 0, .int .i64 0] 85) = wb := ⟨_, rfl⟩
    obtain ⟨bw, hbw⟩ : ∃ bw, w1.heap.size = bw := ⟨_, rfl⟩
    rw [hwb, hbw] at HBB
    have HWB := Lw.hid hwb; have HBW := Lw.hid hbw
    clear hmay hx1 hx2 hb1 hwb hbw
    go_upto_region 4 with fail
    rw [HWB.out, HBW.out]
    have hwr : IntKind.u8.wrap (m : Int) = (m : Int) := by simp [IntKind.wrap, IntKind.bits, IntKind.signed]; omega
    refine wp_region_chain 9 [2, 8] (fun s w' => ∃ v, BB w 26 nx m cap ad bw v (nthL [[], be 4 nx, be 4 nx ++ [lo m]] s) w') (WGo bw) [rV (.pointer (some ⟨w.heap.size, 0, none⟩)), rV (u32v nx), rV (.pointer (some ⟨bw, 0, none⟩)), rV (.pointer (some ⟨w.heap.size, 1, none⟩)), rV (.slice ad m cap), rV (.int .i64 (m : Int)), rV (.int .u8 (m : Int)), rB bw [lo m], rV (.pointer (some ⟨bw, 0, none⟩))] (by kernel_rfl) (by kernel_rfl) ?_ ?_ ?_
    case refine_1 => exact ⟨_, HBB.out.kept ((Kept.refl _ _).drew)⟩
    case refine_2 =>
      refine csteps_free (by decide) (fun s a' w' hI hag hf K hK => ?_) ?_
      · have s1 := hag.same 1 (by decide)
        clear hag
        go_wp2_with fail
        exact hK _ _ hI (WGo.refl _ _) rfl
      refine csteps_free (by decide) (fun s a' w' hI hag hf K hK => ?_) ?_
      · obtain ⟨⟨_, h0, rfl⟩, -⟩ : SFacts _ _ a' w' [0] := hf
        clear hag
        obtain ⟨vv, hh⟩ := hI
        obtain ⟨c0, c1⟩ := hh.cells
        have HH := Lw.hid hh
        clear hh
        go_wp2_with fail
        exact hK _ _ ⟨vv, HH.out⟩ (WGo.refl _ _) rfl
      refine csteps_hit 0 rfl (fun a' w' hI hag hf K hK => ?_) ?_
      · obtain ⟨⟨_, h1, rfl⟩, -⟩ : SFacts _ _ a' w' [1] := hf
        have s4 := hag.same 4 (by decide)
        clear hag
        obtain ⟨vv, hh⟩ := hI
        have HH : Hid (BB w 26 nx m cap ad bw vv [] w') := Lw.hid hh
        clear hh
        go_wp2_with fail
        refine (four_any w' bw vv [] _ nx rfl hnx HH.out.wr (by decide)).mono ?_
        rintro e w4 ⟨rfl, hp⟩
        obtain ⟨v', h'⟩ := HH.out.step hp
        have HN := Lw.hid h'; have HG := Lw.hid (WGo.of_post HH.out.wr hp)
        clear h' hp
        go_wp2_with fail
        exact hK _ _ ⟨v', HN.out⟩ HG.out rfl
      refine csteps_free (by decide) (fun s a' w' hI hag hf K hK => ?_) ?_
      · have s1 := hag.same 1 (by decide)
        clear hag
        go_wp2_with fail
        exact hK _ _ hI (WGo.refl _ _) rfl
      refine csteps_free (by decide) (fun s a' w' hI hag hf K hK => ?_) ?_
      · obtain ⟨⟨_, h3, rfl⟩, -⟩ : SFacts _ _ a' w' [3] := hf
        clear hag
        obtain ⟨vv, hh⟩ := hI
        obtain ⟨c0, c1⟩ := hh.cells
        have HH := Lw.hid hh
        clear hh
        go_wp2_with fail
        exact hK _ _ ⟨vv, HH.out⟩ (WGo.refl _ _) rfl
      refine csteps_free (by decide) (fun s a' w' hI hag hf K hK => ?_) ?_
      · obtain ⟨⟨_, h4, rfl⟩, -⟩ : SFacts _ _ a' w' [4] := hf
        clear hag
        go_wp2_with fail
        exact hK _ _ hI (WGo.refl _ _) rfl
      refine csteps_free (by decide) (fun s a' w' hI hag hf K hK => ?_) ?_
      · obtain ⟨⟨_, h5, rfl⟩, -⟩ : SFacts _ _ a' w' [5] := hf
        clear hag
        go_wp2_with fail
        exact hK _ _ hI (WGo.refl _ _) rfl
      refine csteps_free (by decide) (fun s a' w' hI hag hf K hK => ?_) ?_
      · obtain ⟨⟨_, h6, rfl⟩, -⟩ : SFacts _ _ a' w' [6] := hf
        clear hag
        obtain ⟨vv, hh⟩ := hI
        have HH := Lw.hid hh
        clear hh
        go_wp2_with fail
        exact hK _ _ ⟨vv, HH.out.alloc _⟩ (WGo.of_kept HH.out.wr.lt ((Kept.refl _ w').alloc _)) (byte_made HH.out.wr _ m rfl (by omega))
      refine csteps_hit 1 rfl (fun a' w' hI hag hf K hK => ?_) ?_
      · obtain ⟨⟨_, h2, rfl⟩, ⟨v7, h7, e7⟩, -⟩ : SFacts _ _ a' w' [2, 7] := hf
        clear hag
        have E7 : Hid (RdB w' v7 [lo m]) := Lw.hid e7.1
        clear e7
        obtain ⟨vv, hh⟩ := hI
        have HH : Hid (BB w 26 nx m cap ad bw vv (be 4 nx) w') := Lw.hid hh
        clear hh
        go_wp2_with fail
        refine (byte_any w' bw vv (be 4 nx) _ [lo m] HH.out.wr E7.out (by simp [be_length])).mono ?_
        rintro e w4 ⟨rfl, hp⟩
        obtain ⟨v', h'⟩ := HH.out.step hp
        have HN := Lw.hid h'; have HG := Lw.hid (WGo.of_post HH.out.wr hp)
        clear h' hp
        go_wp2_with fail
        exact hK _ _ ⟨v', HN.out⟩ HG.out rfl
      exact trivial
    case refine_3 =>
      intro vs w3 hI hvs
      have q0 : vs 0 = (.pointer (some ⟨w.heap.size, 0, none⟩)) := hvs 0 _ _ rfl rfl
      have q1 : vs 1 = (u32v nx) := hvs 1 _ _ rfl rfl
      have q2 : vs 2 = (.pointer (some ⟨bw, 0, none⟩)) := hvs 2 _ _ rfl rfl
      have q3 : vs 3 = (.pointer (some ⟨w.heap.size, 1, none⟩)) := hvs 3 _ _ rfl rfl
      have q4 : vs 4 = (.slice ad m cap) := hvs 4 _ _ rfl rfl
      have q5 : vs 5 = (.int .i64 (m : Int)) := hvs 5 _ _ rfl rfl
      have q6 : vs 6 = (.int .u8 (m : Int)) := hvs 6 _ _ rfl rfl
      have q7 := hvs 7 _ _ rfl rfl
      have q8 : vs 8 = (.pointer (some ⟨bw, 0, none⟩)) := hvs 8 _ _ rfl rfl
      clear hvs
      simp only [List.take_succ_cons, List.take_zero, List.drop_succ_cons, List.drop_zero, putAll, Act.put, List.setIfInBounds_toArray, List.set_cons_zero, List.set_cons_succ, Nat.reduceAdd, q0, q1, q2, q3, q4, q5, q6, q8]
      clear q0 q1 q2 q3 q4 q5 q6 q8
      generalize vs 7 = x7 at *
      obtain ⟨v3, h3⟩ := hI
      have H4 : Hid (BB w 26 nx m cap ad bw v3 (be 4 nx ++ [lo m]) w3) := Lw.hid h3
      clear h3 q7
      obtain ⟨g0, g1⟩ := H4.out.cells
      go_wp2_with fail
      go_loopg [23] m (fun gk i wr => ∃ (k : Nat) (v : Value), gk = m - k ∧ k ≤ m ∧ i = .int .i64 k ∧ BB w 26 nx m cap ad bw v (be 4 nx ++ (lo m :: (l.take k).flatMap Hv.enc)) wr)
      case atStart => exact ⟨0, v3, rfl, Nat.zero_le _, rfl, H4.out⟩
      case round =>
        obtain ⟨k, v, rfl, hk, rfl, hr⟩ := hrel
        have HR := Lw.hid hr
        clear hr g0 g1
        by_cases hlt : k < m
        · have hlt' : k < l.length := by rw [HM.out]; exact hlt
          obtain ⟨g, off, rfl, q0, q1, q2, q3⟩ := hv_at (HL.out.keptF HR.out.k) hlt'
          have HT := Lw.hid (take_snoc l k hlt')
          have hok := HL.out.2 l[k] (List.getElem_mem hlt')
          obtain ⟨t, ht⟩ : ∃ t, l[k] = t := ⟨_, rfl⟩
          rw [ht] at q0 q1 q2 q3 HT hok
          obtain ⟨tid, tout, ter, tst⟩ := t
          obtain ⟨o1, o2, o3⟩ := hok
          dsimp only at q0 q1 q2 q3 o1 o2 o3
          obtain ⟨LL, hLL⟩ : ∃ LL, be 4 nx ++ (lo m :: (l.take k).flatMap Hv.enc) = LL := ⟨_, rfl⟩
          have HLL : Hid (LL.length ≤ 1000) := Lw.hid (by rw [← hLL, List.length_append, List.length_cons, be_length, encs_len, List.length_take]; omega)
          have HLN : Hid (∀ b, stN tst = b → be 4 nx ++ (lo m :: (l.take (k + 1)).flatMap Hv.enc) = LL ++ be 4 tid ++ be 4 tout ++ be 4 ter ++ [lo b]) := Lw.hid (fun b hb => by rw [HT.out, ← hLL, ← hb]; simp [Hv.enc])
          rw [hLL] at HR
          clear ht hLL HT
          have HD0 : Hid (BD w 26 nx m cap (some ⟨g, off, none⟩) wr.heap.size (.cells #[u32v tid, u32v tout, u32v ter, .bool tst] 35 (0, 0)) bw v LL (wr.alloc (.cells #[.int .u32 (tid : Int), .int .u32 (tout : Int), .int .u32 (ter : Int), .bool tst] 35))) := Lw.hid
            ⟨HR.out.alloc _, heap_at _ _ rfl, fun e => by have := HR.out.wr.lt; omega, fun e => by have := own_lt HR.out.wr.2.1 _ e; omega⟩
          obtain ⟨wy, hwy⟩ : ∃ wy, wr.alloc (.cells #[.int .u32 (tid : Int), .int .u32 (tout : Int), .int .u32 (ter : Int), .bool tst] 35) = wy := ⟨_, rfl⟩
          obtain ⟨hb, hhb⟩ : ∃ hb, wr.heap.size = hb := ⟨_, rfl⟩
          rw [hwy, hhb] at HD0
          have HWY := Lw.hid hwy; have HHB := Lw.hid hhb
          clear hwy hhb
          cases tst
          · have HST := Lw.hid (HLN.out 0 rfl)
            clear HLN
            go_upto_region 11 with fail
            rw [HWY.out, HHB.out]
            refine wp_region_chain 12 [2, 5, 8, 11] (fun s w' => ∃ v, BD w 26 nx m cap (some ⟨g, off, none⟩) hb (.cells #[u32v tid, u32v tout, u32v ter, .bool false] 35 (0, 0)) bw v (nthL [LL, LL ++ be 4 tid, LL ++ be 4 tid ++ be 4 tout, LL ++ be 4 tid ++ be 4 tout ++ be 4 ter, LL ++ be 4 tid ++ be 4 tout ++ be 4 ter ++ [lo 0]] s) w') (WGo bw) [rV (.pointer (some ⟨hb, 0, none⟩)), rV (u32v tid), rV (.pointer (some ⟨bw, 0, none⟩)), rV (.pointer (some ⟨hb, 1, none⟩)), rV (u32v tout), rV (.pointer (some ⟨bw, 0, none⟩)), rV (.pointer (some ⟨hb, 2, none⟩)), rV (u32v ter), rV (.pointer (some ⟨bw, 0, none⟩)), rV (.int .u8 0), rB bw [lo 0], rV (.pointer (some ⟨bw, 0, none⟩))] (by kernel_rfl) (by kernel_rfl) ?_ ?_ ?_
            case refine_1 => exact ⟨_, HD0.out.kept ((Kept.refl _ _).drew)⟩
            case refine_2 =>
              refine csteps_free (by decide) (fun s a' w' hI hag hf K hK => ?_) ?_
              · have s6 := hag.same 6 (by decide)
                clear hag
                go_wp2_with fail
                exact hK _ _ hI (WGo.refl _ _) rfl
              refine csteps_free (by decide) (fun s a' w' hI hag hf K hK => ?_) ?_
              · obtain ⟨⟨_, h0, rfl⟩, -⟩ : SFacts _ _ a' w' [0] := hf
                clear hag
                obtain ⟨vv, hh⟩ := hI
                have c0 := heap_cell hh.x 0; have c1 := heap_cell hh.x 1; have c2 := heap_cell hh.x 2
                have HH := Lw.hid hh
                clear hh
                go_wp2_with fail
                exact hK _ _ ⟨vv, HH.out⟩ (WGo.refl _ _) rfl
              refine csteps_hit 0 rfl (fun a' w' hI hag hf K hK => ?_) ?_
              · obtain ⟨⟨_, h1, rfl⟩, -⟩ : SFacts _ _ a' w' [1] := hf
                have s4 := hag.same 4 (by decide)
                clear hag
                obtain ⟨vv, hh⟩ := hI
                have HH : Hid (BD w 26 nx m cap (some ⟨g, off, none⟩) hb (.cells #[u32v tid, u32v tout, u32v ter, .bool false] 35 (0, 0)) bw vv (LL) w') := Lw.hid hh
                clear hh
                go_wp2_with fail
                refine (four_any w' bw vv (LL) _ tid rfl o1 HH.out.b.wr (by have := HLL.out; (try simp only [List.length_append, be_length]); omega)).mono ?_
                rintro e w4 ⟨rfl, hp⟩
                obtain ⟨v', h'⟩ := HH.out.step hp
                have HN := Lw.hid h'; have HG := Lw.hid (WGo.of_post HH.out.b.wr hp)
                clear h' hp
                go_wp2_with fail
                exact hK _ _ ⟨v', HN.out⟩ HG.out rfl
              refine csteps_free (by decide) (fun s a' w' hI hag hf K hK => ?_) ?_
              · have s6 := hag.same 6 (by decide)
                clear hag
                go_wp2_with fail
                exact hK _ _ hI (WGo.refl _ _) rfl
              refine csteps_free (by decide) (fun s a' w' hI hag hf K hK => ?_) ?_
              · obtain ⟨⟨_, h3, rfl⟩, -⟩ : SFacts _ _ a' w' [3] := hf
                clear hag
                obtain ⟨vv, hh⟩ := hI
                have c0 := heap_cell hh.x 0; have c1 := heap_cell hh.x 1; have c2 := heap_cell hh.x 2
                have HH := Lw.hid hh
                clear hh
                go_wp2_with fail
                exact hK _ _ ⟨vv, HH.out⟩ (WGo.refl _ _) rfl
              refine csteps_hit 1 rfl (fun a' w' hI hag hf K hK => ?_) ?_
              · obtain ⟨⟨_, h2, rfl⟩, ⟨_, h4, rfl⟩, -⟩ : SFacts _ _ a' w' [2, 4] := hf
                clear hag
                obtain ⟨vv, hh⟩ := hI
                have HH : Hid (BD w 26 nx m cap (some ⟨g, off, none⟩) hb (.cells #[u32v tid, u32v tout, u32v ter, .bool false] 35 (0, 0)) bw vv (LL ++ be 4 tid) w') := Lw.hid hh
                clear hh
                go_wp2_with fail
                refine (four_any w' bw vv (LL ++ be 4 tid) _ tout rfl o2 HH.out.b.wr (by have := HLL.out; (try simp only [List.length_append, be_length]); omega)).mono ?_
                rintro e w4 ⟨rfl, hp⟩
                obtain ⟨v', h'⟩ := HH.out.step hp
                have HN := Lw.hid h'; have HG := Lw.hid (WGo.of_post HH.out.b.wr hp)
                clear h' hp
                go_wp2_with fail
                exact hK _ _ ⟨v', HN.out⟩ HG.out rfl
              refine csteps_free (by decide) (fun s a' w' hI hag hf K hK => ?_) ?_
              · have s6 := hag.same 6 (by decide)
                clear hag
                go_wp2_with fail
                exact hK _ _ hI (WGo.refl _ _) rfl
              refine csteps_free (by decide) (fun s a' w' hI hag hf K hK => ?_) ?_
              · obtain ⟨⟨_, h6, rfl⟩, -⟩ : SFacts _ _ a' w' [6] := hf
                clear hag
                obtain ⟨vv, hh⟩ := hI
                have c0 := heap_cell hh.x 0; have c1 := heap_cell hh.x 1; have c2 := heap_cell hh.x 2
                have HH := Lw.hid hh
                clear hh
                go_wp2_with fail
                exact hK _ _ ⟨vv, HH.out⟩ (WGo.refl _ _) rfl
              refine csteps_hit 2 rfl (fun a' w' hI hag hf K hK => ?_) ?_
              · obtain ⟨⟨_, h5, rfl⟩, ⟨_, h7, rfl⟩, -⟩ : SFacts _ _ a' w' [5, 7] := hf
                clear hag
                obtain ⟨vv, hh⟩ := hI
                have HH : Hid (BD w 26 nx m cap (some ⟨g, off, none⟩) hb (.cells #[u32v tid, u32v tout, u32v ter, .bool false] 35 (0, 0)) bw vv (LL ++ be 4 tid ++ be 4 tout) w') := Lw.hid hh
                clear hh
                go_wp2_with fail
                refine (four_any w' bw vv (LL ++ be 4 tid ++ be 4 tout) _ ter rfl o3 HH.out.b.wr (by have := HLL.out; (try simp only [List.length_append, be_length]); omega)).mono ?_
                rintro e w4 ⟨rfl, hp⟩
                obtain ⟨v', h'⟩ := HH.out.step hp
                have HN := Lw.hid h'; have HG := Lw.hid (WGo.of_post HH.out.b.wr hp)
                clear h' hp
                go_wp2_with fail
                exact hK _ _ ⟨v', HN.out⟩ HG.out rfl
              refine csteps_free (by decide) (fun s a' w' hI hag hf K hK => ?_) ?_
              · have s7 := hag.same 7 (by decide)
                clear hag
                go_wp2_with fail
                exact hK _ _ hI (WGo.refl _ _) rfl
              refine csteps_free (by decide) (fun s a' w' hI hag hf K hK => ?_) ?_
              · obtain ⟨⟨_, h9, rfl⟩, -⟩ : SFacts _ _ a' w' [9] := hf
                clear hag
                obtain ⟨vv, hh⟩ := hI
                have HH := Lw.hid hh
                clear hh
                go_wp2_with fail
                exact hK _ _ ⟨vv, HH.out.kept ((Kept.refl _ w').alloc _)⟩ (WGo.of_kept HH.out.b.wr.lt ((Kept.refl _ w').alloc _)) (byte_made HH.out.b.wr _ 0 rfl (by decide))
              refine csteps_hit 3 rfl (fun a' w' hI hag hf K hK => ?_) ?_
              · obtain ⟨⟨_, h8, rfl⟩, ⟨v10, h10, e10⟩, -⟩ : SFacts _ _ a' w' [8, 10] := hf
                clear hag
                have E10 : Hid (RdB w' v10 [lo 0]) := Lw.hid e10.1
                clear e10
                obtain ⟨vv, hh⟩ := hI
                have HH : Hid (BD w 26 nx m cap (some ⟨g, off, none⟩) hb (.cells #[u32v tid, u32v tout, u32v ter, .bool false] 35 (0, 0)) bw vv (LL ++ be 4 tid ++ be 4 tout ++ be 4 ter) w') := Lw.hid hh
                clear hh
                go_wp2_with fail
                refine (byte_any w' bw vv (LL ++ be 4 tid ++ be 4 tout ++ be 4 ter) _ [lo 0] HH.out.b.wr E10.out (by have := HLL.out; simp only [List.length_append, be_length, List.length_cons, List.length_nil]; omega)).mono ?_
                rintro e w4 ⟨rfl, hp⟩
                obtain ⟨v', h'⟩ := HH.out.step hp
                have HN := Lw.hid h'; have HG := Lw.hid (WGo.of_post HH.out.b.wr hp)
                clear h' hp
                go_wp2_with fail
                exact hK _ _ ⟨v', HN.out⟩ HG.out rfl
              exact trivial
            case refine_3 =>
              intro vs w5 hI hvs
              have q0 : vs 0 = (.pointer (some ⟨hb, 0, none⟩)) := hvs 0 _ _ rfl rfl
              have q1 : vs 1 = (u32v tid) := hvs 1 _ _ rfl rfl
              have q2 : vs 2 = (.pointer (some ⟨bw, 0, none⟩)) := hvs 2 _ _ rfl rfl
              have q3 : vs 3 = (.pointer (some ⟨hb, 1, none⟩)) := hvs 3 _ _ rfl rfl
              have q4 : vs 4 = (u32v tout) := hvs 4 _ _ rfl rfl
              have q5 : vs 5 = (.pointer (some ⟨bw, 0, none⟩)) := hvs 5 _ _ rfl rfl
              have q6 : vs 6 = (.pointer (some ⟨hb, 2, none⟩)) := hvs 6 _ _ rfl rfl
              have q7 : vs 7 = (u32v ter) := hvs 7 _ _ rfl rfl
              have q8 : vs 8 = (.pointer (some ⟨bw, 0, none⟩)) := hvs 8 _ _ rfl rfl
              have q9 : vs 9 = (.int .u8 0) := hvs 9 _ _ rfl rfl
              have q10 := hvs 10 _ _ rfl rfl
              have q11 : vs 11 = (.pointer (some ⟨bw, 0, none⟩)) := hvs 11 _ _ rfl rfl
              clear hvs
              simp only [List.take_succ_cons, List.take_zero, List.drop_succ_cons, List.drop_zero, putAll, Act.put, List.setIfInBounds_toArray, List.set_cons_zero, List.set_cons_succ, Nat.reduceAdd, q0, q1, q2, q3, q4, q5, q6, q7, q8, q9, q11]
              clear q0 q1 q2 q3 q4 q5 q6 q7 q8 q9 q11
              generalize vs 10 = x10 at *
              obtain ⟨v5, h5⟩ := hI
              have HD4 : Hid (BB w 26 nx m cap (some ⟨g, off, none⟩) bw v5 (LL ++ be 4 tid ++ be 4 tout ++ be 4 ter ++ [lo 0]) w5) := Lw.hid h5.b
              rw [← HST.out] at HD4
              clear h5 q10
              go_wp2_with fail
              go_roundg (m - (k + 1))
              case measure => omega
              case rel => exact ⟨k + 1, v5, rfl, hlt, by go_num, HD4.out⟩
          · have HST := Lw.hid (HLN.out 1 rfl)
            clear HLN
            go_upto_region 11 with fail
            rw [HWY.out, HHB.out]
            refine wp_region_chain 12 [2, 5, 8, 11] (fun s w' => ∃ v, BD w 26 nx m cap (some ⟨g, off, none⟩) hb (.cells #[u32v tid, u32v tout, u32v ter, .bool true] 35 (0, 0)) bw v (nthL [LL, LL ++ be 4 tid, LL ++ be 4 tid ++ be 4 tout, LL ++ be 4 tid ++ be 4 tout ++ be 4 ter, LL ++ be 4 tid ++ be 4 tout ++ be 4 ter ++ [lo 1]] s) w') (WGo bw) [rV (.pointer (some ⟨hb, 0, none⟩)), rV (u32v tid), rV (.pointer (some ⟨bw, 0, none⟩)), rV (.pointer (some ⟨hb, 1, none⟩)), rV (u32v tout), rV (.pointer (some ⟨bw, 0, none⟩)), rV (.pointer (some ⟨hb, 2, none⟩)), rV (u32v ter), rV (.pointer (some ⟨bw, 0, none⟩)), rV (.int .u8 1), rB bw [lo 1], rV (.pointer (some ⟨bw, 0, none⟩))] (by kernel_rfl) (by kernel_rfl) ?_ ?_ ?_
            case refine_1 => exact ⟨_, HD0.out.kept ((Kept.refl _ _).drew)⟩
            case refine_2 =>
              refine csteps_free (by decide) (fun s a' w' hI hag hf K hK => ?_) ?_
              · have s6 := hag.same 6 (by decide)
                clear hag
                go_wp2_with fail
                exact hK _ _ hI (WGo.refl _ _) rfl
              refine csteps_free (by decide) (fun s a' w' hI hag hf K hK => ?_) ?_
              · obtain ⟨⟨_, h0, rfl⟩, -⟩ : SFacts _ _ a' w' [0] := hf
                clear hag
                obtain ⟨vv, hh⟩ := hI
                have c0 := heap_cell hh.x 0; have c1 := heap_cell hh.x 1; have c2 := heap_cell hh.x 2
                have HH := Lw.hid hh
                clear hh
                go_wp2_with fail
                exact hK _ _ ⟨vv, HH.out⟩ (WGo.refl _ _) rfl
              refine csteps_hit 0 rfl (fun a' w' hI hag hf K hK => ?_) ?_
              · obtain ⟨⟨_, h1, rfl⟩, -⟩ : SFacts _ _ a' w' [1] := hf
                have s4 := hag.same 4 (by decide)
                clear hag
                obtain ⟨vv, hh⟩ := hI
                have HH : Hid (BD w 26 nx m cap (some ⟨g, off, none⟩) hb (.cells #[u32v tid, u32v tout, u32v ter, .bool true] 35 (0, 0)) bw vv (LL) w') := Lw.hid hh
                clear hh
                go_wp2_with fail
                refine (four_any w' bw vv (LL) _ tid rfl o1 HH.out.b.wr (by have := HLL.out; (try simp only [List.length_append, be_length]); omega)).mono ?_
                rintro e w4 ⟨rfl, hp⟩
                obtain ⟨v', h'⟩ := HH.out.step hp
                have HN := Lw.hid h'; have HG := Lw.hid (WGo.of_post HH.out.b.wr hp)
                clear h' hp
                go_wp2_with fail
                exact hK _ _ ⟨v', HN.out⟩ HG.out rfl
              refine csteps_free (by decide) (fun s a' w' hI hag hf K hK => ?_) ?_
              · have s6 := hag.same 6 (by decide)
                clear hag
                go_wp2_with fail
                exact hK _ _ hI (WGo.refl _ _) rfl
              refine csteps_free (by decide) (fun s a' w' hI hag hf K hK => ?_) ?_
              · obtain ⟨⟨_, h3, rfl⟩, -⟩ : SFacts _ _ a' w' [3] := hf
                clear hag
                obtain ⟨vv, hh⟩ := hI
                have c0 := heap_cell hh.x 0; have c1 := heap_cell hh.x 1; have c2 := heap_cell hh.x 2
                have HH := Lw.hid hh
                clear hh
                go_wp2_with fail
                exact hK _ _ ⟨vv, HH.out⟩ (WGo.refl _ _) rfl
              refine csteps_hit 1 rfl (fun a' w' hI hag hf K hK => ?_) ?_
              · obtain ⟨⟨_, h2, rfl⟩, ⟨_, h4, rfl⟩, -⟩ : SFacts _ _ a' w' [2, 4] := hf
                clear hag
                obtain ⟨vv, hh⟩ := hI
                have HH : Hid (BD w 26 nx m cap (some ⟨g, off, none⟩) hb (.cells #[u32v tid, u32v tout, u32v ter, .bool true] 35 (0, 0)) bw vv (LL ++ be 4 tid) w') := Lw.hid hh
                clear hh
                go_wp2_with fail
                refine (four_any w' bw vv (LL ++ be 4 tid) _ tout rfl o2 HH.out.b.wr (by have := HLL.out; (try simp only [List.length_append, be_length]); omega)).mono ?_
                rintro e w4 ⟨rfl, hp⟩
                obtain ⟨v', h'⟩ := HH.out.step hp
                have HN := Lw.hid h'; have HG := Lw.hid (WGo.of_post HH.out.b.wr hp)
                clear h' hp
                go_wp2_with fail
                exact hK _ _ ⟨v', HN.out⟩ HG.out rfl
              refine csteps_free (by decide) (fun s a' w' hI hag hf K hK => ?_) ?_
              · have s6 := hag.same 6 (by decide)
                clear hag
                go_wp2_with fail
                exact hK _ _ hI (WGo.refl _ _) rfl
              refine csteps_free (by decide) (fun s a' w' hI hag hf K hK => ?_) ?_
              · obtain ⟨⟨_, h6, rfl⟩, -⟩ : SFacts _ _ a' w' [6] := hf
                clear hag
                obtain ⟨vv, hh⟩ := hI
                have c0 := heap_cell hh.x 0; have c1 := heap_cell hh.x 1; have c2 := heap_cell hh.x 2
                have HH := Lw.hid hh
                clear hh
                go_wp2_with fail
                exact hK _ _ ⟨vv, HH.out⟩ (WGo.refl _ _) rfl
              refine csteps_hit 2 rfl (fun a' w' hI hag hf K hK => ?_) ?_
              · obtain ⟨⟨_, h5, rfl⟩, ⟨_, h7, rfl⟩, -⟩ : SFacts _ _ a' w' [5, 7] := hf
                clear hag
                obtain ⟨vv, hh⟩ := hI
                have HH : Hid (BD w 26 nx m cap (some ⟨g, off, none⟩) hb (.cells #[u32v tid, u32v tout, u32v ter, .bool true] 35 (0, 0)) bw vv (LL ++ be 4 tid ++ be 4 tout) w') := Lw.hid hh
                clear hh
                go_wp2_with fail
                refine (four_any w' bw vv (LL ++ be 4 tid ++ be 4 tout) _ ter rfl o3 HH.out.b.wr (by have := HLL.out; (try simp only [List.length_append, be_length]); omega)).mono ?_
                rintro e w4 ⟨rfl, hp⟩
                obtain ⟨v', h'⟩ := HH.out.step hp
                have HN := Lw.hid h'; have HG := Lw.hid (WGo.of_post HH.out.b.wr hp)
                clear h' hp
                go_wp2_with fail
                exact hK _ _ ⟨v', HN.out⟩ HG.out rfl
              refine csteps_free (by decide) (fun s a' w' hI hag hf K hK => ?_) ?_
              · have s7 := hag.same 7 (by decide)
                clear hag
                go_wp2_with fail
                exact hK _ _ hI (WGo.refl _ _) rfl
              refine csteps_free (by decide) (fun s a' w' hI hag hf K hK => ?_) ?_
              · obtain ⟨⟨_, h9, rfl⟩, -⟩ : SFacts _ _ a' w' [9] := hf
                clear hag
                obtain ⟨vv, hh⟩ := hI
                have HH := Lw.hid hh
                clear hh
                go_wp2_with fail
                exact hK _ _ ⟨vv, HH.out.kept ((Kept.refl _ w').alloc _)⟩ (WGo.of_kept HH.out.b.wr.lt ((Kept.refl _ w').alloc _)) (byte_made HH.out.b.wr _ 1 rfl (by decide))
              refine csteps_hit 3 rfl (fun a' w' hI hag hf K hK => ?_) ?_
              · obtain ⟨⟨_, h8, rfl⟩, ⟨v10, h10, e10⟩, -⟩ : SFacts _ _ a' w' [8, 10] := hf
                clear hag
                have E10 : Hid (RdB w' v10 [lo 1]) := Lw.hid e10.1
                clear e10
                obtain ⟨vv, hh⟩ := hI
                have HH : Hid (BD w 26 nx m cap (some ⟨g, off, none⟩) hb (.cells #[u32v tid, u32v tout, u32v ter, .bool true] 35 (0, 0)) bw vv (LL ++ be 4 tid ++ be 4 tout ++ be 4 ter) w') := Lw.hid hh
                clear hh
                go_wp2_with fail
                refine (byte_any w' bw vv (LL ++ be 4 tid ++ be 4 tout ++ be 4 ter) _ [lo 1] HH.out.b.wr E10.out (by have := HLL.out; simp only [List.length_append, be_length, List.length_cons, List.length_nil]; omega)).mono ?_
                rintro e w4 ⟨rfl, hp⟩
                obtain ⟨v', h'⟩ := HH.out.step hp
                have HN := Lw.hid h'; have HG := Lw.hid (WGo.of_post HH.out.b.wr hp)
                clear h' hp
                go_wp2_with fail
                exact hK _ _ ⟨v', HN.out⟩ HG.out rfl
              exact trivial
            case refine_3 =>
              intro vs w5 hI hvs
              have q0 : vs 0 = (.pointer (some ⟨hb, 0, none⟩)) := hvs 0 _ _ rfl rfl
              have q1 : vs 1 = (u32v tid) := hvs 1 _ _ rfl rfl
              have q2 : vs 2 = (.pointer (some ⟨bw, 0, none⟩)) := hvs 2 _ _ rfl rfl
              have q3 : vs 3 = (.pointer (some ⟨hb, 1, none⟩)) := hvs 3 _ _ rfl rfl
              have q4 : vs 4 = (u32v tout) := hvs 4 _ _ rfl rfl
              have q5 : vs 5 = (.pointer (some ⟨bw, 0, none⟩)) := hvs 5 _ _ rfl rfl
              have q6 : vs 6 = (.pointer (some ⟨hb, 2, none⟩)) := hvs 6 _ _ rfl rfl
              have q7 : vs 7 = (u32v ter) := hvs 7 _ _ rfl rfl
              have q8 : vs 8 = (.pointer (some ⟨bw, 0, none⟩)) := hvs 8 _ _ rfl rfl
              have q9 : vs 9 = (.int .u8 1) := hvs 9 _ _ rfl rfl
              have q10 := hvs 10 _ _ rfl rfl
              have q11 : vs 11 = (.pointer (some ⟨bw, 0, none⟩)) := hvs 11 _ _ rfl rfl
              clear hvs
              simp only [List.take_succ_cons, List.take_zero, List.drop_succ_cons, List.drop_zero, putAll, Act.put, List.setIfInBounds_toArray, List.set_cons_zero, List.set_cons_succ, Nat.reduceAdd, q0, q1, q2, q3, q4, q5, q6, q7, q8, q9, q11]
              clear q0 q1 q2 q3 q4 q5 q6 q7 q8 q9 q11
              generalize vs 10 = x10 at *
              obtain ⟨v5, h5⟩ := hI
              have HD4 : Hid (BB w 26 nx m cap (some ⟨g, off, none⟩) bw v5 (LL ++ be 4 tid ++ be 4 tout ++ be 4 ter ++ [lo 1]) w5) := Lw.hid h5.b
              rw [← HST.out] at HD4
              clear h5 q10
              go_wp2_with fail
              go_roundg (m - (k + 1))
              case measure => omega
              case rel => exact ⟨k + 1, v5, rfl, hlt, by go_num, HD4.out⟩
        · obtain rfl : k = m := by omega
          have HE : Hid (BB w 26 nx k cap ad bw v r1 wr) := Lw.hid (by
            have := HR.out
            rw [List.take_of_length_le (by rw [HM.out]; exact Nat.le_refl _)] at this
            rw [HX1.out]; unfold askB; rw [HM.out]; exact this)
          have HLE : Hid (r1.length ≤ 1000) := Lw.hid (by rw [HX1.out, askB_len, HM.out]; omega)
          clear HR
          go_wp2_with fail
          refine (done_any wr bw v r1 HE.out.wr (by have := HLE.out; omega)).mono ?_
          rintro e w6 ⟨r, rfl, hd⟩
          have HFIN := Lw.hid (bt_of HE.out hd)
          clear hd
          go_wp2_with fail
          go_ret2
          rw [HX2.out]
          exact HFIN.out
end Go.Proofs.Ytbmfnepbdfnlaaa
