/- ScribeReads, walked. -/
import Derived.Test.YtcmipliglcakdaaDoorRefReader
import Derived.Test.YtcmipliglcakdaaDoorWakes
import Derived.Test.YtcmipliglcakdaaDoorLaysW
namespace Go.Proofs.YtcmipliglcakdaaDoor
open Go Go.RowKit Go.Lw
set_option maxRecDepth 100000
theorem takeZ_any (w : World) (br : Nat) (v : Value) (r : Rdr) (x : Int) (hn : x ≤ 9223372036854775807) (h : ReaderAt w br v r) :
    Calls Tryd.prog 32 #[.pointer (some ⟨br, 0, none⟩), .int .i64 x] w fun e w' => ∃ out, e = .returned out ∧ RdB w' out (r.take x.toNat).1 ∧ RdPost w w' br v (r.take x.toNat).2 ∧ ∀ k, blk out k → w.heap.size ≤ k := by
  by_cases hx : x < 0
  · rw [show x.toNat = 0 by omega]; exact take_neg w br v r x hx h
  · exact take_any w br v r x x.toNat (by omega) (by omega) h
/-- A round's state: both readers; the pieces; all apart. -/
structure RS (w wr : World) (br1 : Nat) (v1 : Value) (r : Rdr) (br2 : Nat) (v2 : Value) (B : List UInt8) (at_ : Nat) (s : Bool) (fv : Value) (m : List Piece) : Prop where
  rdr : ReaderAt wr br1 v1 r
  ref : RefAt wr br2 v2 B at_ s
  pcs : wr.ownsRow 0 35 3 fv m.length (m.flatMap Piece.cells)
  ne : br1 ≠ br2
  n1 : ¬ blk v1 br2
  n2 : B.length ≠ 0 → ¬ blk v2 br1
  n3 : ∀ k, blk fv k → k ≠ br1 ∧ k ≠ br2
  below : Below w.heap.size w wr
  b1 : w.heap.size ≤ br1
  b2 : w.heap.size ≤ br2
theorem RS.ext {w wr w' : World} {br1 : Nat} {v1 : Value} {r : Rdr} {br2 : Nat} {v2 : Value} {B : List UInt8} {at_ : Nat} {s : Bool} {fv : Value} {m : List Piece} (h : RS w wr br1 v1 r br2 v2 B at_ s fv m) (hk : Kept (fun _ => False) wr w') : RS w w' br1 v1 r br2 v2 B at_ s fv m :=
  ⟨h.rdr.kept hk (fun h => h) (fun _ _ h => h), h.ref.kept hk (fun h => h) (fun _ _ _ h => h), own_kept hk h.pcs (fun _ _ h => h), h.ne, h.n1, h.n2, h.n3, h.below.trans (hk.below h.below.size (fun _ _ h => h)), h.b1, h.b2⟩
theorem RS.rd {w wr w' : World} {br1 : Nat} {v1 : Value} {r r' : Rdr} {br2 : Nat} {v2 : Value} {B : List UInt8} {at_ : Nat} {s : Bool} {fv : Value} {m : List Piece} (h : RS w wr br1 v1 r br2 v2 B at_ s fv m) (hp : RdPost wr w' br1 v1 r') : ∃ v1', RS w w' br1 v1' r' br2 v2 B at_ s fv m := by
  obtain ⟨v1', h1, hk, h3⟩ := hp
  exact ⟨v1', h1, h.ref.kept hk (fun e => h.ne e.symm) (fun hn g hg e => h.n2 hn (e ▸ hg)), own_kept hk h.pcs (fun g hg e => (h.n3 g hg).1 e), h.ne, fun e => h.n1 (h3 _ e), h.n2, h.n3, h.below.trans (hk.below h.below.size (fun k hk' e => by have := h.b1; omega)), h.b1, h.b2⟩
theorem RS.rf {w wr w' : World} {br1 : Nat} {v1 : Value} {r r' : Rdr} {br2 : Nat} {v2 : Value} {B : List UInt8} {at_ : Nat} {s : Bool} {fv : Value} {m : List Piece} (h : RS w wr br1 v1 r br2 v2 B at_ s fv m) (hp : RefPost wr w' br2 v2 B r') : ∃ at' s', RS w w' br1 v1 r br2 v2 B at' s' fv m ∧ refRdr B at' s' = r' := by
  obtain ⟨at', s', h1, h2, hk⟩ := hp
  exact ⟨at', s', ⟨h.rdr.kept hk h.ne (fun g hg e => h.n1 (e ▸ hg)), h1, own_kept hk h.pcs (fun g hg e => (h.n3 g hg).2 e), h.ne, h.n1, h.n2, h.n3, h.below.trans (hk.below h.below.size (fun k hk' e => by have := h.b2; omega)), h.b1, h.b2⟩, h2⟩
theorem alloc_kept (w : World) (o : Obj) : Kept (fun _ => False) w (w.alloc o) := (Kept.refl _ w).alloc o
theorem drewN_kept (w : World) (n : Nat) : Kept (fun _ => False) w (w.drewN n) := ⟨rfl, rfl, rfl, Nat.le_refl _, fun _ _ _ => rfl⟩
theorem ho1k {w w' : World} {br : Nat} {v : Value} {l : List UInt8} (h : RdB w v l) (hk : Kept (fun k => k = br) w w') (hb : ∀ k, blk v k → k ≠ br) : RdB w' v l := Rd.kept hk h (fun k hk' e => hb k hk' e)
theorem refRdr_short (B : List UInt8) (at_ : Nat) (s : Bool) : (refRdr B at_ s).short = s := by cases s <;> rfl
set_option maxHeartbeats 4000000 in
theorem reads_any (w : World) (x y : Value) (B0 : List UInt8) (l : List Piece) (hx : RdB w x B0) (hy : RdP w y l) (ht : Tab w) :
    Calls Tryd.prog 7 #[x, y] w fun e w' => e = .returned (.bool true) ∧ Below w.heap.size w w' := by
  obtain ⟨ad, cap, rfl, h1, h2, hc⟩ := hx.open
  have HY := Lw.hid hy
  have HT := Lw.hid ht
  clear ht hc hy
  unfold maxLen at h2
  obtain ⟨B, n', hn, hB, HX⟩ : ∃ (B : List UInt8) (n' : Nat), n' = min B0.length 400 ∧ B.length ≤ 400 ∧ Hid (RdB w (.slice ad n' cap) B) :=
    ⟨_, _, rfl, by rw [List.length_take]; omega, Lw.hid (hx.take _ (Nat.min_le_left _ _))⟩
  clear hx
  have hcases : n' = 400 ∧ 400 < B0.length ∨ n' = B0.length ∧ B0.length ≤ 400 := by omega
  clear hn
  rcases hcases with ⟨rfl, hlt⟩ | ⟨rfl, hlt⟩
  all_goals
    go_enter Tryd.func7, Tryd.ntmps7
    go_wp2_with fail
    refine (new_any w _ B HX.out (by omega)).mono ?_
    rintro e w1 ⟨br1, v1, rfl, hr1, hk1, hb1, hf1⟩
    have HR1 := Lw.hid hr1; have HK1 := Lw.hid hk1; have HB1 := Lw.hid hb1; have HF1 := Lw.hid hf1
    clear hr1 hk1 hb1 hf1
    go_wp2_with fail
    refine (few_any _ y l 40 (by omega) ⟨Rd.alloc (Rd.keptE HK1.out HY.out.1 (fun _ _ _ h => h)) _, HY.out.2⟩).mono ?_
    rintro e w2 ⟨fv, rfl, hv, hb, hvf⟩
    have hok := few_ok 40 l HY.out.2
    have hml := fewL_len 40 l
    generalize fewL 40 l = m at *
    obtain ⟨adf, capf, rfl, hcap, hcm, _⟩ := own_slice hv
    have HRS : Hid (∃ v1' v2', RS w w2 br1 v1' ⟨B, false⟩ w1.heap.size v2' B 0 false (.slice adf m.length capf) m) := by
      have hk : Kept (fun _ => False) _ w2 := (Kept.of_below hb).mono (fun i hi h => by omega)
      have hl1 := HR1.out.lt
      refine ⟨v1, _, (HR1.out.kept (alloc_kept _ _) (fun h => h) (fun _ _ h => h)).kept hk (fun h => h) (fun _ _ h => h), ⟨⟨_, hk.heap (heap_alloc w1 _) (fun h => h)⟩, Rd.keptE hk (Rd.alloc (Rd.keptE HK1.out HX.out (fun _ _ _ h => h)) _) (fun _ _ _ h => h), fun hn e => ?_, Nat.zero_le _, by omega⟩, hv, by omega, fun e => ?_, fun hn e => ?_, fun k hk' => ?_, (Below.of_kept HK1.out).trans (((Below.refl w.heap.size w1).alloc HK1.out.size _).trans (hb.mono (by have := HK1.out.size; simp; omega))), HB1.out, HK1.out.size⟩
      · have := HX.out.lt hn _ e
        have := HK1.out.size
        omega
      · have := (HF1.out _ e).2
        omega
      · have := HX.out.lt hn _ e
        have := HB1.out
        omega
      · have := hvf k hk'
        simp at this
        omega
    have HOK := Lw.hid hok
    unfold maxLen at hcm
    have hbr2 : ∃ br2, w1.heap.size = br2 := ⟨_, rfl⟩
    clear hv hb hvf hok HR1 HK1 HB1 HF1 HX hB
    go_wp2_with fail
    go_loopw [24] (fun i wr => ∃ (k : Nat), k ≤ m.length ∧ i = .int .i64 k ∧ Hid (∃ v1' v2' at_ s, RS w wr br1 v1' (refRdr B at_ s) w1.heap.size v2' B at_ s (.slice adf m.length capf) m)) (fun i _ => m.length - (intOf i).toNat)
    case atStart => exact ⟨0, Nat.zero_le _, rfl, Lw.hid (by obtain ⟨a, b, c⟩ := HRS.out; exact ⟨a, b, 0, false, c⟩)⟩
    case round =>
      obtain ⟨k, hk, rfl, HL0⟩ := hrel
      clear HRS
      obtain ⟨v1, v2, at_, s, hrs⟩ := HL0.out
      have HL := Lw.hid hrs
      clear HL0 hrs
      by_cases hlt : k < m.length
      · obtain ⟨g, off, rfl, c0, cj⟩ := (Rd.own HL.out.pcs).elem (fun _ _ => rfl) (by decide) k hlt
        have c1 := cj 1 (by decide)
        have c2 := cj 2 (by decide)
        clear cj
        simp only [Piece.cells, List.getElem?_cons_zero, List.getElem?_cons_succ] at c0 c1 c2
        obtain ⟨hpo, hpt⟩ := HOK.out m[k] (List.getElem_mem hlt)
        have hpn : m[k].n < 18446744073709551616 := hpo.2.2.1
        generalize m[k].what = what at *
        generalize m[k].n = pn at *
        generalize m[k].text = pt at *
        generalize hr0 : refRdr B at_ s = r at *
        have HR0 := Lw.hid hr0
        clear hr0
        have HLB : Hid (w1.heap.size < wr.heap.size) := by
          obtain ⟨⟨T, hh⟩, _⟩ := HL.out.ref
          exact Lw.hid (heap_lt hh)
        have HA := Lw.hid (HL.out.ext (alloc_kept wr (.cells #[.int .i64 what, .int .u64 (pn : Int), .string pt] 35)))
        clear HL
        by_cases h0 : what = 0
        · subst h0
          go_wp2_with fail
          refine (takeZ_any _ br1 v1 r _ (by omega) HA.out.rdr).mono ?_
          rintro e w3 ⟨o1, rfl, ho1, hp3, hf3⟩
          obtain ⟨v5, h4⟩ := HA.out.rd hp3
          have H4 := Lw.hid h4
          have HO1 := Lw.hid ho1
          have HF3 := Lw.hid hf3
          clear hp3 h4 ho1 hf3 HA c0 c1 c2
          go_wp2_with fail
          refine (refTake_any _ w1.heap.size v2 B at_ s _ (by omega) (by omega) H4.out.ref).mono ?_
          rw [HR0.out]
          rintro e w5 ⟨o2, rfl, ho2, hp4, hf4⟩
          have hk5 : RdB w5 o1 (r.take ((pn : Int) % 300 - 5).toNat).1 := by
            obtain ⟨_, _, _, _, hk⟩ := hp4
            refine ho1k HO1.out hk ?_
            intro q hq
            have := HF3.out q hq
            simp at this
            have := HLB.out
            omega
          obtain ⟨at5, s5, h5, he5⟩ := H4.out.rf hp4
          have H5 := Lw.hid h5
          have HE := Lw.hid he5
          have HO2 := Lw.hid ho2
          have HO1' := Lw.hid hk5
          clear hp4 h5 he5 ho2 hk5 H4 HO1
          go_wp2_with fail
          refine (equal_any _ o1 o2 _ _ HO1'.out HO2.out true (by simp)).mono ?_
          rintro e w6 ⟨rfl, rfl⟩
          have hrs : RS w w5 br1 v5 (refRdr B at5 s5) w1.heap.size v2 B at5 s5 (.slice (some ⟨g, off, none⟩) m.length capf) m := HE.out ▸ H5.out
          have HRT : Hid (∃ v1' v2' at_ s, RS w w5 br1 v1' (refRdr B at_ s) w1.heap.size v2' B at_ s (.slice (some ⟨g, off, none⟩) m.length capf) m) := Lw.hid ⟨v5, v2, at5, s5, hrs⟩
          clear H5 HE
          have HRS := Lw.hid hrs
          have hc2 : w5.cell? ⟨w1.heap.size, 2, none⟩ = some (.bool s5) := by
            obtain ⟨⟨T, hh⟩, _⟩ := hrs.ref
            exact heap_cell hh 2
          clear hrs
          obtain ⟨q, hq⟩ : ∃ q, (refRdr B at5 s5).l.length = q := ⟨_, rfl⟩
          have HQ1 : Hid (∀ n, Calls Tryd.prog 43 #[.pointer (some ⟨br1, 0, none⟩)] (w5.drewN n) fun e w'' => e = .returned (.int .i64 (q : Int)) ∧ ∃ m, w'' = w5.drewN m) := by
            intro n
            rw [← hq]
            exact Calls.quiet_of_same ((left_any (w5.drewN n) br1 v5 (refRdr B at5 s5) HRS.out.rdr).mono fun _ _ ⟨he, hw⟩ => ⟨he, hw.symm⟩)
          have HQ2 : Hid (∀ n, Calls Tryd.prog 42 #[.pointer (some ⟨w1.heap.size, 0, none⟩)] (w5.drewN n) fun e w'' => e = .returned (.int .i64 (q : Int)) ∧ ∃ m, w'' = w5.drewN m) := by
            intro n
            rw [← hq]
            exact Calls.quiet_of (refLeft_any (w5.drewN n) w1.heap.size v2 B at5 s5 HRS.out.ref)
          have HQ3 : Hid (∀ n, Calls Tryd.prog 44 #[.pointer (some ⟨br1, 0, none⟩)] (w5.drewN n) fun e w'' => e = .returned (.int .i64 (if s5 then 4 else 0)) ∧ ∃ m, w'' = w5.drewN m) := by
            intro n
            have h := Calls.quiet_of_same ((err_any (w5.drewN n) br1 v5 (refRdr B at5 s5) HRS.out.rdr).mono fun _ _ ⟨he, hw⟩ => ⟨he, hw.symm⟩)
            rw [refRdr_short] at h
            exact h
          clear hq HRS
          cases s5
          all_goals
            go_wp2_with fail
            go_quiet (first | (go_at_call 43; exact HQ1.out _) | (go_at_call 42; exact HQ2.out _) | (go_at_call 44; exact HQ3.out _))
            go_wp2_with fail
            go_roundw
            case rel => exact ⟨k + 1, by omega, by go_num, Lw.hid (by obtain ⟨a, b, c, d, e⟩ := HRT.out; exact ⟨a, b, c, d, e.ext (drewN_kept w5 nq)⟩)⟩
            case measure => simp [intOf]; omega
        by_cases h1 : what = 1
        · subst h1
          go_wp2_with fail
          refine (rbyte_any _ br1 v1 r HA.out.rdr).mono ?_
          rintro e w3 ⟨rfl, hp3⟩
          obtain ⟨v5, h4⟩ := HA.out.rd hp3
          have H4 := Lw.hid h4
          clear hp3 h4 HA c0 c1 c2
          have hb := r.num_lt8 1 (by omega)
          generalize hgn : (r.num 1).1 = q at *
          have HQ := Lw.hid hgn
          clear hgn
          go_wp2_with fail
          refine (refNum_any _ w1.heap.size v2 B at_ s 1 (by omega) H4.out.ref).mono ?_
          rw [HR0.out]
          rintro e w5 ⟨rfl, hp4⟩
          obtain ⟨at5, s5, h5, he5⟩ := H4.out.rf hp4
          have H5 := Lw.hid h5
          have HE := Lw.hid he5
          clear hp4 h5 he5 H4
          rw [HQ.out]
          have hrs : RS w w5 br1 v5 (refRdr B at5 s5) w1.heap.size v2 B at5 s5 (.slice (some ⟨g, off, none⟩) m.length capf) m := HE.out ▸ H5.out
          have HRT : Hid (∃ v1' v2' at_ s, RS w w5 br1 v1' (refRdr B at_ s) w1.heap.size v2' B at_ s (.slice (some ⟨g, off, none⟩) m.length capf) m) := Lw.hid ⟨v5, v2, at5, s5, hrs⟩
          clear H5 HE
          have HRS := Lw.hid hrs
          have hc2 : w5.cell? ⟨w1.heap.size, 2, none⟩ = some (.bool s5) := by
            obtain ⟨⟨T, hh⟩, _⟩ := hrs.ref
            exact heap_cell hh 2
          clear hrs
          obtain ⟨q, hq⟩ : ∃ q, (refRdr B at5 s5).l.length = q := ⟨_, rfl⟩
          have HQ1 : Hid (∀ n, Calls Tryd.prog 43 #[.pointer (some ⟨br1, 0, none⟩)] (w5.drewN n) fun e w'' => e = .returned (.int .i64 (q : Int)) ∧ ∃ m, w'' = w5.drewN m) := by
            intro n
            rw [← hq]
            exact Calls.quiet_of_same ((left_any (w5.drewN n) br1 v5 (refRdr B at5 s5) HRS.out.rdr).mono fun _ _ ⟨he, hw⟩ => ⟨he, hw.symm⟩)
          have HQ2 : Hid (∀ n, Calls Tryd.prog 42 #[.pointer (some ⟨w1.heap.size, 0, none⟩)] (w5.drewN n) fun e w'' => e = .returned (.int .i64 (q : Int)) ∧ ∃ m, w'' = w5.drewN m) := by
            intro n
            rw [← hq]
            exact Calls.quiet_of (refLeft_any (w5.drewN n) w1.heap.size v2 B at5 s5 HRS.out.ref)
          have HQ3 : Hid (∀ n, Calls Tryd.prog 44 #[.pointer (some ⟨br1, 0, none⟩)] (w5.drewN n) fun e w'' => e = .returned (.int .i64 (if s5 then 4 else 0)) ∧ ∃ m, w'' = w5.drewN m) := by
            intro n
            have h := Calls.quiet_of_same ((err_any (w5.drewN n) br1 v5 (refRdr B at5 s5) HRS.out.rdr).mono fun _ _ ⟨he, hw⟩ => ⟨he, hw.symm⟩)
            rw [refRdr_short] at h
            exact h
          clear hq HRS
          cases s5
          all_goals
            go_wp2_with fail
            go_quiet (first | (go_at_call 43; exact HQ1.out _) | (go_at_call 42; exact HQ2.out _) | (go_at_call 44; exact HQ3.out _))
            go_wp2_with fail
            go_roundw
            case rel => exact ⟨k + 1, by omega, by go_num, Lw.hid (by obtain ⟨a, b, c, d, e⟩ := HRT.out; exact ⟨a, b, c, d, e.ext (drewN_kept w5 nq)⟩)⟩
            case measure => simp [intOf]; omega
        by_cases h2 : what = 2
        · subst h2
          go_wp2_with fail
          refine (rtwo_any _ br1 v1 r HA.out.rdr).mono ?_
          rintro e w3 ⟨rfl, hp3⟩
          obtain ⟨v5, h4⟩ := HA.out.rd hp3
          have H4 := Lw.hid h4
          clear hp3 h4 HA c0 c1 c2
          have hb := r.num_lt8 2 (by omega)
          generalize hgn : (r.num 2).1 = q at *
          have HQ := Lw.hid hgn
          clear hgn
          go_wp2_with fail
          refine (refNum_any _ w1.heap.size v2 B at_ s 2 (by omega) H4.out.ref).mono ?_
          rw [HR0.out]
          rintro e w5 ⟨rfl, hp4⟩
          obtain ⟨at5, s5, h5, he5⟩ := H4.out.rf hp4
          have H5 := Lw.hid h5
          have HE := Lw.hid he5
          clear hp4 h5 he5 H4
          rw [HQ.out]
          have hrs : RS w w5 br1 v5 (refRdr B at5 s5) w1.heap.size v2 B at5 s5 (.slice (some ⟨g, off, none⟩) m.length capf) m := HE.out ▸ H5.out
          have HRT : Hid (∃ v1' v2' at_ s, RS w w5 br1 v1' (refRdr B at_ s) w1.heap.size v2' B at_ s (.slice (some ⟨g, off, none⟩) m.length capf) m) := Lw.hid ⟨v5, v2, at5, s5, hrs⟩
          clear H5 HE
          have HRS := Lw.hid hrs
          have hc2 : w5.cell? ⟨w1.heap.size, 2, none⟩ = some (.bool s5) := by
            obtain ⟨⟨T, hh⟩, _⟩ := hrs.ref
            exact heap_cell hh 2
          clear hrs
          obtain ⟨q, hq⟩ : ∃ q, (refRdr B at5 s5).l.length = q := ⟨_, rfl⟩
          have HQ1 : Hid (∀ n, Calls Tryd.prog 43 #[.pointer (some ⟨br1, 0, none⟩)] (w5.drewN n) fun e w'' => e = .returned (.int .i64 (q : Int)) ∧ ∃ m, w'' = w5.drewN m) := by
            intro n
            rw [← hq]
            exact Calls.quiet_of_same ((left_any (w5.drewN n) br1 v5 (refRdr B at5 s5) HRS.out.rdr).mono fun _ _ ⟨he, hw⟩ => ⟨he, hw.symm⟩)
          have HQ2 : Hid (∀ n, Calls Tryd.prog 42 #[.pointer (some ⟨w1.heap.size, 0, none⟩)] (w5.drewN n) fun e w'' => e = .returned (.int .i64 (q : Int)) ∧ ∃ m, w'' = w5.drewN m) := by
            intro n
            rw [← hq]
            exact Calls.quiet_of (refLeft_any (w5.drewN n) w1.heap.size v2 B at5 s5 HRS.out.ref)
          have HQ3 : Hid (∀ n, Calls Tryd.prog 44 #[.pointer (some ⟨br1, 0, none⟩)] (w5.drewN n) fun e w'' => e = .returned (.int .i64 (if s5 then 4 else 0)) ∧ ∃ m, w'' = w5.drewN m) := by
            intro n
            have h := Calls.quiet_of_same ((err_any (w5.drewN n) br1 v5 (refRdr B at5 s5) HRS.out.rdr).mono fun _ _ ⟨he, hw⟩ => ⟨he, hw.symm⟩)
            rw [refRdr_short] at h
            exact h
          clear hq HRS
          cases s5
          all_goals
            go_wp2_with fail
            go_quiet (first | (go_at_call 43; exact HQ1.out _) | (go_at_call 42; exact HQ2.out _) | (go_at_call 44; exact HQ3.out _))
            go_wp2_with fail
            go_roundw
            case rel => exact ⟨k + 1, by omega, by go_num, Lw.hid (by obtain ⟨a, b, c, d, e⟩ := HRT.out; exact ⟨a, b, c, d, e.ext (drewN_kept w5 nq)⟩)⟩
            case measure => simp [intOf]; omega
        by_cases h3 : what = 3
        · subst h3
          go_wp2_with fail
          refine (rfour_any _ br1 v1 r HA.out.rdr).mono ?_
          rintro e w3 ⟨rfl, hp3⟩
          obtain ⟨v5, h4⟩ := HA.out.rd hp3
          have H4 := Lw.hid h4
          clear hp3 h4 HA c0 c1 c2
          have hb := r.num_lt8 4 (by omega)
          generalize hgn : (r.num 4).1 = q at *
          have HQ := Lw.hid hgn
          clear hgn
          go_wp2_with fail
          refine (refNum_any _ w1.heap.size v2 B at_ s 4 (by omega) H4.out.ref).mono ?_
          rw [HR0.out]
          rintro e w5 ⟨rfl, hp4⟩
          obtain ⟨at5, s5, h5, he5⟩ := H4.out.rf hp4
          have H5 := Lw.hid h5
          have HE := Lw.hid he5
          clear hp4 h5 he5 H4
          rw [HQ.out]
          have hrs : RS w w5 br1 v5 (refRdr B at5 s5) w1.heap.size v2 B at5 s5 (.slice (some ⟨g, off, none⟩) m.length capf) m := HE.out ▸ H5.out
          have HRT : Hid (∃ v1' v2' at_ s, RS w w5 br1 v1' (refRdr B at_ s) w1.heap.size v2' B at_ s (.slice (some ⟨g, off, none⟩) m.length capf) m) := Lw.hid ⟨v5, v2, at5, s5, hrs⟩
          clear H5 HE
          have HRS := Lw.hid hrs
          have hc2 : w5.cell? ⟨w1.heap.size, 2, none⟩ = some (.bool s5) := by
            obtain ⟨⟨T, hh⟩, _⟩ := hrs.ref
            exact heap_cell hh 2
          clear hrs
          obtain ⟨q, hq⟩ : ∃ q, (refRdr B at5 s5).l.length = q := ⟨_, rfl⟩
          have HQ1 : Hid (∀ n, Calls Tryd.prog 43 #[.pointer (some ⟨br1, 0, none⟩)] (w5.drewN n) fun e w'' => e = .returned (.int .i64 (q : Int)) ∧ ∃ m, w'' = w5.drewN m) := by
            intro n
            rw [← hq]
            exact Calls.quiet_of_same ((left_any (w5.drewN n) br1 v5 (refRdr B at5 s5) HRS.out.rdr).mono fun _ _ ⟨he, hw⟩ => ⟨he, hw.symm⟩)
          have HQ2 : Hid (∀ n, Calls Tryd.prog 42 #[.pointer (some ⟨w1.heap.size, 0, none⟩)] (w5.drewN n) fun e w'' => e = .returned (.int .i64 (q : Int)) ∧ ∃ m, w'' = w5.drewN m) := by
            intro n
            rw [← hq]
            exact Calls.quiet_of (refLeft_any (w5.drewN n) w1.heap.size v2 B at5 s5 HRS.out.ref)
          have HQ3 : Hid (∀ n, Calls Tryd.prog 44 #[.pointer (some ⟨br1, 0, none⟩)] (w5.drewN n) fun e w'' => e = .returned (.int .i64 (if s5 then 4 else 0)) ∧ ∃ m, w'' = w5.drewN m) := by
            intro n
            have h := Calls.quiet_of_same ((err_any (w5.drewN n) br1 v5 (refRdr B at5 s5) HRS.out.rdr).mono fun _ _ ⟨he, hw⟩ => ⟨he, hw.symm⟩)
            rw [refRdr_short] at h
            exact h
          clear hq HRS
          cases s5
          all_goals
            go_wp2_with fail
            go_quiet (first | (go_at_call 43; exact HQ1.out _) | (go_at_call 42; exact HQ2.out _) | (go_at_call 44; exact HQ3.out _))
            go_wp2_with fail
            go_roundw
            case rel => exact ⟨k + 1, by omega, by go_num, Lw.hid (by obtain ⟨a, b, c, d, e⟩ := HRT.out; exact ⟨a, b, c, d, e.ext (drewN_kept w5 nq)⟩)⟩
            case measure => simp [intOf]; omega
        by_cases h4 : what = 4
        · subst h4
          go_wp2_with fail
          refine (reight_any _ br1 v1 r HA.out.rdr).mono ?_
          rintro e w3 ⟨rfl, hp3⟩
          obtain ⟨v5, h4⟩ := HA.out.rd hp3
          have H4 := Lw.hid h4
          clear hp3 h4 HA c0 c1 c2
          have hb := r.num_lt8 8 (by omega)
          generalize hgn : (r.num 8).1 = q at *
          have HQ := Lw.hid hgn
          clear hgn
          go_wp2_with fail
          refine (refNum_any _ w1.heap.size v2 B at_ s 8 (by omega) H4.out.ref).mono ?_
          rw [HR0.out]
          rintro e w5 ⟨rfl, hp4⟩
          obtain ⟨at5, s5, h5, he5⟩ := H4.out.rf hp4
          have H5 := Lw.hid h5
          have HE := Lw.hid he5
          clear hp4 h5 he5 H4
          rw [HQ.out]
          have hrs : RS w w5 br1 v5 (refRdr B at5 s5) w1.heap.size v2 B at5 s5 (.slice (some ⟨g, off, none⟩) m.length capf) m := HE.out ▸ H5.out
          have HRT : Hid (∃ v1' v2' at_ s, RS w w5 br1 v1' (refRdr B at_ s) w1.heap.size v2' B at_ s (.slice (some ⟨g, off, none⟩) m.length capf) m) := Lw.hid ⟨v5, v2, at5, s5, hrs⟩
          clear H5 HE
          have HRS := Lw.hid hrs
          have hc2 : w5.cell? ⟨w1.heap.size, 2, none⟩ = some (.bool s5) := by
            obtain ⟨⟨T, hh⟩, _⟩ := hrs.ref
            exact heap_cell hh 2
          clear hrs
          obtain ⟨q, hq⟩ : ∃ q, (refRdr B at5 s5).l.length = q := ⟨_, rfl⟩
          have HQ1 : Hid (∀ n, Calls Tryd.prog 43 #[.pointer (some ⟨br1, 0, none⟩)] (w5.drewN n) fun e w'' => e = .returned (.int .i64 (q : Int)) ∧ ∃ m, w'' = w5.drewN m) := by
            intro n
            rw [← hq]
            exact Calls.quiet_of_same ((left_any (w5.drewN n) br1 v5 (refRdr B at5 s5) HRS.out.rdr).mono fun _ _ ⟨he, hw⟩ => ⟨he, hw.symm⟩)
          have HQ2 : Hid (∀ n, Calls Tryd.prog 42 #[.pointer (some ⟨w1.heap.size, 0, none⟩)] (w5.drewN n) fun e w'' => e = .returned (.int .i64 (q : Int)) ∧ ∃ m, w'' = w5.drewN m) := by
            intro n
            rw [← hq]
            exact Calls.quiet_of (refLeft_any (w5.drewN n) w1.heap.size v2 B at5 s5 HRS.out.ref)
          have HQ3 : Hid (∀ n, Calls Tryd.prog 44 #[.pointer (some ⟨br1, 0, none⟩)] (w5.drewN n) fun e w'' => e = .returned (.int .i64 (if s5 then 4 else 0)) ∧ ∃ m, w'' = w5.drewN m) := by
            intro n
            have h := Calls.quiet_of_same ((err_any (w5.drewN n) br1 v5 (refRdr B at5 s5) HRS.out.rdr).mono fun _ _ ⟨he, hw⟩ => ⟨he, hw.symm⟩)
            rw [refRdr_short] at h
            exact h
          clear hq HRS
          cases s5
          all_goals
            go_wp2_with fail
            go_quiet (first | (go_at_call 43; exact HQ1.out _) | (go_at_call 42; exact HQ2.out _) | (go_at_call 44; exact HQ3.out _))
            go_wp2_with fail
            go_roundw
            case rel => exact ⟨k + 1, by omega, by go_num, Lw.hid (by obtain ⟨a, b, c, d, e⟩ := HRT.out; exact ⟨a, b, c, d, e.ext (drewN_kept w5 nq)⟩)⟩
            case measure => simp [intOf]; omega
        by_cases h5 : what = 5
        · subst h5
          go_wp2_with fail
          refine (rtext_any _ br1 v1 r HA.out.rdr).mono ?_
          rintro e w3 ⟨rfl, hp3⟩
          obtain ⟨v5, h4⟩ := HA.out.rd hp3
          have H4 := Lw.hid h4
          clear hp3 h4 HA c0 c1 c2
          go_wp2_with fail
          refine (refRText_any _ w1.heap.size v2 B at_ s H4.out.ref).mono ?_
          rw [HR0.out]
          rintro e w5 ⟨rfl, hp4⟩
          obtain ⟨at5, s5, h5, he5⟩ := H4.out.rf hp4
          have H5 := Lw.hid h5
          have HE := Lw.hid he5
          clear hp4 h5 he5 H4
          have hrs : RS w w5 br1 v5 (refRdr B at5 s5) w1.heap.size v2 B at5 s5 (.slice (some ⟨g, off, none⟩) m.length capf) m := HE.out ▸ H5.out
          have HRT : Hid (∃ v1' v2' at_ s, RS w w5 br1 v1' (refRdr B at_ s) w1.heap.size v2' B at_ s (.slice (some ⟨g, off, none⟩) m.length capf) m) := Lw.hid ⟨v5, v2, at5, s5, hrs⟩
          clear H5 HE
          have HRS := Lw.hid hrs
          have hc2 : w5.cell? ⟨w1.heap.size, 2, none⟩ = some (.bool s5) := by
            obtain ⟨⟨T, hh⟩, _⟩ := hrs.ref
            exact heap_cell hh 2
          clear hrs
          obtain ⟨q, hq⟩ : ∃ q, (refRdr B at5 s5).l.length = q := ⟨_, rfl⟩
          have HQ1 : Hid (∀ n, Calls Tryd.prog 43 #[.pointer (some ⟨br1, 0, none⟩)] (w5.drewN n) fun e w'' => e = .returned (.int .i64 (q : Int)) ∧ ∃ m, w'' = w5.drewN m) := by
            intro n
            rw [← hq]
            exact Calls.quiet_of_same ((left_any (w5.drewN n) br1 v5 (refRdr B at5 s5) HRS.out.rdr).mono fun _ _ ⟨he, hw⟩ => ⟨he, hw.symm⟩)
          have HQ2 : Hid (∀ n, Calls Tryd.prog 42 #[.pointer (some ⟨w1.heap.size, 0, none⟩)] (w5.drewN n) fun e w'' => e = .returned (.int .i64 (q : Int)) ∧ ∃ m, w'' = w5.drewN m) := by
            intro n
            rw [← hq]
            exact Calls.quiet_of (refLeft_any (w5.drewN n) w1.heap.size v2 B at5 s5 HRS.out.ref)
          have HQ3 : Hid (∀ n, Calls Tryd.prog 44 #[.pointer (some ⟨br1, 0, none⟩)] (w5.drewN n) fun e w'' => e = .returned (.int .i64 (if s5 then 4 else 0)) ∧ ∃ m, w'' = w5.drewN m) := by
            intro n
            have h := Calls.quiet_of_same ((err_any (w5.drewN n) br1 v5 (refRdr B at5 s5) HRS.out.rdr).mono fun _ _ ⟨he, hw⟩ => ⟨he, hw.symm⟩)
            rw [refRdr_short] at h
            exact h
          clear hq HRS
          cases s5
          all_goals
            go_wp2_with fail
            go_quiet (first | (go_at_call 43; exact HQ1.out _) | (go_at_call 42; exact HQ2.out _) | (go_at_call 44; exact HQ3.out _))
            go_wp2_with fail
            go_roundw
            case rel => exact ⟨k + 1, by omega, by go_num, Lw.hid (by obtain ⟨a, b, c, d, e⟩ := HRT.out; exact ⟨a, b, c, d, e.ext (drewN_kept w5 nq)⟩)⟩
            case measure => simp [intOf]; omega
        by_cases h6 : what = 6
        · subst h6
          go_wp2_with fail
          refine (rest_any _ br1 v1 r HA.out.rdr).mono ?_
          rintro e w3 ⟨o1, rfl, ho1, hp3, hf3⟩
          obtain ⟨v5, h4⟩ := HA.out.rd hp3
          have H4 := Lw.hid h4
          have HO1 := Lw.hid ho1
          have HF3 := Lw.hid hf3
          have hrl : r.l.length ≤ 70368744177664 := HA.out.rdr.2.2.2.1
          clear hp3 h4 ho1 hf3 HA c0 c1 c2
          go_wp2_with fail
          refine (refLeft_any _ w1.heap.size v2 B at_ s H4.out.ref).mono ?_
          rw [HR0.out]
          rintro e w4 ⟨rfl, nd, rfl⟩
          have H4' : Hid (RS w (w3.drewN nd) br1 v5 (r.take r.l.length).2 w1.heap.size v2 B at_ s (.slice (some ⟨g, off, none⟩) m.length capf) m) := Lw.hid (H4.out.ext (drewN_kept w3 nd))
          clear H4
          have HO1'' : Hid (RdB (w3.drewN nd) o1 (r.take r.l.length).1) := Lw.hid (Rd.kept (drewN_kept w3 nd) HO1.out (fun _ _ h => h))
          clear HO1
          generalize w3.drewN nd = w4 at *
          go_wp2_with fail
          refine (refTake_any _ w1.heap.size v2 B at_ s (r.l.length : Int) (by omega) (by omega) H4'.out.ref).mono ?_
          rw [HR0.out, Int.toNat_natCast]
          rintro e w5 ⟨o2, rfl, ho2, hp4, hf4⟩
          have hk5 : RdB w5 o1 (r.take r.l.length).1 := by
            obtain ⟨_, _, _, _, hk⟩ := hp4
            refine ho1k HO1''.out hk ?_
            intro q hq
            have := HF3.out q hq
            simp at this
            have := HLB.out
            omega
          obtain ⟨at5, s5, h5, he5⟩ := H4'.out.rf hp4
          have H5 := Lw.hid h5
          have HE := Lw.hid he5
          have HO2 := Lw.hid ho2
          have HO1' := Lw.hid hk5
          clear hp4 h5 he5 ho2 hk5 H4' HO1''
          go_wp2_with fail
          refine (equal_any _ o1 o2 _ _ HO1'.out HO2.out true (by simp)).mono ?_
          rintro e w6 ⟨rfl, rfl⟩
          have hrs : RS w w5 br1 v5 (refRdr B at5 s5) w1.heap.size v2 B at5 s5 (.slice (some ⟨g, off, none⟩) m.length capf) m := HE.out ▸ H5.out
          have HRT : Hid (∃ v1' v2' at_ s, RS w w5 br1 v1' (refRdr B at_ s) w1.heap.size v2' B at_ s (.slice (some ⟨g, off, none⟩) m.length capf) m) := Lw.hid ⟨v5, v2, at5, s5, hrs⟩
          clear H5 HE
          have HRS := Lw.hid hrs
          have hc2 : w5.cell? ⟨w1.heap.size, 2, none⟩ = some (.bool s5) := by
            obtain ⟨⟨T, hh⟩, _⟩ := hrs.ref
            exact heap_cell hh 2
          clear hrs
          obtain ⟨q, hq⟩ : ∃ q, (refRdr B at5 s5).l.length = q := ⟨_, rfl⟩
          have HQ1 : Hid (∀ n, Calls Tryd.prog 43 #[.pointer (some ⟨br1, 0, none⟩)] (w5.drewN n) fun e w'' => e = .returned (.int .i64 (q : Int)) ∧ ∃ m, w'' = w5.drewN m) := by
            intro n
            rw [← hq]
            exact Calls.quiet_of_same ((left_any (w5.drewN n) br1 v5 (refRdr B at5 s5) HRS.out.rdr).mono fun _ _ ⟨he, hw⟩ => ⟨he, hw.symm⟩)
          have HQ2 : Hid (∀ n, Calls Tryd.prog 42 #[.pointer (some ⟨w1.heap.size, 0, none⟩)] (w5.drewN n) fun e w'' => e = .returned (.int .i64 (q : Int)) ∧ ∃ m, w'' = w5.drewN m) := by
            intro n
            rw [← hq]
            exact Calls.quiet_of (refLeft_any (w5.drewN n) w1.heap.size v2 B at5 s5 HRS.out.ref)
          have HQ3 : Hid (∀ n, Calls Tryd.prog 44 #[.pointer (some ⟨br1, 0, none⟩)] (w5.drewN n) fun e w'' => e = .returned (.int .i64 (if s5 then 4 else 0)) ∧ ∃ m, w'' = w5.drewN m) := by
            intro n
            have h := Calls.quiet_of_same ((err_any (w5.drewN n) br1 v5 (refRdr B at5 s5) HRS.out.rdr).mono fun _ _ ⟨he, hw⟩ => ⟨he, hw.symm⟩)
            rw [refRdr_short] at h
            exact h
          clear hq HRS
          cases s5
          all_goals
            go_wp2_with fail
            go_quiet (first | (go_at_call 43; exact HQ1.out _) | (go_at_call 42; exact HQ2.out _) | (go_at_call 44; exact HQ3.out _))
            go_wp2_with fail
            go_roundw
            case rel => exact ⟨k + 1, by omega, by go_num, Lw.hid (by obtain ⟨a, b, c, d, e⟩ := HRT.out; exact ⟨a, b, c, d, e.ext (drewN_kept w5 nq)⟩)⟩
            case measure => simp [intOf]; omega
        replace h0 := ne_false h0
        replace h1 := ne_false h1
        replace h2 := ne_false h2
        replace h3 := ne_false h3
        replace h4 := ne_false h4
        replace h5 := ne_false h5
        replace h6 := ne_false h6
        go_wp2_with fail
        obtain ⟨at5, hat5⟩ : ∃ at5, at5 = at_ := ⟨_, rfl⟩
        obtain ⟨s5, hs5⟩ : ∃ s5, s5 = s := ⟨_, rfl⟩
        rw [← hat5, ← hs5] at HR0
        rw [← hat5, ← hs5] at HA
        have HE := HR0
        obtain ⟨v5, H5⟩ : ∃ v5, Hid (RS w (wr.alloc (.cells #[.int .i64 what, .int .u64 (pn : Int), .string pt] 35)) br1 v5 r w1.heap.size v2 B at5 s5 (.slice (some ⟨g, off, none⟩) m.length capf) m) := ⟨v1, HA⟩
        clear HA c0 c1 c2 hat5 hs5
        generalize wr.alloc (.cells #[.int .i64 what, .int .u64 (pn : Int), .string pt] 35) = w5 at *
        have hrs : RS w w5 br1 v5 (refRdr B at5 s5) w1.heap.size v2 B at5 s5 (.slice (some ⟨g, off, none⟩) m.length capf) m := HE.out ▸ H5.out
        have HRT : Hid (∃ v1' v2' at_ s, RS w w5 br1 v1' (refRdr B at_ s) w1.heap.size v2' B at_ s (.slice (some ⟨g, off, none⟩) m.length capf) m) := Lw.hid ⟨v5, v2, at5, s5, hrs⟩
        clear H5 HE
        have HRS := Lw.hid hrs
        have hc2 : w5.cell? ⟨w1.heap.size, 2, none⟩ = some (.bool s5) := by
          obtain ⟨⟨T, hh⟩, _⟩ := hrs.ref
          exact heap_cell hh 2
        clear hrs
        obtain ⟨q, hq⟩ : ∃ q, (refRdr B at5 s5).l.length = q := ⟨_, rfl⟩
        have HQ1 : Hid (∀ n, Calls Tryd.prog 43 #[.pointer (some ⟨br1, 0, none⟩)] (w5.drewN n) fun e w'' => e = .returned (.int .i64 (q : Int)) ∧ ∃ m, w'' = w5.drewN m) := by
          intro n
          rw [← hq]
          exact Calls.quiet_of_same ((left_any (w5.drewN n) br1 v5 (refRdr B at5 s5) HRS.out.rdr).mono fun _ _ ⟨he, hw⟩ => ⟨he, hw.symm⟩)
        have HQ2 : Hid (∀ n, Calls Tryd.prog 42 #[.pointer (some ⟨w1.heap.size, 0, none⟩)] (w5.drewN n) fun e w'' => e = .returned (.int .i64 (q : Int)) ∧ ∃ m, w'' = w5.drewN m) := by
          intro n
          rw [← hq]
          exact Calls.quiet_of (refLeft_any (w5.drewN n) w1.heap.size v2 B at5 s5 HRS.out.ref)
        have HQ3 : Hid (∀ n, Calls Tryd.prog 44 #[.pointer (some ⟨br1, 0, none⟩)] (w5.drewN n) fun e w'' => e = .returned (.int .i64 (if s5 then 4 else 0)) ∧ ∃ m, w'' = w5.drewN m) := by
          intro n
          have h := Calls.quiet_of_same ((err_any (w5.drewN n) br1 v5 (refRdr B at5 s5) HRS.out.rdr).mono fun _ _ ⟨he, hw⟩ => ⟨he, hw.symm⟩)
          rw [refRdr_short] at h
          exact h
        clear hq HRS
        cases s5
        all_goals
          go_wp2_with fail
          go_quiet (first | (go_at_call 43; exact HQ1.out _) | (go_at_call 42; exact HQ2.out _) | (go_at_call 44; exact HQ3.out _))
          go_wp2_with fail
          go_roundw
          case rel => exact ⟨k + 1, by omega, by go_num, Lw.hid (by obtain ⟨a, b, c, d, e⟩ := HRT.out; exact ⟨a, b, c, d, e.ext (drewN_kept w5 nq)⟩)⟩
          case measure => simp [intOf]; omega
      · go_wp2_with fail
        refine (wakes_any _ (HT.out.below HL.out.below)).mono ?_
        rintro e w2 ⟨rfl, hb⟩
        go_wp2_with fail
        go_ret
        exact ⟨rfl, HL.out.below.trans (hb.mono HL.out.below.size)⟩
end Go.Proofs.YtcmipliglcakdaaDoor
