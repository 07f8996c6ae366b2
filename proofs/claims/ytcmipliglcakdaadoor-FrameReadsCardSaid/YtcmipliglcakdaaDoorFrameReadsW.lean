/- FrameReads, walked. -/
import Derived.Test.YtcmipliglcakdaaDoorRefD
import Derived.Test.YtcmipliglcakdaaDoorFrameO
namespace Go.Proofs.YtcmipliglcakdaaDoor
open Go Go.RowKit Go.Lw
set_option maxRecDepth 100000
theorem rdb_cast4 {w : World} {ad : Option Addr} {n cap : Nat} {l : List UInt8} (hn : l.length = n) (h : RdB w (.slice ad n cap) l) : RdB w (.slice ad l.length cap) l := by subst hn; exact h
set_option maxHeartbeats 8000000 in
theorem freads_any (w : World) (u : Value) (B : List UInt8) (hu : RdB w u B) (hm : TabM w) (hT : Tab w) :
    Calls Tryd.prog 10 #[u] w fun e w' => e = .returned (.bool true) ∧ Below w.heap.size w w' := by
  obtain ⟨adu, capu, rfl, hu1, hu2, hu3⟩ := hu.open
  clear hu3
  unfold maxLen at hu2
  have HM := Lw.hid hm; have HTB := Lw.hid hT; have HU := Lw.hid hu
  clear hm hT hu
  obtain ⟨n', hn', HB⟩ : ∃ n', n' = min B.length 700 ∧ Hid (RdB w (.slice adu n' capu) (B.take n')) := ⟨_, rfl, Lw.hid (HU.out.take _ (Nat.min_le_left _ _))⟩
  have HBL : Hid ((B.take n').length = n') := Lw.hid (by rw [List.length_take]; omega)
  have hn9 : n' ≤ 700 := by omega
  have hcases : n' = 700 ∧ 700 < B.length ∨ n' = B.length ∧ B.length ≤ 700 := by omega
  clear hn' HU
  generalize hbb : B.take n' = b at *
  clear hbb
  generalize B.length = bl at *
  go_enter Tryd.func10, Tryd.ntmps10
  rcases hcases with ⟨rfl, hlt⟩ | ⟨rfl, hlt⟩
  all_goals
    go_wp2_with (at_builtin; refine wpList_app rfl _ _ _ rfl EB (.slice none 0 0) 0 [] rfl (World.ownsRow_nil _ 0 _ 1) _ b.length _ (by have := HBL.out; rw [this]; rfl) (show RdB _ _ b from rdb_cast4 HBL.out HB.out) (bytes_oneCell _) (by unfold maxLen; rw [HBL.out]; omega) (by rw [HBL.out]; omega) ?_; intro ad cap w1 ho hg hf)
    rw [Nat.zero_add] at ho hf
    obtain ⟨N, hN⟩ : ∃ N, b.length = N := ⟨_, rfl⟩
    have hN9 : N ≤ 700 := by rw [← hN, HBL.out]; omega
    have ho' : w1.ownsRow 0 5 1 (.slice ad N cap) N (b.map bv) := by rw [← hN]; exact ho
    have hrb : RdB w1 (.slice ad b.length cap) b := RdB.of_own ho rfl
    have hfr : ∀ k, blk (.slice ad N cap) k → w.heap.size ≤ k ∧ k < w1.heap.size := fun k hk => ⟨by rcases hf k (by rw [hN]; exact hk) with h | h; exact (blk_none h).elim; exact h, own_lt ho' k hk⟩
    have hk1 : Kept (fun _ => False) w w1 := (Kept.refl _ _).grown hg (fun k hk => by cases hk)
    have O1 := Lw.hid ho'; have R1 := Lw.hid hrb; have FR := Lw.hid hfr; have K1 := Lw.hid hk1; have HN := Lw.hid hN
    clear ho' hrb hfr hk1 ho hf hg HB
    obtain ⟨X, tg, er, hd⟩ : ∃ X tg er, decF b = (X, tg, er) := ⟨_, _, _, rfl⟩
    have hX : X.kind < 256 ∧ (er ≠ 0 → X.p = []) := by
      by_cases h0 : er = 0
      · subst h0; exact ⟨(decF_ok hd).2.1.1, fun h => absurd rfl h⟩
      · have := decF_no (b := b) (by rw [hd]; exact h0)
        rw [hd] at this
        simp only at this
        rw [this.1]
        exact ⟨by decide, fun _ => rfl⟩
    have her : er < 12 := by
      by_cases h0 : er = 0
      · omega
      · have := decF_no (b := b) (by rw [hd]; exact h0)
        rw [hd] at this
        simp only at this
        omega
    have HD := Lw.hid hd; have HX := Lw.hid hX
    clear hd hX
    refine (rdecode_any _ _ b R1.out (by rw [HN.out]; omega)).mono ?_
    rw [HD.out]
    simp only
    rintro e w2 ⟨adr, capr, rfl, pr, k2, br⟩
    have rd2 := R1.out.kept k2 (fun _ _ h => h)
    have O2 := Lw.hid (own_kept k2 O1.out (fun _ _ h => h))
    have hs2 := k2.size
    have K2 := Lw.hid ((K1.out.trans k2 (fun _ _ h => h)).alloc (.cells #[.int .i64 (X.kind : Int), .int .u32 (X.ses : Int), .int .u32 (X.ep : Int), .int .u32 (X.num : Int), .int .u32 (X.ack : Int), .int .u32 (X.mask : Int), (.slice adr X.p.length capr)] 48 (0, 0)))
    have PR := Lw.hid (pr.alloc (.cells #[.int .i64 (X.kind : Int), .int .u32 (X.ses : Int), .int .u32 (X.ep : Int), .int .u32 (X.num : Int), .int .u32 (X.ack : Int), .int .u32 (X.mask : Int), (.slice adr X.p.length capr)] 48 (0, 0)))
    have R2 := Lw.hid (rd2.alloc (.cells #[.int .i64 (X.kind : Int), .int .u32 (X.ses : Int), .int .u32 (X.ep : Int), .int .u32 (X.num : Int), .int .u32 (X.ack : Int), .int .u32 (X.mask : Int), (.slice adr X.p.length capr)] 48 (0, 0)))
    have O2' := Lw.hid (own_kept ((Kept.refl (fun _ => False) w2).alloc (.cells #[.int .i64 (X.kind : Int), .int .u32 (X.ses : Int), .int .u32 (X.ep : Int), .int .u32 (X.num : Int), .int .u32 (X.ack : Int), .int .u32 (X.mask : Int), (.slice adr X.p.length capr)] 48 (0, 0))) O2.out (fun _ _ h => h))
    have H3 := Lw.hid (heap_alloc w2 (.cells #[.int .i64 (X.kind : Int), .int .u32 (X.ses : Int), .int .u32 (X.ep : Int), .int .u32 (X.num : Int), .int .u32 (X.ack : Int), .int .u32 (X.mask : Int), (.slice adr X.p.length capr)] 48 (0, 0)))
    obtain ⟨gr, hgr⟩ : ∃ g, g = w2.heap.size := ⟨_, rfl⟩
    have hsr : w1.heap.size ≤ gr := by omega
    have BR : Hid (∀ k, blk (.slice adr X.p.length capr) k → w1.heap.size ≤ k) := Lw.hid br
    rw [HN.out]
    clear O1 R1 K1 pr k2 rd2 O2 br
    go_wp2_with fail
    rw [← hgr] at H3 ⊢
    clear hgr hs2
    rw [HN.out] at R2
    generalize w2.alloc (.cells #[.int .i64 (X.kind : Int), .int .u32 (X.ses : Int), .int .u32 (X.ep : Int), .int .u32 (X.num : Int), .int .u32 (X.ack : Int), .int .u32 (X.mask : Int), (.slice adr X.p.length capr)] 48 (0, 0)) = w3 at *
    have R3 := Lw.hid (rdb_cast4 HN.out R2.out)
    refine (decode_any _ _ b (rdb_cast' HN.out R2.out) (by rw [HN.out]; omega) (HM.out.kept K2.out) (HTB.out.below (Below.of_kept K2.out))).mono ?_
    rw [HD.out]
    simp only
    rintro e w4 ⟨adf, capf, rfl, pf, k4, bf⟩
    have hg3 : gr < w3.heap.size := heap_lt H3.out
    have hs4 := k4.size
    have K4 := Lw.hid ((K2.out.trans k4 (fun _ _ h => h)).alloc (.cells #[.int .u8 (X.kind : Int), .int .u32 (X.ses : Int), .int .u32 (X.ep : Int), .int .u32 (X.num : Int), .int .u32 (X.ack : Int), .int .u32 (X.mask : Int), (.slice adf X.p.length capf)] 46 (0, 0)))
    have PR4 := Lw.hid ((PR.out.kept k4 (fun _ _ h => h)).alloc (.cells #[.int .u8 (X.kind : Int), .int .u32 (X.ses : Int), .int .u32 (X.ep : Int), .int .u32 (X.num : Int), .int .u32 (X.ack : Int), .int .u32 (X.mask : Int), (.slice adf X.p.length capf)] 46 (0, 0)))
    have PF4 := Lw.hid (pf.alloc (.cells #[.int .u8 (X.kind : Int), .int .u32 (X.ses : Int), .int .u32 (X.ep : Int), .int .u32 (X.num : Int), .int .u32 (X.ack : Int), .int .u32 (X.mask : Int), (.slice adf X.p.length capf)] 46 (0, 0)))
    have O4 := Lw.hid (own_kept ((Kept.refl (fun _ => False) w4).alloc (.cells #[.int .u8 (X.kind : Int), .int .u32 (X.ses : Int), .int .u32 (X.ep : Int), .int .u32 (X.num : Int), .int .u32 (X.ack : Int), .int .u32 (X.mask : Int), (.slice adf X.p.length capf)] 46 (0, 0))) (own_kept k4 O2'.out (fun _ _ h => h)) (fun _ _ h => h))
    have H34 := Lw.hid (Kept.heap ((Kept.refl (fun _ => False) w4).alloc (.cells #[.int .u8 (X.kind : Int), .int .u32 (X.ses : Int), .int .u32 (X.ep : Int), .int .u32 (X.num : Int), .int .u32 (X.ack : Int), .int .u32 (X.mask : Int), (.slice adf X.p.length capf)] 46 (0, 0))) (k4.heap H3.out (fun h => h)) (fun h => h))
    have H6 := Lw.hid (heap_alloc w4 (.cells #[.int .u8 (X.kind : Int), .int .u32 (X.ses : Int), .int .u32 (X.ep : Int), .int .u32 (X.num : Int), .int .u32 (X.ack : Int), .int .u32 (X.mask : Int), (.slice adf X.p.length capf)] 46 (0, 0)))
    obtain ⟨gf, hgf⟩ : ∃ g, g = w4.heap.size := ⟨_, rfl⟩
    have hsf : gr < gf := by omega
    have BF : Hid (∀ k, blk (.slice adf X.p.length capf) k → w1.heap.size ≤ k) := Lw.hid (fun k hk => by have := bf k hk; omega)
    clear K2 PR R2 R3 O2' H3 pf k4 bf
    go_wp2_with fail
    rw [← hgf] at H6 ⊢
    clear hgf hs4 hg3
    generalize w4.alloc (.cells #[.int .u8 (X.kind : Int), .int .u32 (X.ses : Int), .int .u32 (X.ep : Int), .int .u32 (X.num : Int), .int .u32 (X.ack : Int), .int .u32 (X.mask : Int), (.slice adf X.p.length capf)] 46 (0, 0)) = w5 at *
    go_loopw [9] (fun i wi => ∃ (j : Nat) (xs : List UInt8), j ≤ N ∧ i = .int .i64 j ∧ xs.length = N ∧ Hid (wi.ownsRow 0 5 1 (.slice ad N cap) N (xs.map bv)) ∧ Hid (Kept (blk (.slice ad N cap)) w5 wi)) (fun i _ => N - (intOf i).toNat)
    case atStart => exact ⟨0, b, Nat.zero_le _, rfl, HN.out, O4, Lw.hid (Kept.refl _ _)⟩
    case round =>
      obtain ⟨j, xs, hj, rfl, hxs, HO, HK⟩ := hrel
      by_cases hjl : j < N
      · obtain ⟨_, _, _, _, _, hgo⟩ := own_slice HO.out
        rename_i ad' cap' e1 _ _
        cases e1
        obtain ⟨g6, rfl⟩ := hgo (by omega)
        obtain ⟨old, hold⟩ : ∃ old : UInt8, (xs.map bv)[j]? = some (bv old) := ⟨xs[j]'(by omega), by rw [List.getElem?_map, List.getElem?_eq_getElem (by omega)]; rfl⟩
        have hc := own_cell HO.out j _ hold (by omega)
        have hfz := HO.out.frozenAt j
        have hx2 : bits .xor .u8 (old.toNat : Int) 255 = ((old ^^^ 255).toNat : Int) := by
          have := u8_xor_nat old.toNat 255 (UInt8.toNat_lt _) (by decide)
          rw [UInt8.toNat_xor]; exact this
        clear hold
        unfold bv at hc
        have HO6 : Hid ((wr.setCell ⟨g6, j, none⟩ (.int .u8 ((old ^^^ 255).toNat : Int))).ownsRow 0 5 1 (.slice (some ⟨g6, 0, none⟩) N cap) N ((xs.set j (old ^^^ 255)).map bv)) := by
          have h := (HO.out.stored j (bv (old ^^^ 255))).1
          rw [← List.map_set] at h
          exact Lw.hid h
        have HK6 : Hid (Kept (blk (.slice (some ⟨g6, 0, none⟩) N cap)) w5 (wr.setCell ⟨g6, j, none⟩ (.int .u8 ((old ^^^ 255).toNat : Int)))) := Lw.hid (HK.out.setCell (p := ⟨g6, j, none⟩) (fun _ => rfl) _)
        have hob := old.toNat_lt
        generalize (old ^^^ 255).toNat = nb at *
        generalize old.toNat = ob at *
        go_wp2_with fail
        go_roundw
        case rel => exact ⟨j + 1, xs.set j (old ^^^ 255), by omega, by go_num, by simp [hxs], HO6, HK6⟩
        case measure => simp [intOf]; omega
      · have hK5 : Kept (fun k => w.heap.size ≤ k) w wr := (K4.out.mono (fun _ _ h => h.elim)).trans HK.out (fun k _ hk => (FR.out k hk).1)
        have h3 := HK.out.heap H34.out (fun h => by have := (FR.out _ h).2; omega)
        have h6 := HK.out.heap H6.out (fun h => by have := (FR.out _ h).2; omega)
        have pr := PR4.out.kept HK.out (fun k hk h => by have := (FR.out _ h).2; have := BR.out k hk; omega)
        have pf := PF4.out.kept HK.out (fun k hk h => by have := (FR.out _ h).2; have := BF.out k hk; omega)
        have K5 := Lw.hid hK5; have A3 := Lw.hid h3; have A6 := Lw.hid h6; have PR5 := Lw.hid pr; have PF5 := Lw.hid pf
        have hm5 : TabM wr := HM.out.below (K5.out.below (Nat.le_refl _) (fun k hk h => by omega))
        have HM5 := Lw.hid hm5
        clear hm5 hK5 h3 h6 pr pf HK HO H34 H6 PR4 PF4 O4 K4
        have hXk := HX.out.1
        by_cases h0 : er = 0
        · have hez : ((er : Int) == 0) = true := by subst h0; rfl
          go_wp2_with fail
          refine wp_region_tail 27 [stV (X.val (.slice adf X.p.length capf)), stV (X.rval (.slice adf X.p.length capf)), stV (X.rval (.slice adr X.p.length capr)), stV (.bool true), stV (.bool true), stV (.int .u64 (tg : Int)), stV (.int .u64 (tg : Int)), stV (.bool true), stV (.bool true), stV (.bool true), stV (.int .i64 0), stV (.int .i64 0), stV (.bool true), stV (.bool true), stV (.bool true), stV (.int .i64 0), stV (.bool true), stV (.bool true), stV undef, stV undef, stV undef, stV undef, stV (.bool true), stV (.bool true), stV (.bool true), stV (.bool true), stV (.bool true)] (by kernel_rfl) (by kernel_rfl) ?_ ?_
          · -- each operation by itself
            refine ssteps_cons (fun a' w' hI hag hf K hK => ?_) ?_
            · have s6 := hag.same 6 (by decide)
              clear hag
              have hh := hI.heap A6.out (fun h => h)
              have g0 := heap_cell hh 0
              have g1 := heap_cell hh 1
              have g2 := heap_cell hh 2
              have g3 := heap_cell hh 3
              have g4 := heap_cell hh 4
              have g5 := heap_cell hh 5
              have g6 := heap_cell hh 6
              clear hh
              go_wp2_with fail
              exact hK _ _ hI (Kept.refl _ _) rfl
            refine ssteps_cons (fun a' w' hI hag hf K hK => ?_) ?_
            · obtain ⟨⟨_, h0, rfl⟩, -⟩ : SFacts _ _ a' w' [0] := hf
              clear hag
              go_wp2_with fail
              refine (of_any _ X adf X.p.length capf hXk).mono ?_
              rintro e wn ⟨rfl, hkn⟩
              go_wp2_with fail
              exact hK _ _ (hI.trans hkn (fun _ _ h => h)) hkn rfl
            refine ssteps_cons (fun a' w' hI hag hf K hK => ?_) ?_
            · have s3 := hag.same 3 (by decide)
              clear hag
              have hh := hI.heap A3.out (fun h => h)
              have g0 := heap_cell hh 0
              have g1 := heap_cell hh 1
              have g2 := heap_cell hh 2
              have g3 := heap_cell hh 3
              have g4 := heap_cell hh 4
              have g5 := heap_cell hh 5
              have g6 := heap_cell hh 6
              clear hh
              go_wp2_with fail
              exact hK _ _ hI (Kept.refl _ _) rfl
            refine ssteps_cons (fun a' w' hI hag hf K hK => ?_) ?_
            · obtain ⟨⟨_, h1, rfl⟩, ⟨_, h2, rfl⟩, -⟩ : SFacts _ _ a' w' [1, 2] := hf
              clear hag
              go_wp2_with fail
              refine (rsame_any _ X X _ _ (PF5.out.kept hI (fun _ _ h => h)) (PR5.out.kept hI (fun _ _ h => h)) true ((same_iff _ _).2 rfl)).mono ?_
              rintro e wn ⟨rfl, hkn⟩
              go_wp2_with fail
              exact hK _ _ (hI.trans hkn (fun _ _ h => h)) hkn rfl
            refine ssteps_cons (fun a' w' hI hag hf K hK => ?_) ?_
            · obtain ⟨⟨_, h3, rfl⟩, -⟩ : SFacts _ _ a' w' [3] := hf
              clear hag
              go_wp2_with fail
              exact hK _ _ hI (Kept.refl _ _) rfl
            refine ssteps_cons (fun a' w' hI hag hf K hK => ?_) ?_
            · obtain ⟨⟨_, h4, rfl⟩, -⟩ : SFacts _ _ a' w' [4] := hf
              have s7 := hag.same 7 (by decide)
              clear hag
              go_wp2_with fail
              exact hK _ _ hI (Kept.refl _ _) rfl
            refine ssteps_cons (fun a' w' hI hag hf K hK => ?_) ?_
            · obtain ⟨⟨_, h4, rfl⟩, -⟩ : SFacts _ _ a' w' [4] := hf
              have s4 := hag.same 4 (by decide)
              clear hag
              go_wp2_with fail
              exact hK _ _ hI (Kept.refl _ _) rfl
            refine ssteps_cons (fun a' w' hI hag hf K hK => ?_) ?_
            · obtain ⟨⟨_, h5, rfl⟩, ⟨_, h6, rfl⟩, ⟨_, h4, rfl⟩, -⟩ : SFacts _ _ a' w' [5, 6, 4] := hf
              clear hag
              go_wp2_with fail
              exact hK _ _ hI (Kept.refl _ _) rfl
            refine ssteps_cons (fun a' w' hI hag hf K hK => ?_) ?_
            · obtain ⟨⟨_, h4, rfl⟩, ⟨_, h7, rfl⟩, -⟩ : SFacts _ _ a' w' [4, 7] := hf
              clear hag
              go_wp2_with fail
              exact hK _ _ hI (Kept.refl _ _) rfl
            refine ssteps_cons (fun a' w' hI hag hf K hK => ?_) ?_
            · obtain ⟨⟨_, h8, rfl⟩, -⟩ : SFacts _ _ a' w' [8, 4] := hf
              clear hag
              go_wp2_with fail
              exact hK _ _ hI (Kept.refl _ _) rfl
            refine ssteps_cons (fun a' w' hI hag hf K hK => ?_) ?_
            · obtain ⟨⟨_, h9, rfl⟩, -⟩ : SFacts _ _ a' w' [9] := hf
              have s8 := hag.same 8 (by decide)
              clear hag
              go_wp2_with fail
              exact hK _ _ hI (Kept.refl _ _) rfl
            refine ssteps_cons (fun a' w' hI hag hf K hK => ?_) ?_
            · obtain ⟨⟨_, h9, rfl⟩, -⟩ : SFacts _ _ a' w' [9] := hf
              have s5 := hag.same 5 (by decide)
              clear hag
              go_wp2_with fail
              exact hK _ _ hI (Kept.refl _ _) rfl
            refine ssteps_cons (fun a' w' hI hag hf K hK => ?_) ?_
            · obtain ⟨⟨_, h10, rfl⟩, ⟨_, h11, rfl⟩, ⟨_, h9, rfl⟩, -⟩ : SFacts _ _ a' w' [10, 11, 9] := hf
              clear hag
              go_wp2_with fail
              exact hK _ _ hI (Kept.refl _ _) rfl
            refine ssteps_cons (fun a' w' hI hag hf K hK => ?_) ?_
            · obtain ⟨⟨_, h9, rfl⟩, ⟨_, h12, rfl⟩, -⟩ : SFacts _ _ a' w' [9, 12] := hf
              clear hag
              go_wp2_with fail
              exact hK _ _ hI (Kept.refl _ _) rfl
            refine ssteps_cons (fun a' w' hI hag hf K hK => ?_) ?_
            · obtain ⟨⟨_, h13, rfl⟩, -⟩ : SFacts _ _ a' w' [13, 9] := hf
              clear hag
              go_wp2_with fail
              exact hK _ _ hI (Kept.refl _ _) rfl
            refine ssteps_cons (fun a' w' hI hag hf K hK => ?_) ?_
            · obtain ⟨⟨_, h14, rfl⟩, -⟩ : SFacts _ _ a' w' [14] := hf
              have s8 := hag.same 8 (by decide)
              clear hag
              go_wp2_with fail
              exact hK _ _ hI (Kept.refl _ _) rfl
            refine ssteps_cons (fun a' w' hI hag hf K hK => ?_) ?_
            · obtain ⟨⟨_, h15, rfl⟩, ⟨_, h14, rfl⟩, -⟩ : SFacts _ _ a' w' [15, 14] := hf
              clear hag
              go_wp2_with fail
              exact hK _ _ hI (Kept.refl _ _) rfl
            refine ssteps_cons (fun a' w' hI hag hf K hK => ?_) ?_
            · obtain ⟨⟨_, h16, rfl⟩, ⟨_, h14, rfl⟩, -⟩ : SFacts _ _ a' w' [16, 14] := hf
              clear hag
              go_wp2_with fail
              exact hK _ _ hI (Kept.refl _ _) rfl
            refine ssteps_cons (fun a' w' hI hag hf K hK => ?_) ?_
            · obtain ⟨⟨_, h17, rfl⟩, -⟩ : SFacts _ _ a' w' [17] := hf
              have s6 := hag.same 6 (by decide)
              clear hag
              go_wp2_with fail
              exact hK _ _ hI (Kept.refl _ _) rfl
            refine ssteps_cons (fun a' w' hI hag hf K hK => ?_) ?_
            · obtain ⟨⟨_, h18, rfl⟩, ⟨_, h17, rfl⟩, -⟩ : SFacts _ _ a' w' [18, 17] := hf
              clear hag
              go_wp2_with fail
              exact hK _ _ hI (Kept.refl _ _) rfl
            refine ssteps_cons (fun a' w' hI hag hf K hK => ?_) ?_
            · obtain ⟨⟨_, h19, rfl⟩, ⟨_, h17, rfl⟩, -⟩ : SFacts _ _ a' w' [19, 17] := hf
              clear hag
              go_wp2_with fail
              exact hK _ _ hI (Kept.refl _ _) rfl
            refine ssteps_cons (fun a' w' hI hag hf K hK => ?_) ?_
            · obtain ⟨⟨_, h20, rfl⟩, ⟨_, h17, rfl⟩, -⟩ : SFacts _ _ a' w' [20, 17] := hf
              clear hag
              go_wp2_with fail
              exact hK _ _ hI (Kept.refl _ _) rfl
            refine ssteps_cons (fun a' w' hI hag hf K hK => ?_) ?_
            · obtain ⟨⟨_, h17, rfl⟩, ⟨_, h21, rfl⟩, ⟨_, h14, rfl⟩, -⟩ : SFacts _ _ a' w' [17, 21, 14] := hf
              clear hag
              go_wp2_with fail
              exact hK _ _ hI (Kept.refl _ _) rfl
            refine ssteps_cons (fun a' w' hI hag hf K hK => ?_) ?_
            · obtain ⟨⟨_, h14, rfl⟩, ⟨_, h22, rfl⟩, -⟩ : SFacts _ _ a' w' [14, 22] := hf
              clear hag
              go_wp2_with fail
              exact hK _ _ hI (Kept.refl _ _) rfl
            refine ssteps_cons (fun a' w' hI hag hf K hK => ?_) ?_
            · obtain ⟨⟨_, h23, rfl⟩, -⟩ : SFacts _ _ a' w' [23, 17] := hf
              clear hag
              go_wp2_with fail
              exact hK _ _ hI (Kept.refl _ _) rfl
            refine ssteps_cons (fun a' w' hI hag hf K hK => ?_) ?_
            · obtain ⟨⟨_, h24, rfl⟩, -⟩ : SFacts _ _ a' w' [24] := hf
              clear hag
              go_wp2_with fail
              refine (ftells_any _ (HM5.out.kept hI)).mono ?_
              rintro e wn ⟨rfl, hkn⟩
              go_wp2_with fail
              exact hK _ _ (hI.trans hkn (fun _ _ h => h)) hkn rfl
            refine ssteps_cons (fun a' w' hI hag hf K hK => ?_) ?_
            · obtain ⟨⟨_, h24, rfl⟩, ⟨_, h25, rfl⟩, -⟩ : SFacts _ _ a' w' [24, 25] := hf
              clear hag
              go_wp2_with fail
              exact hK _ _ hI (Kept.refl _ _) rfl
            exact trivial
          · intro vs w9 hI hvs
            have q0 : vs 0 = (X.val (.slice adf X.p.length capf)) := hvs 0 _ _ rfl rfl
            have q1 : vs 1 = (X.rval (.slice adf X.p.length capf)) := hvs 1 _ _ rfl rfl
            have q2 : vs 2 = (X.rval (.slice adr X.p.length capr)) := hvs 2 _ _ rfl rfl
            have q3 : vs 3 = (.bool true) := hvs 3 _ _ rfl rfl
            have q4 : vs 4 = (.bool true) := hvs 4 _ _ rfl rfl
            have q5 : vs 5 = (.int .u64 (tg : Int)) := hvs 5 _ _ rfl rfl
            have q6 : vs 6 = (.int .u64 (tg : Int)) := hvs 6 _ _ rfl rfl
            have q7 : vs 7 = (.bool true) := hvs 7 _ _ rfl rfl
            have q8 : vs 8 = (.bool true) := hvs 8 _ _ rfl rfl
            have q9 : vs 9 = (.bool true) := hvs 9 _ _ rfl rfl
            have q10 : vs 10 = (.int .i64 0) := hvs 10 _ _ rfl rfl
            have q11 : vs 11 = (.int .i64 0) := hvs 11 _ _ rfl rfl
            have q12 : vs 12 = (.bool true) := hvs 12 _ _ rfl rfl
            have q13 : vs 13 = (.bool true) := hvs 13 _ _ rfl rfl
            have q14 : vs 14 = (.bool true) := hvs 14 _ _ rfl rfl
            have q15 : vs 15 = (.int .i64 0) := hvs 15 _ _ rfl rfl
            have q16 : vs 16 = (.bool true) := hvs 16 _ _ rfl rfl
            have q17 : vs 17 = (.bool true) := hvs 17 _ _ rfl rfl
            have q18 : vs 18 = undef := hvs 18 _ _ rfl rfl
            have q19 : vs 19 = undef := hvs 19 _ _ rfl rfl
            have q20 : vs 20 = undef := hvs 20 _ _ rfl rfl
            have q21 : vs 21 = undef := hvs 21 _ _ rfl rfl
            have q22 : vs 22 = (.bool true) := hvs 22 _ _ rfl rfl
            have q23 : vs 23 = (.bool true) := hvs 23 _ _ rfl rfl
            have q24 : vs 24 = (.bool true) := hvs 24 _ _ rfl rfl
            have q25 : vs 25 = (.bool true) := hvs 25 _ _ rfl rfl
            have q26 : vs 26 = (.bool true) := hvs 26 _ _ rfl rfl
            clear hvs
            simp only [List.take_succ_cons, List.take_zero, List.drop_succ_cons, List.drop_zero, putAll, Act.put, List.setIfInBounds_toArray, List.set_cons_zero, List.set_cons_succ, Nat.reduceAdd, q0, q1, q2, q3, q4, q5, q6, q7, q8, q9, q10, q11, q12, q13, q14, q15, q16, q17, q18, q19, q20, q21, q22, q23, q24, q25, q26]
            clear q0 q1 q2 q3 q4 q5 q6 q7 q8 q9 q10 q11 q12 q13 q14 q15 q16 q17 q18 q19 q20 q21 q22 q23 q24 q25 q26
            go_wp2_with fail
            go_ret
            exact ⟨rfl, (K5.out.trans hI (fun _ _ h => h.elim)).below (Nat.le_refl _) (fun k hk h => by omega)⟩
        · have hez : ((er : Int) == 0) = false := beq_eq_false_iff_ne.2 (by omega)
          have hp0 : ((X.p.length : Int) == 0) = true := by rw [HX.out.2 h0]; rfl
          go_wp2_with fail
          refine wp_region_tail 27 [stV (X.val (.slice adf X.p.length capf)), stV (X.rval (.slice adf X.p.length capf)), stV (X.rval (.slice adr X.p.length capr)), stV (.bool true), stV (.bool true), stV (.int .u64 (tg : Int)), stV (.int .u64 (tg : Int)), stV (.bool true), stV (.bool true), stV (.bool true), stV (.int .i64 (er : Int)), stV (.int .i64 (er : Int)), stV (.bool true), stV (.bool true), stV (.bool true), stV (.int .i64 (er : Int)), stV (.bool false), stV (.bool false), stV (.pointer (some ⟨gf, 6, none⟩)), stV (.slice adf X.p.length capf), stV (.int .i64 (X.p.length : Int)), stV (.bool true), stV (.bool true), stV (.bool true), stV (.bool true), stV (.bool true), stV (.bool true)] (by kernel_rfl) (by kernel_rfl) ?_ ?_
          · -- each operation by itself
            refine ssteps_cons (fun a' w' hI hag hf K hK => ?_) ?_
            · have s6 := hag.same 6 (by decide)
              clear hag
              have hh := hI.heap A6.out (fun h => h)
              have g0 := heap_cell hh 0
              have g1 := heap_cell hh 1
              have g2 := heap_cell hh 2
              have g3 := heap_cell hh 3
              have g4 := heap_cell hh 4
              have g5 := heap_cell hh 5
              have g6 := heap_cell hh 6
              clear hh
              go_wp2_with fail
              exact hK _ _ hI (Kept.refl _ _) rfl
            refine ssteps_cons (fun a' w' hI hag hf K hK => ?_) ?_
            · obtain ⟨⟨_, h0, rfl⟩, -⟩ : SFacts _ _ a' w' [0] := hf
              clear hag
              go_wp2_with fail
              refine (of_any _ X adf X.p.length capf hXk).mono ?_
              rintro e wn ⟨rfl, hkn⟩
              go_wp2_with fail
              exact hK _ _ (hI.trans hkn (fun _ _ h => h)) hkn rfl
            refine ssteps_cons (fun a' w' hI hag hf K hK => ?_) ?_
            · have s3 := hag.same 3 (by decide)
              clear hag
              have hh := hI.heap A3.out (fun h => h)
              have g0 := heap_cell hh 0
              have g1 := heap_cell hh 1
              have g2 := heap_cell hh 2
              have g3 := heap_cell hh 3
              have g4 := heap_cell hh 4
              have g5 := heap_cell hh 5
              have g6 := heap_cell hh 6
              clear hh
              go_wp2_with fail
              exact hK _ _ hI (Kept.refl _ _) rfl
            refine ssteps_cons (fun a' w' hI hag hf K hK => ?_) ?_
            · obtain ⟨⟨_, h1, rfl⟩, ⟨_, h2, rfl⟩, -⟩ : SFacts _ _ a' w' [1, 2] := hf
              clear hag
              go_wp2_with fail
              refine (rsame_any _ X X _ _ (PF5.out.kept hI (fun _ _ h => h)) (PR5.out.kept hI (fun _ _ h => h)) true ((same_iff _ _).2 rfl)).mono ?_
              rintro e wn ⟨rfl, hkn⟩
              go_wp2_with fail
              exact hK _ _ (hI.trans hkn (fun _ _ h => h)) hkn rfl
            refine ssteps_cons (fun a' w' hI hag hf K hK => ?_) ?_
            · obtain ⟨⟨_, h3, rfl⟩, -⟩ : SFacts _ _ a' w' [3] := hf
              clear hag
              go_wp2_with fail
              exact hK _ _ hI (Kept.refl _ _) rfl
            refine ssteps_cons (fun a' w' hI hag hf K hK => ?_) ?_
            · obtain ⟨⟨_, h4, rfl⟩, -⟩ : SFacts _ _ a' w' [4] := hf
              have s7 := hag.same 7 (by decide)
              clear hag
              go_wp2_with fail
              exact hK _ _ hI (Kept.refl _ _) rfl
            refine ssteps_cons (fun a' w' hI hag hf K hK => ?_) ?_
            · obtain ⟨⟨_, h4, rfl⟩, -⟩ : SFacts _ _ a' w' [4] := hf
              have s4 := hag.same 4 (by decide)
              clear hag
              go_wp2_with fail
              exact hK _ _ hI (Kept.refl _ _) rfl
            refine ssteps_cons (fun a' w' hI hag hf K hK => ?_) ?_
            · obtain ⟨⟨_, h5, rfl⟩, ⟨_, h6, rfl⟩, ⟨_, h4, rfl⟩, -⟩ : SFacts _ _ a' w' [5, 6, 4] := hf
              clear hag
              go_wp2_with fail
              exact hK _ _ hI (Kept.refl _ _) rfl
            refine ssteps_cons (fun a' w' hI hag hf K hK => ?_) ?_
            · obtain ⟨⟨_, h4, rfl⟩, ⟨_, h7, rfl⟩, -⟩ : SFacts _ _ a' w' [4, 7] := hf
              clear hag
              go_wp2_with fail
              exact hK _ _ hI (Kept.refl _ _) rfl
            refine ssteps_cons (fun a' w' hI hag hf K hK => ?_) ?_
            · obtain ⟨⟨_, h8, rfl⟩, -⟩ : SFacts _ _ a' w' [8, 4] := hf
              clear hag
              go_wp2_with fail
              exact hK _ _ hI (Kept.refl _ _) rfl
            refine ssteps_cons (fun a' w' hI hag hf K hK => ?_) ?_
            · obtain ⟨⟨_, h9, rfl⟩, -⟩ : SFacts _ _ a' w' [9] := hf
              have s8 := hag.same 8 (by decide)
              clear hag
              go_wp2_with fail
              exact hK _ _ hI (Kept.refl _ _) rfl
            refine ssteps_cons (fun a' w' hI hag hf K hK => ?_) ?_
            · obtain ⟨⟨_, h9, rfl⟩, -⟩ : SFacts _ _ a' w' [9] := hf
              have s5 := hag.same 5 (by decide)
              clear hag
              go_wp2_with fail
              exact hK _ _ hI (Kept.refl _ _) rfl
            refine ssteps_cons (fun a' w' hI hag hf K hK => ?_) ?_
            · obtain ⟨⟨_, h10, rfl⟩, ⟨_, h11, rfl⟩, ⟨_, h9, rfl⟩, -⟩ : SFacts _ _ a' w' [10, 11, 9] := hf
              clear hag
              go_wp2_with fail
              exact hK _ _ hI (Kept.refl _ _) rfl
            refine ssteps_cons (fun a' w' hI hag hf K hK => ?_) ?_
            · obtain ⟨⟨_, h9, rfl⟩, ⟨_, h12, rfl⟩, -⟩ : SFacts _ _ a' w' [9, 12] := hf
              clear hag
              go_wp2_with fail
              exact hK _ _ hI (Kept.refl _ _) rfl
            refine ssteps_cons (fun a' w' hI hag hf K hK => ?_) ?_
            · obtain ⟨⟨_, h13, rfl⟩, -⟩ : SFacts _ _ a' w' [13, 9] := hf
              clear hag
              go_wp2_with fail
              exact hK _ _ hI (Kept.refl _ _) rfl
            refine ssteps_cons (fun a' w' hI hag hf K hK => ?_) ?_
            · obtain ⟨⟨_, h14, rfl⟩, -⟩ : SFacts _ _ a' w' [14] := hf
              have s8 := hag.same 8 (by decide)
              clear hag
              go_wp2_with fail
              exact hK _ _ hI (Kept.refl _ _) rfl
            refine ssteps_cons (fun a' w' hI hag hf K hK => ?_) ?_
            · obtain ⟨⟨_, h15, rfl⟩, ⟨_, h14, rfl⟩, -⟩ : SFacts _ _ a' w' [15, 14] := hf
              clear hag
              go_wp2_with fail
              exact hK _ _ hI (Kept.refl _ _) rfl
            refine ssteps_cons (fun a' w' hI hag hf K hK => ?_) ?_
            · obtain ⟨⟨_, h16, rfl⟩, ⟨_, h14, rfl⟩, -⟩ : SFacts _ _ a' w' [16, 14] := hf
              clear hag
              go_wp2_with fail
              exact hK _ _ hI (Kept.refl _ _) rfl
            refine ssteps_cons (fun a' w' hI hag hf K hK => ?_) ?_
            · obtain ⟨⟨_, h17, rfl⟩, -⟩ : SFacts _ _ a' w' [17] := hf
              have s6 := hag.same 6 (by decide)
              clear hag
              go_wp2_with fail
              exact hK _ _ hI (Kept.refl _ _) rfl
            refine ssteps_cons (fun a' w' hI hag hf K hK => ?_) ?_
            · obtain ⟨⟨_, h18, rfl⟩, ⟨_, h17, rfl⟩, -⟩ : SFacts _ _ a' w' [18, 17] := hf
              clear hag
              have hh := hI.heap A6.out (fun h => h)
              have g6 := heap_cell hh 6
              clear hh
              go_wp2_with fail
              exact hK _ _ hI (Kept.refl _ _) rfl
            refine ssteps_cons (fun a' w' hI hag hf K hK => ?_) ?_
            · obtain ⟨⟨_, h19, rfl⟩, ⟨_, h17, rfl⟩, -⟩ : SFacts _ _ a' w' [19, 17] := hf
              clear hag
              go_wp2_with fail
              exact hK _ _ hI (Kept.refl _ _) rfl
            refine ssteps_cons (fun a' w' hI hag hf K hK => ?_) ?_
            · obtain ⟨⟨_, h20, rfl⟩, ⟨_, h17, rfl⟩, -⟩ : SFacts _ _ a' w' [20, 17] := hf
              clear hag
              go_wp2_with fail
              exact hK _ _ hI (Kept.refl _ _) rfl
            refine ssteps_cons (fun a' w' hI hag hf K hK => ?_) ?_
            · obtain ⟨⟨_, h17, rfl⟩, ⟨_, h21, rfl⟩, ⟨_, h14, rfl⟩, -⟩ : SFacts _ _ a' w' [17, 21, 14] := hf
              clear hag
              go_wp2_with fail
              exact hK _ _ hI (Kept.refl _ _) rfl
            refine ssteps_cons (fun a' w' hI hag hf K hK => ?_) ?_
            · obtain ⟨⟨_, h14, rfl⟩, ⟨_, h22, rfl⟩, -⟩ : SFacts _ _ a' w' [14, 22] := hf
              clear hag
              go_wp2_with fail
              exact hK _ _ hI (Kept.refl _ _) rfl
            refine ssteps_cons (fun a' w' hI hag hf K hK => ?_) ?_
            · obtain ⟨⟨_, h23, rfl⟩, -⟩ : SFacts _ _ a' w' [23, 17] := hf
              clear hag
              go_wp2_with fail
              exact hK _ _ hI (Kept.refl _ _) rfl
            refine ssteps_cons (fun a' w' hI hag hf K hK => ?_) ?_
            · obtain ⟨⟨_, h24, rfl⟩, -⟩ : SFacts _ _ a' w' [24] := hf
              clear hag
              go_wp2_with fail
              refine (ftells_any _ (HM5.out.kept hI)).mono ?_
              rintro e wn ⟨rfl, hkn⟩
              go_wp2_with fail
              exact hK _ _ (hI.trans hkn (fun _ _ h => h)) hkn rfl
            refine ssteps_cons (fun a' w' hI hag hf K hK => ?_) ?_
            · obtain ⟨⟨_, h24, rfl⟩, ⟨_, h25, rfl⟩, -⟩ : SFacts _ _ a' w' [24, 25] := hf
              clear hag
              go_wp2_with fail
              exact hK _ _ hI (Kept.refl _ _) rfl
            exact trivial
          · intro vs w9 hI hvs
            have q0 : vs 0 = (X.val (.slice adf X.p.length capf)) := hvs 0 _ _ rfl rfl
            have q1 : vs 1 = (X.rval (.slice adf X.p.length capf)) := hvs 1 _ _ rfl rfl
            have q2 : vs 2 = (X.rval (.slice adr X.p.length capr)) := hvs 2 _ _ rfl rfl
            have q3 : vs 3 = (.bool true) := hvs 3 _ _ rfl rfl
            have q4 : vs 4 = (.bool true) := hvs 4 _ _ rfl rfl
            have q5 : vs 5 = (.int .u64 (tg : Int)) := hvs 5 _ _ rfl rfl
            have q6 : vs 6 = (.int .u64 (tg : Int)) := hvs 6 _ _ rfl rfl
            have q7 : vs 7 = (.bool true) := hvs 7 _ _ rfl rfl
            have q8 : vs 8 = (.bool true) := hvs 8 _ _ rfl rfl
            have q9 : vs 9 = (.bool true) := hvs 9 _ _ rfl rfl
            have q10 : vs 10 = (.int .i64 (er : Int)) := hvs 10 _ _ rfl rfl
            have q11 : vs 11 = (.int .i64 (er : Int)) := hvs 11 _ _ rfl rfl
            have q12 : vs 12 = (.bool true) := hvs 12 _ _ rfl rfl
            have q13 : vs 13 = (.bool true) := hvs 13 _ _ rfl rfl
            have q14 : vs 14 = (.bool true) := hvs 14 _ _ rfl rfl
            have q15 : vs 15 = (.int .i64 (er : Int)) := hvs 15 _ _ rfl rfl
            have q16 : vs 16 = (.bool false) := hvs 16 _ _ rfl rfl
            have q17 : vs 17 = (.bool false) := hvs 17 _ _ rfl rfl
            have q18 : vs 18 = (.pointer (some ⟨gf, 6, none⟩)) := hvs 18 _ _ rfl rfl
            have q19 : vs 19 = (.slice adf X.p.length capf) := hvs 19 _ _ rfl rfl
            have q20 : vs 20 = (.int .i64 (X.p.length : Int)) := hvs 20 _ _ rfl rfl
            have q21 : vs 21 = (.bool true) := hvs 21 _ _ rfl rfl
            have q22 : vs 22 = (.bool true) := hvs 22 _ _ rfl rfl
            have q23 : vs 23 = (.bool true) := hvs 23 _ _ rfl rfl
            have q24 : vs 24 = (.bool true) := hvs 24 _ _ rfl rfl
            have q25 : vs 25 = (.bool true) := hvs 25 _ _ rfl rfl
            have q26 : vs 26 = (.bool true) := hvs 26 _ _ rfl rfl
            clear hvs
            simp only [List.take_succ_cons, List.take_zero, List.drop_succ_cons, List.drop_zero, putAll, Act.put, List.setIfInBounds_toArray, List.set_cons_zero, List.set_cons_succ, Nat.reduceAdd, q0, q1, q2, q3, q4, q5, q6, q7, q8, q9, q10, q11, q12, q13, q14, q15, q16, q17, q18, q19, q20, q21, q22, q23, q24, q25, q26]
            clear q0 q1 q2 q3 q4 q5 q6 q7 q8 q9 q10 q11 q12 q13 q14 q15 q16 q17 q18 q19 q20 q21 q22 q23 q24 q25 q26
            go_wp2_with fail
            go_ret
            exact ⟨rfl, (K5.out.trans hI (fun _ _ h => h.elim)).below (Nat.le_refl _) (fun k hk h => by omega)⟩
end Go.Proofs.YtcmipliglcakdaaDoor
