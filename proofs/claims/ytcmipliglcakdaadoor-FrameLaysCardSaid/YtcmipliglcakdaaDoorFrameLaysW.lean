/- FrameLays, walked. -/
import Derived.Test.YtcmipliglcakdaaDoorFrameO
import Derived.Test.YtcmipliglcakdaaDoorSoft
namespace Go.Proofs.YtcmipliglcakdaaDoor
open Go Go.RowKit Go.Lw
set_option maxRecDepth 100000
def Frm.cut (f : Frm) (n : Nat) : Frm := { f with p := f.p.take n }
theorem Frm.ok.cut {f : Frm} (h : f.ok) (n : Nat) : (f.cut n).ok := ⟨h.k, h.s, h.e, h.n, h.a, h.m⟩
set_option maxHeartbeats 4000000 in
theorem flays_any (w : World) (f : Frm) (tag : Nat) (v : Value) (hf : f.ok) (ht : tag < 18446744073709551616) (hm : TabM w) (hT : Tab w) (hv : RdB w v f.p) :
    Calls Tryd.prog 6 #[f.val v, .int .u64 (tag : Int)] w fun e w' => e = .returned (.bool true) ∧ Below w.heap.size w w' := by
  obtain ⟨ad, cap, rfl, h1, h2, h3⟩ := hv.open
  clear h3
  unfold maxLen at h2
  have HM := Lw.hid hm; have HT := Lw.hid hT
  obtain ⟨n', hn, HV⟩ : ∃ n', n' = min f.p.length 400 ∧ Hid (RdB w (.slice ad n' cap) (f.p.take n')) := ⟨_, rfl, Lw.hid (hv.take _ (Nat.min_le_left _ _))⟩
  have HF := Lw.hid (hf.cut n')
  have hk256 : f.kind < 256 := hf.k
  have HN : Hid ((f.p.take n').length = n') := Lw.hid (by rw [List.length_take]; omega)
  clear hm hT hv hf
  have HQ : Hid ((f.p.take n').length ≤ 400) := Lw.hid (by rw [List.length_take]; omega)
  have hcases : n' = 400 ∧ 400 < f.p.length ∨ n' = f.p.length ∧ f.p.length ≤ 400 := by omega
  clear hn
  obtain ⟨k, s, ep, nu, a, m, p⟩ := f
  simp only [Frm.cut] at HF HV HN HQ hcases h1 h2 hk256 ⊢
  generalize hq : p.take n' = q at *
  generalize p.length = len at *
  clear hq
  rcases hcases with ⟨rfl, hlt⟩ | ⟨rfl, hlt⟩
  all_goals
    go_enter Tryd.func6, Tryd.ntmps6
    go_wp2_with fail
    rw [← HN.out] at HV ⊢
    clear h1
    clear HN
    refine (of_any _ ⟨k, s, ep, nu, a, m, q⟩ ad q.length cap hk256).mono ?_
    rintro e w1 ⟨rfl, k1⟩
    have K1 := Lw.hid (((Kept.refl (fun _ => False) w).alloc _).trans k1 (fun _ _ h => h))
    have hh := k1.heap (heap_alloc w _) (fun h => h)
    have HH := Lw.hid hh
    have g0 := heap_cell hh 0; have g1 := heap_cell hh 1; have g2 := heap_cell hh 2; have g3 := heap_cell hh 3; have g4 := heap_cell hh 4; have g5 := heap_cell hh 5; have g6 := heap_cell hh 6
    have hlt1 := heap_lt hh
    clear k1 hh
    have hql : q.length ≤ 400 := HQ.out
    have hne : w.heap.size ≠ w1.heap.size := by omega
    have ha1 := heap_alloc w1 (.cells #[.int .i64 (k : Int), .int .u32 (s : Int), .int .u32 (ep : Int), .int .u32 (nu : Int), .int .u32 (a : Int), .int .u32 (m : Int), .slice ad q.length cap] 48)
    have HA1 := Lw.hid ha1
    clear ha1
    go_wp2_with (at_builtin; refine wpList_app rfl _ _ _ rfl EB (.slice none 0 0) 0 [] rfl (World.ownsRow_nil _ 0 _ 1) (.slice ad q.length cap) q.length _ rfl ((HV.out.kept K1.out (fun _ _ h => h)).alloc _) (bytes_oneCell _) (by unfold maxLen; omega) (by omega) ?_; intro ad2 cap2 w2 ho hg hf2; have KG : Kept (fun _ => False) (w1.alloc _) w2 := (Kept.refl _ _).grown hg (fun k hk => by cases hk); have hb0 := KG.heap (Kept.heap ((Kept.refl (fun _ => False) w1).alloc _) HH.out (fun h => h)) (fun h => h); have hb1 := KG.heap HA1.out (fun h => h); have u6 := heap_cell hb1 6; have f6 := heap_free hb1 6; have d0 := heap_cell hb0 0; have d1 := heap_cell hb0 1; have d2 := heap_cell hb0 2; have d3 := heap_cell hb0 3; have d4 := heap_cell hb0 4; have d5 := heap_cell hb0 5; have d6 := heap_cell hb0 6; have HO := Lw.hid ho; have KG2 := Lw.hid KG; have HF2 := Lw.hid hf2; have HB0 := Lw.hid hb0; have HB1 := Lw.hid hb1; clear ho hg hf2 KG hb0 hb1 g0 g1 g2 g3 g4 g5 g6)
    have k3 : Kept (fun _ => False) w (w2.setCell ⟨w1.heap.size, 6, none⟩ (.slice ad2 q.length cap2)) := (((K1.out.alloc _).trans KG2.out (fun _ _ h => h)).mono (S' := fun _ => False) (fun _ _ h => h)).set w1.heap.size 6 (fun h => by omega) _
    have b0 : (w2.setCell ⟨w1.heap.size, 6, none⟩ (.slice ad2 q.length cap2)).heap[w.heap.size]? = some (.cells #[.int .u8 (k : Int), .int .u32 (s : Int), .int .u32 (ep : Int), .int .u32 (nu : Int), .int .u32 (a : Int), .int .u32 (m : Int), .slice ad q.length cap] 46 (0, 0)) := by
      rw [Below.heap_setCell _ _ _ _ hne]; exact HB0.out
    have b1 : (w2.setCell ⟨w1.heap.size, 6, none⟩ (.slice ad2 q.length cap2)).heap[w1.heap.size]? = some (.cells #[.int .i64 (k : Int), .int .u32 (s : Int), .int .u32 (ep : Int), .int .u32 (nu : Int), .int .u32 (a : Int), .int .u32 (m : Int), .slice ad2 q.length cap2] 48 (0, 0)) := heap_set HB1.out 6 _
    have rq : RdB (w2.setCell ⟨w1.heap.size, 6, none⟩ (.slice ad2 q.length cap2)) (.slice ad2 q.length cap2) q := by
      have ho := HO.out
      rw [Nat.zero_add, List.nil_append] at ho
      refine RdB.of_own (own_setCell ho (fun e => ?_) _) rfl
      have hf := HF2.out
      rw [Nat.zero_add] at hf
      rcases hf _ e with e | e
      · exact blk_none e
      · simp at e; omega
    have K3 := Lw.hid k3; have B0 := Lw.hid b0; have B1 := Lw.hid b1; have RQ := Lw.hid rq
    clear k3 b0 b1 rq HO HF2 HB0 HB1 KG2 u6 f6 d0 d1 d2 d3 d4 d5 d6 HA1 HH K1
    generalize w2.setCell ⟨w1.heap.size, 6, none⟩ (.slice ad2 q.length cap2) = w3 at *
    generalize w1.heap.size = bb at *
    obtain ⟨er, her⟩ : ∃ er : Int, (if (⟨k, s, ep, nu, a, m, q⟩ : Frm).may = true then (0 : Int) else 1) = er := ⟨_, rfl⟩
    obtain ⟨EL, hel⟩ : ∃ EL : List UInt8, (if (⟨k, s, ep, nu, a, m, q⟩ : Frm).may = true then (⟨k, s, ep, nu, a, m, q⟩ : Frm).enc tag else []) = EL := ⟨_, rfl⟩
    obtain ⟨SL, hsl⟩ : ∃ SL : List UInt8, (if (⟨k, s, ep, nu, a, m, q⟩ : Frm).may = true then (⟨k, s, ep, nu, a, m, q⟩ : Frm).sgn else []) = SL := ⟨_, rfl⟩
    obtain ⟨b, hb⟩ : ∃ b, (⟨k, s, ep, nu, a, m, q⟩ : Frm).may = b := ⟨_, rfl⟩
    have HER := Lw.hid her; have HEL := Lw.hid hel; have HSL := Lw.hid hsl; have HB := Lw.hid hb
    clear her hel hsl hb
    refine (encode_any _ ⟨k, s, ep, nu, a, m, q⟩ tag ad cap HF.out ht (HM.out.kept K3.out) (HT.out.below (Below.of_kept K3.out)) (HV.out.kept K3.out (fun _ _ h => h))).mono ?_
    rw [HER.out, HEL.out]
    rintro e w4 ⟨r1, rfl, r1r, k4⟩
    have R1 := Lw.hid r1r; have K4 := Lw.hid k4; 
    have b1 := k4.heap B1.out (fun h => h); have B14 := Lw.hid b1; have g0 := heap_cell b1 0; have g1 := heap_cell b1 1; have g2 := heap_cell b1 2; have g3 := heap_cell b1 3; have g4 := heap_cell b1 4; have g5 := heap_cell b1 5; have g6 := heap_cell b1 6
    clear r1r k4 b1
    go_wp2_with fail
    clear g0 g1 g2 g3 g4 g5 g6
    refine (rencode_any _ ⟨k, s, ep, nu, a, m, q⟩ tag ad2 cap2 HF.out ht (RQ.out.kept K4.out (fun _ _ h => h))).mono ?_
    rw [HER.out, HEL.out]
    rintro e w5 ⟨r2, rfl, r2r, k5⟩
    have R1' := Lw.hid (R1.out.kept k5 (fun _ _ h => h)); have R2 := Lw.hid r2r; have K5 := Lw.hid (K4.out.trans k5 (fun _ _ h => h))
    clear r2r k5 R1 K4 B14
    have k5 := K5.out
    have r15 := R1'.out; have r25 := R2.out
    have hq5 := (HV.out.kept K3.out (fun _ _ h => h)).kept k5 (fun _ _ h => h)
    have hr5 := RQ.out.kept k5 (fun _ _ h => h)
    have m5 := (HM.out.kept K3.out).kept k5
    have b05 := k5.heap B0.out (fun h => h); have b15 := k5.heap B1.out (fun h => h)
    have KW := Lw.hid (K3.out.trans k5 (fun _ _ h => h))
    have HR1 := Lw.hid r15; have HR2 := Lw.hid r25; have HQ5 := Lw.hid hq5; have HR5 := Lw.hid hr5; have HM5 := Lw.hid m5; have HB05 := Lw.hid b05; have HB15 := Lw.hid b15
    have hql9 : q.length ≤ 9223372036854775807 := by omega
    clear k5 r15 r25 hq5 hr5 m5 b05 b15 K3 B0 B1 K5 R1' R2 HM HT HV RQ
    go_wp2_with fail
    refine wp_region_kept [stV ((⟨k, s, ep, nu, a, m, q⟩ : Frm).val (.slice ad q.length cap)), stV (.bool b), stV ((⟨k, s, ep, nu, a, m, q⟩ : Frm).rval (.slice ad2 q.length cap2)), stV (.bool b), stV (.bool true), stV (.bool true), stV ((⟨k, s, ep, nu, a, m, q⟩ : Frm).val (.slice ad q.length cap)), stB SL, stV (.string ⟨SL.toArray⟩), stV ((⟨k, s, ep, nu, a, m, q⟩ : Frm).rval (.slice ad2 q.length cap2)), stB SL, stV (.string ⟨SL.toArray⟩), stV (.bool true), stV (.bool true), stV (.bool true), stV r1, stV (.string ⟨EL.toArray⟩), stV r2, stV (.string ⟨EL.toArray⟩), stV (.bool true), stV (.bool true), stV (.bool true), stV (.int .i64 er), stV (.int .i64 er), stV (.bool true), stV (.bool true), stV (.bool true), stV (.pointer (some ⟨w.heap.size, 6, none⟩)), stV (.slice ad q.length cap), stV (.string ⟨q.toArray⟩), stV (.pointer (some ⟨bb, 6, none⟩)), stV (.slice ad2 q.length cap2), stV (.string ⟨q.toArray⟩), stV (.bool true), stV (.bool true), stV (.bool true), stV (.bool true), stV (.bool true), stV (.bool true)] (by kernel_rfl) (by kernel_rfl) ?_ ?_
    · -- each operation by itself
      refine ssteps_cons (fun a' w' hI hag hf K hK => ?_) ?_
      · have s2 := hag.same 2 (by decide)
        clear hag
        have hh := hI.heap HB05.out (fun h => h)
        have g0 := heap_cell hh 0
        have g1 := heap_cell hh 1
        have g2 := heap_cell hh 2
        have g3 := heap_cell hh 3
        have g4 := heap_cell hh 4
        have g5 := heap_cell hh 5
        have g6 := heap_cell hh 6
        clear hh
        go_wp2_with fail
        exact hK _ _ hI (Kept.refl _ _) rfl
      refine ssteps_cons (fun a' w' hI hag hf K hK => ?_) ?_
      · obtain ⟨⟨_, h0, rfl⟩, -⟩ : SFacts _ _ a' w' [0] := hf
        clear hag
        go_wp2_with fail
        refine (may_any _ (⟨k, s, ep, nu, a, m, q⟩ : Frm) ad cap (HM5.out.kept hI) b HB.out hql9).mono ?_
        rintro e wn ⟨rfl, hkn⟩
        go_wp2_with fail
        exact hK _ _ (hI.trans hkn (fun _ _ h => h)) hkn rfl
      refine ssteps_cons (fun a' w' hI hag hf K hK => ?_) ?_
      · have s5 := hag.same 5 (by decide)
        clear hag
        have hh := hI.heap HB15.out (fun h => h)
        have g0 := heap_cell hh 0
        have g1 := heap_cell hh 1
        have g2 := heap_cell hh 2
        have g3 := heap_cell hh 3
        have g4 := heap_cell hh 4
        have g5 := heap_cell hh 5
        have g6 := heap_cell hh 6
        clear hh
        go_wp2_with fail
        exact hK _ _ hI (Kept.refl _ _) rfl
      refine ssteps_cons (fun a' w' hI hag hf K hK => ?_) ?_
      · obtain ⟨⟨_, h2, rfl⟩, -⟩ : SFacts _ _ a' w' [2, 1] := hf
        clear hag
        go_wp2_with fail
        refine (rmay_any _ (⟨k, s, ep, nu, a, m, q⟩ : Frm) ad2 cap2 b HB.out hql9 hk256).mono ?_
        rintro e wn ⟨rfl, hkn⟩
        go_wp2_with fail
        exact hK _ _ (hI.trans hkn (fun _ _ h => h)) hkn rfl
      refine ssteps_cons (fun a' w' hI hag hf K hK => ?_) ?_
      · obtain ⟨⟨_, h1, rfl⟩, ⟨_, h3, rfl⟩, -⟩ : SFacts _ _ a' w' [1, 3] := hf
        clear hag
        go_wp2_with fail
        exact hK _ _ hI (Kept.refl _ _) rfl
      refine ssteps_cons (fun a' w' hI hag hf K hK => ?_) ?_
      · obtain ⟨⟨_, h4, rfl⟩, -⟩ : SFacts _ _ a' w' [4, 3] := hf
        clear hag
        go_wp2_with fail
        exact hK _ _ hI (Kept.refl _ _) rfl
      refine ssteps_cons (fun a' w' hI hag hf K hK => ?_) ?_
      · obtain ⟨⟨_, h5, rfl⟩, -⟩ : SFacts _ _ a' w' [5] := hf
        have s2 := hag.same 2 (by decide)
        clear hag
        have hh := hI.heap HB05.out (fun h => h)
        have g0 := heap_cell hh 0
        have g1 := heap_cell hh 1
        have g2 := heap_cell hh 2
        have g3 := heap_cell hh 3
        have g4 := heap_cell hh 4
        have g5 := heap_cell hh 5
        have g6 := heap_cell hh 6
        clear hh
        go_wp2_with fail
        exact hK _ _ hI (Kept.refl _ _) rfl
      refine ssteps_cons (fun a' w' hI hag hf K hK => ?_) ?_
      · obtain ⟨⟨_, h6, rfl⟩, ⟨_, h5, rfl⟩, -⟩ : SFacts _ _ a' w' [6, 5] := hf
        clear hag
        go_wp2_with fail
        refine (signed_any _ (⟨k, s, ep, nu, a, m, q⟩ : Frm) ad cap HF.out (HM5.out.kept hI) (HQ5.out.kept hI (fun _ _ h => h))).mono ?_
        rw [HSL.out]
        rintro e wn ⟨rs, rfl, hrs, hkn⟩
        go_wp2_with fail
        exact hK _ _ (hI.trans hkn (fun _ _ h => h)) hkn hrs
      refine ssteps_cons (fun a' w' hI hag hf K hK => ?_) ?_
      · obtain ⟨⟨v7, h7, e7⟩, ⟨_, h5, rfl⟩, -⟩ : SFacts _ _ a' w' [7, 5] := hf
        clear hag
        have es := run_str (P := Tryd.prog) e7 Tryd.underlying22 Tryd.underlying5 Tryd.underlying9
        go_wp2_with fail
        exact hK _ _ hI (Kept.refl _ _) rfl
      refine ssteps_cons (fun a' w' hI hag hf K hK => ?_) ?_
      · obtain ⟨⟨_, h5, rfl⟩, -⟩ : SFacts _ _ a' w' [5] := hf
        have s5 := hag.same 5 (by decide)
        clear hag
        have hh := hI.heap HB15.out (fun h => h)
        have g0 := heap_cell hh 0
        have g1 := heap_cell hh 1
        have g2 := heap_cell hh 2
        have g3 := heap_cell hh 3
        have g4 := heap_cell hh 4
        have g5 := heap_cell hh 5
        have g6 := heap_cell hh 6
        clear hh
        go_wp2_with fail
        exact hK _ _ hI (Kept.refl _ _) rfl
      refine ssteps_cons (fun a' w' hI hag hf K hK => ?_) ?_
      · obtain ⟨⟨_, h9, rfl⟩, -, ⟨_, h5, rfl⟩, -⟩ : SFacts _ _ a' w' [9, 7, 5] := hf
        clear hag
        go_wp2_with fail
        refine (rsigned_any _ (⟨k, s, ep, nu, a, m, q⟩ : Frm) ad2 cap2 HF.out (HR5.out.kept hI (fun _ _ h => h))).mono ?_
        rw [HSL.out]
        rintro e wn ⟨rs, rfl, hrs, hkn, -⟩
        go_wp2_with fail
        exact hK _ _ (hI.trans hkn (fun _ _ h => h)) hkn (RdB.of_own hrs rfl)
      refine ssteps_cons (fun a' w' hI hag hf K hK => ?_) ?_
      · obtain ⟨⟨v10, h10, e10⟩, ⟨_, h5, rfl⟩, -⟩ : SFacts _ _ a' w' [10, 5] := hf
        clear hag
        have es := run_str (P := Tryd.prog) e10 Tryd.underlying22 Tryd.underlying5 Tryd.underlying9
        go_wp2_with fail
        exact hK _ _ hI (Kept.refl _ _) rfl
      refine ssteps_cons (fun a' w' hI hag hf K hK => ?_) ?_
      · obtain ⟨⟨_, h8, rfl⟩, ⟨_, h11, rfl⟩, ⟨_, h5, rfl⟩, -⟩ : SFacts _ _ a' w' [8, 11, 5] := hf
        clear hag
        go_wp2_with fail
        exact hK _ _ hI (Kept.refl _ _) rfl
      refine ssteps_cons (fun a' w' hI hag hf K hK => ?_) ?_
      · obtain ⟨⟨_, h5, rfl⟩, ⟨_, h12, rfl⟩, -⟩ : SFacts _ _ a' w' [5, 12] := hf
        clear hag
        go_wp2_with fail
        exact hK _ _ hI (Kept.refl _ _) rfl
      refine ssteps_cons (fun a' w' hI hag hf K hK => ?_) ?_
      · obtain ⟨⟨_, h13, rfl⟩, -⟩ : SFacts _ _ a' w' [13, 10] := hf
        clear hag
        go_wp2_with fail
        exact hK _ _ hI (Kept.refl _ _) rfl
      refine ssteps_cons (fun a' w' hI hag hf K hK => ?_) ?_
      · obtain ⟨⟨_, h14, rfl⟩, -⟩ : SFacts _ _ a' w' [14] := hf
        have s6 := hag.same 6 (by decide)
        clear hag
        go_wp2_with fail
        exact hK _ _ hI (Kept.refl _ _) rfl
      refine ssteps_cons (fun a' w' hI hag hf K hK => ?_) ?_
      · obtain ⟨⟨_, h15, rfl⟩, ⟨_, h14, rfl⟩, -⟩ : SFacts _ _ a' w' [15, 14] := hf
        clear hag
        have es := run_str (P := Tryd.prog) (HR1.out.kept hI (fun _ _ h => h)) Tryd.underlying22 Tryd.underlying5 Tryd.underlying9
        go_wp2_with fail
        exact hK _ _ hI (Kept.refl _ _) rfl
      refine ssteps_cons (fun a' w' hI hag hf K hK => ?_) ?_
      · obtain ⟨⟨_, h14, rfl⟩, -⟩ : SFacts _ _ a' w' [14] := hf
        have s8 := hag.same 8 (by decide)
        clear hag
        go_wp2_with fail
        exact hK _ _ hI (Kept.refl _ _) rfl
      refine ssteps_cons (fun a' w' hI hag hf K hK => ?_) ?_
      · obtain ⟨⟨_, h17, rfl⟩, ⟨_, h14, rfl⟩, -⟩ : SFacts _ _ a' w' [17, 14] := hf
        clear hag
        have es := run_str (P := Tryd.prog) (HR2.out.kept hI (fun _ _ h => h)) Tryd.underlying22 Tryd.underlying5 Tryd.underlying9
        go_wp2_with fail
        exact hK _ _ hI (Kept.refl _ _) rfl
      refine ssteps_cons (fun a' w' hI hag hf K hK => ?_) ?_
      · obtain ⟨⟨_, h16, rfl⟩, ⟨_, h18, rfl⟩, ⟨_, h14, rfl⟩, -⟩ : SFacts _ _ a' w' [16, 18, 14] := hf
        clear hag
        go_wp2_with fail
        exact hK _ _ hI (Kept.refl _ _) rfl
      refine ssteps_cons (fun a' w' hI hag hf K hK => ?_) ?_
      · obtain ⟨⟨_, h14, rfl⟩, ⟨_, h19, rfl⟩, -⟩ : SFacts _ _ a' w' [14, 19] := hf
        clear hag
        go_wp2_with fail
        exact hK _ _ hI (Kept.refl _ _) rfl
      refine ssteps_cons (fun a' w' hI hag hf K hK => ?_) ?_
      · obtain ⟨⟨_, h20, rfl⟩, -⟩ : SFacts _ _ a' w' [20, 14] := hf
        clear hag
        go_wp2_with fail
        exact hK _ _ hI (Kept.refl _ _) rfl
      refine ssteps_cons (fun a' w' hI hag hf K hK => ?_) ?_
      · obtain ⟨⟨_, h21, rfl⟩, -⟩ : SFacts _ _ a' w' [21] := hf
        have s7 := hag.same 7 (by decide)
        clear hag
        go_wp2_with fail
        exact hK _ _ hI (Kept.refl _ _) rfl
      refine ssteps_cons (fun a' w' hI hag hf K hK => ?_) ?_
      · obtain ⟨⟨_, h21, rfl⟩, -⟩ : SFacts _ _ a' w' [21] := hf
        have s9 := hag.same 9 (by decide)
        clear hag
        go_wp2_with fail
        exact hK _ _ hI (Kept.refl _ _) rfl
      refine ssteps_cons (fun a' w' hI hag hf K hK => ?_) ?_
      · obtain ⟨⟨_, h22, rfl⟩, ⟨_, h23, rfl⟩, ⟨_, h21, rfl⟩, -⟩ : SFacts _ _ a' w' [22, 23, 21] := hf
        clear hag
        go_wp2_with fail
        exact hK _ _ hI (Kept.refl _ _) rfl
      refine ssteps_cons (fun a' w' hI hag hf K hK => ?_) ?_
      · obtain ⟨⟨_, h21, rfl⟩, ⟨_, h24, rfl⟩, -⟩ : SFacts _ _ a' w' [21, 24] := hf
        clear hag
        go_wp2_with fail
        exact hK _ _ hI (Kept.refl _ _) rfl
      refine ssteps_cons (fun a' w' hI hag hf K hK => ?_) ?_
      · obtain ⟨⟨_, h25, rfl⟩, -⟩ : SFacts _ _ a' w' [25, 21] := hf
        clear hag
        go_wp2_with fail
        exact hK _ _ hI (Kept.refl _ _) rfl
      refine ssteps_cons (fun a' w' hI hag hf K hK => ?_) ?_
      · obtain ⟨⟨_, h26, rfl⟩, -⟩ : SFacts _ _ a' w' [26] := hf
        have s2 := hag.same 2 (by decide)
        clear hag
        go_wp2_with fail
        exact hK _ _ hI (Kept.refl _ _) rfl
      refine ssteps_cons (fun a' w' hI hag hf K hK => ?_) ?_
      · obtain ⟨⟨_, h27, rfl⟩, ⟨_, h26, rfl⟩, -⟩ : SFacts _ _ a' w' [27, 26] := hf
        clear hag
        have hh := hI.heap HB05.out (fun h => h)
        have g0 := heap_cell hh 0
        have g1 := heap_cell hh 1
        have g2 := heap_cell hh 2
        have g3 := heap_cell hh 3
        have g4 := heap_cell hh 4
        have g5 := heap_cell hh 5
        have g6 := heap_cell hh 6
        clear hh
        go_wp2_with fail
        exact hK _ _ hI (Kept.refl _ _) rfl
      refine ssteps_cons (fun a' w' hI hag hf K hK => ?_) ?_
      · obtain ⟨⟨_, h28, rfl⟩, ⟨_, h26, rfl⟩, -⟩ : SFacts _ _ a' w' [28, 26] := hf
        clear hag
        have es := run_str (P := Tryd.prog) (HQ5.out.kept hI (fun _ _ h => h)) Tryd.underlying22 Tryd.underlying5 Tryd.underlying9
        go_wp2_with fail
        exact hK _ _ hI (Kept.refl _ _) rfl
      refine ssteps_cons (fun a' w' hI hag hf K hK => ?_) ?_
      · obtain ⟨⟨_, h26, rfl⟩, -⟩ : SFacts _ _ a' w' [26] := hf
        have s5 := hag.same 5 (by decide)
        clear hag
        go_wp2_with fail
        exact hK _ _ hI (Kept.refl _ _) rfl
      refine ssteps_cons (fun a' w' hI hag hf K hK => ?_) ?_
      · obtain ⟨⟨_, h30, rfl⟩, ⟨_, h26, rfl⟩, -⟩ : SFacts _ _ a' w' [30, 26] := hf
        clear hag
        have hh := hI.heap HB15.out (fun h => h)
        have g0 := heap_cell hh 0
        have g1 := heap_cell hh 1
        have g2 := heap_cell hh 2
        have g3 := heap_cell hh 3
        have g4 := heap_cell hh 4
        have g5 := heap_cell hh 5
        have g6 := heap_cell hh 6
        clear hh
        go_wp2_with fail
        exact hK _ _ hI (Kept.refl _ _) rfl
      refine ssteps_cons (fun a' w' hI hag hf K hK => ?_) ?_
      · obtain ⟨⟨_, h31, rfl⟩, ⟨_, h26, rfl⟩, -⟩ : SFacts _ _ a' w' [31, 26] := hf
        clear hag
        have es := run_str (P := Tryd.prog) (HR5.out.kept hI (fun _ _ h => h)) Tryd.underlying22 Tryd.underlying5 Tryd.underlying9
        go_wp2_with fail
        exact hK _ _ hI (Kept.refl _ _) rfl
      refine ssteps_cons (fun a' w' hI hag hf K hK => ?_) ?_
      · obtain ⟨⟨_, h29, rfl⟩, ⟨_, h32, rfl⟩, ⟨_, h26, rfl⟩, -⟩ : SFacts _ _ a' w' [29, 32, 26] := hf
        clear hag
        go_wp2_with fail
        exact hK _ _ hI (Kept.refl _ _) rfl
      refine ssteps_cons (fun a' w' hI hag hf K hK => ?_) ?_
      · obtain ⟨⟨_, h26, rfl⟩, ⟨_, h33, rfl⟩, -⟩ : SFacts _ _ a' w' [26, 33] := hf
        clear hag
        go_wp2_with fail
        exact hK _ _ hI (Kept.refl _ _) rfl
      refine ssteps_cons (fun a' w' hI hag hf K hK => ?_) ?_
      · obtain ⟨⟨_, h34, rfl⟩, -⟩ : SFacts _ _ a' w' [34, 26] := hf
        clear hag
        go_wp2_with fail
        exact hK _ _ hI (Kept.refl _ _) rfl
      refine ssteps_cons (fun a' w' hI hag hf K hK => ?_) ?_
      · obtain ⟨⟨_, h35, rfl⟩, -⟩ : SFacts _ _ a' w' [35] := hf
        clear hag
        go_wp2_with fail
        refine (ftells_any _ (HM5.out.kept hI)).mono ?_
        rintro e wn ⟨rfl, hkn⟩
        go_wp2_with fail
        exact hK _ _ (hI.trans hkn (fun _ _ h => h)) hkn rfl
      refine ssteps_cons (fun a' w' hI hag hf K hK => ?_) ?_
      · obtain ⟨⟨_, h35, rfl⟩, ⟨_, h36, rfl⟩, -⟩ : SFacts _ _ a' w' [35, 36] := hf
        clear hag
        go_wp2_with fail
        exact hK _ _ hI (Kept.refl _ _) rfl
      refine ssteps_cons (fun a' w' hI hag hf K hK => ?_) ?_
      · obtain ⟨⟨_, h37, rfl⟩, -⟩ : SFacts _ _ a' w' [37, 36, 0, 1, 2, 3, 4, 5, 6, 7, 8, 9, 10, 11, 12, 13, 14, 15, 16, 17, 18, 19, 20, 21, 22, 23, 24, 25, 26, 27, 28, 29, 30, 31, 32, 33, 34, 35] := hf
        clear hag
        go_wp2_with fail
        exact hK _ _ hI (Kept.refl _ _) rfl
      exact trivial
    · intro a' w' hI hag hf
      obtain ⟨_, h38, rfl⟩ := hf 38 (by decide)
      have hd : a'.defers = [] := hag.defs
      clear hf hag
      go_wp2_with fail
      exact bodyPost_ret (v := .bool true) (by simp [results, Tryd.results6, go_sem, h38]) hd ⟨rfl, Below.of_kept (KW.out.trans hI (fun _ _ h => h))⟩
end Go.Proofs.YtcmipliglcakdaaDoor
