/- FrameSigned, walked. -/
import Derived.Test.YtcmipliglcakdaaDoorFrameO
import Derived.Test.YtcmipliglcakdaaDoorFramePS
import Derived.Test.YtcmipliglcakdaaDoorSoftTail
namespace Go.Proofs.YtcmipliglcakdaaDoor
open Go Go.RowKit Go.Lw
set_option maxRecDepth 100000
/-- A frame's value; its payload's bytes, in a world ahead. -/
def IsF (wz : World) (f : Frm) (v : Value) : Prop := ∃ ad cap, v = f.val (.slice ad f.p.length cap) ∧ RdB wz (.slice ad f.p.length cap) f.p
def stF (wz : World) (f : Frm) : Stable := ⟨fun v _ => IsF wz f v, fun _ _ _ _ h => h⟩
abbrev fbox (f : Frm) (v : Value) : Obj := .cells #[.int .u8 (f.kind : Int), .int .u32 (f.ses : Int), .int .u32 (f.ep : Int), .int .u32 (f.num : Int), .int .u32 (f.ack : Int), .int .u32 (f.mask : Int), v] 46 (0, 0)
/-- A whole frame, stored. -/
def set7 (w : World) (b : Nat) (f : Frm) (v : Value) : World := ((((((w.setCell ⟨b, 0, none⟩ (.int .u8 (f.kind : Int))).setCell ⟨b, 1, none⟩ (.int .u32 (f.ses : Int))).setCell ⟨b, 2, none⟩ (.int .u32 (f.ep : Int))).setCell ⟨b, 3, none⟩ (.int .u32 (f.num : Int))).setCell ⟨b, 4, none⟩ (.int .u32 (f.ack : Int))).setCell ⟨b, 5, none⟩ (.int .u32 (f.mask : Int))).setCell ⟨b, 6, none⟩ v
theorem set7_other {w : World} {b k : Nat} {f : Frm} {v : Value} (h : k ≠ b) : (set7 w b f v).heap[k]? = w.heap[k]? := by
  unfold set7
  rw [Below.heap_setCell _ _ _ _ h, Below.heap_setCell _ _ _ _ h, Below.heap_setCell _ _ _ _ h, Below.heap_setCell _ _ _ _ h, Below.heap_setCell _ _ _ _ h, Below.heap_setCell _ _ _ _ h, Below.heap_setCell _ _ _ _ h]
theorem set7_same {w : World} {b : Nat} {f : Frm} {v a0 a1 a2 a3 a4 a5 a6 : Value} {T : TypeId} (h : w.heap[b]? = some (.cells #[a0, a1, a2, a3, a4, a5, a6] T (0, 0))) :
    (set7 w b f v).heap[b]? = some (.cells #[.int .u8 (f.kind : Int), .int .u32 (f.ses : Int), .int .u32 (f.ep : Int), .int .u32 (f.num : Int), .int .u32 (f.ack : Int), .int .u32 (f.mask : Int), v] T (0, 0)) := by
  have h0 := heap_set h 0 (.int .u8 (f.kind : Int))
  have h1 := heap_set h0 1 (.int .u32 (f.ses : Int))
  have h2 := heap_set h1 2 (.int .u32 (f.ep : Int))
  have h3 := heap_set h2 3 (.int .u32 (f.num : Int))
  have h4 := heap_set h3 4 (.int .u32 (f.ack : Int))
  have h5 := heap_set h4 5 (.int .u32 (f.mask : Int))
  have h6 := heap_set h5 6 v
  simp only [List.setIfInBounds_toArray, List.set_cons_zero, List.set_cons_succ] at h6
  exact h6
theorem set7_kept {S : Nat → Prop} {a w : World} {b : Nat} {f : Frm} {v : Value} (h : Kept S a w) (hb : b < a.heap.size → S b) : Kept S a (set7 w b f v) :=
  ((((((h.set b 0 hb _).set b 1 hb _).set b 2 hb _).set b 3 hb _).set b 4 hb _).set b 5 hb _).set b 6 hb _
theorem rdb_cast {w : World} {ad : Option Addr} {n cap : Nat} {l : List UInt8} (hn : l.length = n) (h : RdB w (.slice ad l.length cap) l) : RdB w (.slice ad n cap) l := by subst hn; exact h
set_option maxHeartbeats 4000000 in
theorem fsigned_any (w : World) (f g : Frm) (tag other : Nat) (v u : Value) (hf : f.ok) (hg : g.ok) (ht : tag < 18446744073709551616) (ho : other < 18446744073709551616) (hm : TabM w) (hT : Tab w) (hv : RdB w v f.p) (hu : RdB w u g.p) :
    Calls Tryd.prog 8 #[f.val v, g.val u, .int .u64 (tag : Int), .int .u64 (other : Int)] w fun e w' => e = .returned (.bool true) ∧ Below w.heap.size w w' := by
  have HF := Lw.hid hf; have HG := Lw.hid hg; have HT := Lw.hid ht; have HO := Lw.hid ho; have HM := Lw.hid hm; have HTB := Lw.hid hT; have HV := Lw.hid hv; have HU := Lw.hid hu
  clear hf hg ht ho hm hT hv hu
  go_enter Tryd.func8, Tryd.ntmps8
  go_wp2_with fail
  have k0 : Kept (fun _ => False) w ((w.alloc (fbox f v)).alloc (fbox g u)) := ((Kept.refl _ w).alloc _).alloc _
  have b0 : ((w.alloc (fbox f v)).alloc (fbox g u)).heap[w.heap.size]? = some (fbox f v) := Kept.heap ((Kept.refl (fun _ => False) _).alloc _) (heap_alloc w _) (fun h => h)
  have b1 : ((w.alloc (fbox f v)).alloc (fbox g u)).heap[w.heap.size + 1]? = some (fbox g u) := by have := heap_alloc (w.alloc (fbox f v)) (fbox g u); rwa [show (w.alloc (fbox f v)).heap.size = w.heap.size + 1 by simp] at this
  have K0 := Lw.hid k0; have B0 := Lw.hid b0; have B1 := Lw.hid b1
  clear k0 b0 b1
  have hgen : ∀ w0 : World, w0 = (w.alloc (fbox f v)).alloc (fbox g u) → True := fun _ _ => trivial
  clear hgen
  unfold fbox at K0 B0 B1
  generalize (w.alloc (.cells #[.int .u8 (f.kind : Int), .int .u32 (f.ses : Int), .int .u32 (f.ep : Int), .int .u32 (f.num : Int), .int .u32 (f.ack : Int), .int .u32 (f.mask : Int), v] 46)).alloc (.cells #[.int .u8 (g.kind : Int), .int .u32 (g.ses : Int), .int .u32 (g.ep : Int), .int .u32 (g.num : Int), .int .u32 (g.ack : Int), .int .u32 (g.mask : Int), u] 46) = w0 at *
  refine wp_region_tail 4 [stV (f.val v), stF w f.made, stV (g.val u), stF w g.made] (by kernel_rfl) (by kernel_rfl) ?_ ?_
  · -- each operation by itself
    refine ssteps_cons (fun a' w' hI hag hf K hK => ?_) ?_
    · have s4 := hag.same 4 (by decide)
      clear hag
      have hh := hI.heap B0.out (fun h => h)
      have g0 := heap_cell hh 0
      have g1 := heap_cell hh 1
      have g2 := heap_cell hh 2
      have g3 := heap_cell hh 3
      have g4 := heap_cell hh 4
      have g5 := heap_cell hh 5
      have g6 := heap_cell hh 6
      clear hh
      go_wp2_with fail
      exact hK _ _ hI (Kept.refl _ _) rfl
    refine ssteps_cons (fun a' w' hI hag hf K hK => ?_) ?_
    · obtain ⟨⟨_, h0, rfl⟩, -⟩ : SFacts _ _ a' w' [0] := hf
      clear hag
      go_wp2_with fail
      refine (made_any _ w f _ HF.out HV.out).mono ?_
      rintro e wn ⟨ad, cap, rfl, hr, hkn⟩
      go_wp2_with fail
      exact hK _ _ (hI.trans hkn (fun _ _ h => h)) hkn ⟨ad, cap, rfl, hr⟩
    refine ssteps_cons (fun a' w' hI hag hf K hK => ?_) ?_
    · have s5 := hag.same 5 (by decide)
      clear hag
      have hh := hI.heap B1.out (fun h => h)
      have g0 := heap_cell hh 0
      have g1 := heap_cell hh 1
      have g2 := heap_cell hh 2
      have g3 := heap_cell hh 3
      have g4 := heap_cell hh 4
      have g5 := heap_cell hh 5
      have g6 := heap_cell hh 6
      clear hh
      go_wp2_with fail
      exact hK _ _ hI (Kept.refl _ _) rfl
    refine ssteps_cons (fun a' w' hI hag hf K hK => ?_) ?_
    · obtain ⟨⟨_, h2, rfl⟩, -⟩ : SFacts _ _ a' w' [2, 1] := hf
      clear hag
      go_wp2_with fail
      refine (made_any _ w g _ HG.out HU.out).mono ?_
      rintro e wn ⟨ad, cap, rfl, hr, hkn⟩
      go_wp2_with fail
      exact hK _ _ (hI.trans hkn (fun _ _ h => h)) hkn ⟨ad, cap, rfl, hr⟩
    exact trivial
  · intro vs w' hI hvs
    have q0 : vs 0 = (f.val v) := hvs 0 _ _ rfl rfl
    have q1 := hvs 1 _ _ rfl rfl
    have q2 : vs 2 = (g.val u) := hvs 2 _ _ rfl rfl
    have q3 := hvs 3 _ _ rfl rfl
    clear hvs
    simp only [List.take_succ_cons, List.take_zero, List.drop_succ_cons, List.drop_zero, putAll, Act.put, List.setIfInBounds_toArray, List.set_cons_zero, List.set_cons_succ, Nat.reduceAdd, q0, q2]
    clear q0 q2
    generalize vs 1 = x1 at *
    generalize vs 3 = x3 at *
    obtain ⟨ad1, cap1, rfl, r1⟩ : IsF w f.made x1 := q1
    obtain ⟨ad2, cap2, rfl, r2⟩ : IsF w g.made x3 := q3
    have h0 := hI.heap B0.out (fun h => h); have h1 := hI.heap B1.out (fun h => h)
    have hne : w.heap.size ≠ w.heap.size + 1 := by omega
    have c0 := heap_cell h0 0; have d0 := heap_cell h1 0; have e0 := heap_free h0 0; have f0 := heap_free h1 0
    have c1 := heap_cell h0 1; have d1 := heap_cell h1 1; have e1 := heap_free h0 1; have f1 := heap_free h1 1
    have c2 := heap_cell h0 2; have d2 := heap_cell h1 2; have e2 := heap_free h0 2; have f2 := heap_free h1 2
    have c3 := heap_cell h0 3; have d3 := heap_cell h1 3; have e3 := heap_free h0 3; have f3 := heap_free h1 3
    have c4 := heap_cell h0 4; have d4 := heap_cell h1 4; have e4 := heap_free h0 4; have f4 := heap_free h1 4
    have c5 := heap_cell h0 5; have d5 := heap_cell h1 5; have e5 := heap_free h0 5; have f5 := heap_free h1 5
    have c6 := heap_cell h0 6; have d6 := heap_cell h1 6; have e6 := heap_free h0 6; have f6 := heap_free h1 6
    have R1 := Lw.hid r1; have R2 := Lw.hid r2; have H0 := Lw.hid h0; have H1 := Lw.hid h1; have HI := Lw.hid hI
    clear r1 r2 h0 h1 hI
    go_wp2_with fail
    clear hne c0 d0 e0 f0 c1 d1 e1 f1 c2 d2 e2 f2 c3 d3 e3 f3 c4 d4 e4 f4 c5 d5 e5 f5 c6 d6 e6 f6
    have kw : Kept (fun _ => False) w (set7 (set7 w' w.heap.size f.made (.slice ad1 f.made.p.length cap1)) (w.heap.size + 1) g.made (.slice ad2 g.made.p.length cap2)) :=
      set7_kept (set7_kept (K0.out.trans HI.out (fun _ _ h => h)) (fun h => by omega)) (fun h => by omega)
    have b0 : (set7 (set7 w' w.heap.size f.made (.slice ad1 f.made.p.length cap1)) (w.heap.size + 1) g.made (.slice ad2 g.made.p.length cap2)).heap[w.heap.size]? = some (.cells #[.int .u8 (f.made.kind : Int), .int .u32 (f.made.ses : Int), .int .u32 (f.made.ep : Int), .int .u32 (f.made.num : Int), .int .u32 (f.made.ack : Int), .int .u32 (f.made.mask : Int), (.slice ad1 f.made.p.length cap1)] 46 (0, 0)) := by
      rw [set7_other (by omega)]; exact set7_same H0.out
    have b1 : (set7 (set7 w' w.heap.size f.made (.slice ad1 f.made.p.length cap1)) (w.heap.size + 1) g.made (.slice ad2 g.made.p.length cap2)).heap[w.heap.size + 1]? = some (.cells #[.int .u8 (g.made.kind : Int), .int .u32 (g.made.ses : Int), .int .u32 (g.made.ep : Int), .int .u32 (g.made.num : Int), .int .u32 (g.made.ack : Int), .int .u32 (g.made.mask : Int), (.slice ad2 g.made.p.length cap2)] 46 (0, 0)) := by
      refine set7_same (a0 := .int .u8 (g.kind : Int)) (a1 := .int .u32 (g.ses : Int)) (a2 := .int .u32 (g.ep : Int)) (a3 := .int .u32 (g.num : Int)) (a4 := .int .u32 (g.ack : Int)) (a5 := .int .u32 (g.mask : Int)) (a6 := u) ?_
      rw [set7_other (by omega)]; exact H1.out
    have hw1 : ∀ (G : World → Prop), (∀ w1, Kept (fun _ => False) w w1 → w1.heap[w.heap.size]? = some (.cells #[.int .u8 (f.made.kind : Int), .int .u32 (f.made.ses : Int), .int .u32 (f.made.ep : Int), .int .u32 (f.made.num : Int), .int .u32 (f.made.ack : Int), .int .u32 (f.made.mask : Int), .slice ad1 f.made.p.length cap1] 46 (0, 0)) → w1.heap[w.heap.size + 1]? = some (.cells #[.int .u8 (g.made.kind : Int), .int .u32 (g.made.ses : Int), .int .u32 (g.made.ep : Int), .int .u32 (g.made.num : Int), .int .u32 (g.made.ack : Int), .int .u32 (g.made.mask : Int), .slice ad2 g.made.p.length cap2] 46 (0, 0)) → G w1) → G (set7 (set7 w' w.heap.size f.made (.slice ad1 f.made.p.length cap1)) (w.heap.size + 1) g.made (.slice ad2 g.made.p.length cap2)) := fun G h => h _ kw b0 b1
    clear kw b0 b1 H0 H1 HI K0 B0 B1
    unfold set7 at hw1
    refine hw1 _ (fun w1 kw b0 b1 => ?_)
    clear hw1
    have K1 := Lw.hid kw; have B0 := Lw.hid b0; have B1 := Lw.hid b1
    clear kw b0 b1
    have fo := made_ok HF.out; have go' := made_ok HG.out; have fm := made_may f; have gm := made_may g
    have FO := Lw.hid fo; have GO := Lw.hid go'; have FM := Lw.hid fm; have GM := Lw.hid gm
    clear fo go' fm gm
    generalize f.made = F at *
    generalize g.made = G at *
    have hF9 : F.p.length ≤ 256 := may_len FM.out
    have hG9 : G.p.length ≤ 256 := may_len GM.out
    refine wp_region_tail 4 [stV (F.val (.slice ad1 F.p.length cap1)), stB F.sgn, stV (G.val (.slice ad2 G.p.length cap2)), stB G.sgn] (by kernel_rfl) (by kernel_rfl) ?_ ?_
    · -- each operation by itself
      refine ssteps_cons (fun a' w' hI hag hf K hK => ?_) ?_
      · have s4 := hag.same 4 (by decide)
        clear hag
        have hh := hI.heap B0.out (fun h => h)
        have g0 := heap_cell hh 0
        have g1 := heap_cell hh 1
        have g2 := heap_cell hh 2
        have g3 := heap_cell hh 3
        have g4 := heap_cell hh 4
        have g5 := heap_cell hh 5
        have g6 := heap_cell hh 6
        clear hh
        go_wp2_with fail
        exact hK _ _ hI (Kept.refl _ _) rfl
      refine ssteps_cons (fun a' w' hI hag hf K hK => ?_) ?_
      · obtain ⟨⟨_, h0, rfl⟩, -⟩ : SFacts _ _ a' w' [0] := hf
        clear hag
        go_wp2_with fail
        refine (signed_any _ F ad1 cap1 FO.out (HM.out.kept (K1.out.trans hI (fun _ _ h => h))) (R1.out.kept (K1.out.trans hI (fun _ _ h => h)) (fun _ _ h => h))).mono ?_
        rw [FM.out]
        rintro e wn ⟨rs, rfl, hrs, hkn⟩
        go_wp2_with fail
        exact hK _ _ (hI.trans hkn (fun _ _ h => h)) hkn hrs
      refine ssteps_cons (fun a' w' hI hag hf K hK => ?_) ?_
      · have s5 := hag.same 5 (by decide)
        clear hag
        have hh := hI.heap B1.out (fun h => h)
        have g0 := heap_cell hh 0
        have g1 := heap_cell hh 1
        have g2 := heap_cell hh 2
        have g3 := heap_cell hh 3
        have g4 := heap_cell hh 4
        have g5 := heap_cell hh 5
        have g6 := heap_cell hh 6
        clear hh
        go_wp2_with fail
        exact hK _ _ hI (Kept.refl _ _) rfl
      refine ssteps_cons (fun a' w' hI hag hf K hK => ?_) ?_
      · obtain ⟨⟨_, h2, rfl⟩, -⟩ : SFacts _ _ a' w' [2, 1] := hf
        clear hag
        go_wp2_with fail
        refine (signed_any _ G ad2 cap2 GO.out (HM.out.kept (K1.out.trans hI (fun _ _ h => h))) (R2.out.kept (K1.out.trans hI (fun _ _ h => h)) (fun _ _ h => h))).mono ?_
        rw [GM.out]
        rintro e wn ⟨rs, rfl, hrs, hkn⟩
        go_wp2_with fail
        exact hK _ _ (hI.trans hkn (fun _ _ h => h)) hkn hrs
      exact trivial
    · intro vs w2 hI hvs
      have q0 : vs 0 = (F.val (.slice ad1 F.p.length cap1)) := hvs 0 _ _ rfl rfl
      have q1 := hvs 1 _ _ rfl rfl
      have q2 : vs 2 = (G.val (.slice ad2 G.p.length cap2)) := hvs 2 _ _ rfl rfl
      have q3 := hvs 3 _ _ rfl rfl
      clear hvs
      simp only [List.take_succ_cons, List.take_zero, List.drop_succ_cons, List.drop_zero, putAll, Act.put, List.setIfInBounds_toArray, List.set_cons_zero, List.set_cons_succ, Nat.reduceAdd, q0, q2]
      clear q0 q2
      generalize vs 1 = x1 at *
      generalize vs 3 = x3 at *
      have z1 : RdB w2 x1 F.sgn := q1
      have z3 : RdB w2 x3 G.sgn := q3
      obtain ⟨adx, capx, rfl, hx1, hx2, hx3⟩ := z1.open
      obtain ⟨ady, capy, rfl, hy1, hy2, hy3⟩ := z3.open
      unfold maxLen at hx2 hy2
      clear hx3 hy3 q1 q3
      have X := Lw.hid z1; have Y := Lw.hid z3
      have K2 := Lw.hid (K1.out.trans hI (fun _ _ h => h))
      have B02 := Lw.hid (hI.heap B0.out (fun h => h)); have B12 := Lw.hid (hI.heap B1.out (fun h => h))
      clear z1 z3 hI K1 B0 B1
      have SL : Hid (F.sgn.length = 23 + F.p.length) := Lw.hid F.sgn_len
      obtain ⟨L, hL⟩ : ∃ L, F.sgn.length = L := ⟨_, rfl⟩
      obtain ⟨Ly, hLy⟩ : ∃ L, G.sgn.length = L := ⟨_, rfl⟩
      rw [hL] at hx1 ⊢
      rw [hLy] at hy1 ⊢
      have hL2 : L = 23 + F.p.length := by rw [← hL]; exact F.sgn_len
      have HL := Lw.hid hL; have HL2 := Lw.hid hL2; have HLY := Lw.hid hLy
      have hL9 : L ≤ 300 := by omega
      have hnz : ((L : Int) != 23 + (F.p.length : Int)) = false := by rw [hL2]; simp
      clear hL hLy hL2 SL
      obtain ⟨b, hb⟩ : ∃ b, F.same G = b := ⟨_, rfl⟩
      have HB := Lw.hid hb
      clear hb
      go_wp2_with fail
      refine wp_region_tail 16 [stV (.slice adx L capx), stV (.slice ady Ly capy), stV (.bool b), stV (F.val (.slice ad1 F.p.length cap1)), stV (G.val (.slice ad2 G.p.length cap2)), stV (.bool b), stV (.bool false), stV (.bool false), stV (.slice adx L capx), stV (.int .i64 (L : Int)), stV (.pointer (some ⟨w.heap.size, 6, none⟩)), stV (.slice ad1 F.p.length cap1), stV (.int .i64 (F.p.length : Int)), stV (.int .i64 (23 + (F.p.length : Int))), stV (.bool false), stV (.bool false)] (by kernel_rfl) (by kernel_rfl) ?_ ?_
      · -- each operation by itself
        refine ssteps_cons (fun a' w' hI hag hf K hK => ?_) ?_
        · have s9 := hag.same 9 (by decide)
          clear hag
          go_wp2_with fail
          exact hK _ _ hI (Kept.refl _ _) rfl
        refine ssteps_cons (fun a' w' hI hag hf K hK => ?_) ?_
        · have s10 := hag.same 10 (by decide)
          clear hag
          go_wp2_with fail
          exact hK _ _ hI (Kept.refl _ _) rfl
        refine ssteps_cons (fun a' w' hI hag hf K hK => ?_) ?_
        · obtain ⟨⟨_, h0, rfl⟩, ⟨_, h1, rfl⟩, -⟩ : SFacts _ _ a' w' [0, 1] := hf
          clear hag
          go_wp2_with fail
          refine (sleq_any _ _ _ F.sgn G.sgn (rdb_cast HL.out (X.out.kept hI (fun _ _ h => h))) (rdb_cast HLY.out (Y.out.kept hI (fun _ _ h => h))) b (by rw [sgn_beq FO.out GO.out]; exact HB.out)).mono ?_
          rintro e wn ⟨rfl, hkn⟩
          go_wp2_with fail
          exact hK _ _ (hI.trans hkn (fun _ _ h => h)) hkn rfl
        refine ssteps_cons (fun a' w' hI hag hf K hK => ?_) ?_
        · have s4 := hag.same 4 (by decide)
          clear hag
          have hh := hI.heap B02.out (fun h => h)
          have g0 := heap_cell hh 0
          have g1 := heap_cell hh 1
          have g2 := heap_cell hh 2
          have g3 := heap_cell hh 3
          have g4 := heap_cell hh 4
          have g5 := heap_cell hh 5
          have g6 := heap_cell hh 6
          clear hh
          go_wp2_with fail
          exact hK _ _ hI (Kept.refl _ _) rfl
        refine ssteps_cons (fun a' w' hI hag hf K hK => ?_) ?_
        · have s5 := hag.same 5 (by decide)
          clear hag
          have hh := hI.heap B12.out (fun h => h)
          have g0 := heap_cell hh 0
          have g1 := heap_cell hh 1
          have g2 := heap_cell hh 2
          have g3 := heap_cell hh 3
          have g4 := heap_cell hh 4
          have g5 := heap_cell hh 5
          have g6 := heap_cell hh 6
          clear hh
          go_wp2_with fail
          exact hK _ _ hI (Kept.refl _ _) rfl
        refine ssteps_cons (fun a' w' hI hag hf K hK => ?_) ?_
        · obtain ⟨⟨_, h3, rfl⟩, ⟨_, h4, rfl⟩, -⟩ : SFacts _ _ a' w' [3, 4, 2] := hf
          clear hag
          go_wp2_with fail
          refine (same_any _ F G _ _ ((R1.out.kept K2.out (fun _ _ h => h)).kept hI (fun _ _ h => h)) ((R2.out.kept K2.out (fun _ _ h => h)).kept hI (fun _ _ h => h)) b HB.out).mono ?_
          rintro e wn ⟨rfl, hkn⟩
          go_wp2_with fail
          exact hK _ _ (hI.trans hkn (fun _ _ h => h)) hkn rfl
        refine ssteps_cons (fun a' w' hI hag hf K hK => ?_) ?_
        · obtain ⟨⟨_, h2, rfl⟩, ⟨_, h5, rfl⟩, -⟩ : SFacts _ _ a' w' [2, 5] := hf
          clear hag
          go_wp2_with fail
          exact hK _ _ hI (Kept.refl _ _) rfl
        refine ssteps_cons (fun a' w' hI hag hf K hK => ?_) ?_
        · obtain ⟨⟨_, h6, rfl⟩, -⟩ : SFacts _ _ a' w' [6, 5] := hf
          clear hag
          go_wp2_with fail
          exact hK _ _ hI (Kept.refl _ _) rfl
        refine ssteps_cons (fun a' w' hI hag hf K hK => ?_) ?_
        · obtain ⟨⟨_, h7, rfl⟩, -⟩ : SFacts _ _ a' w' [7] := hf
          have s9 := hag.same 9 (by decide)
          clear hag
          go_wp2_with fail
          exact hK _ _ hI (Kept.refl _ _) rfl
        refine ssteps_cons (fun a' w' hI hag hf K hK => ?_) ?_
        · obtain ⟨⟨_, h8, rfl⟩, ⟨_, h7, rfl⟩, -⟩ : SFacts _ _ a' w' [8, 7] := hf
          clear hag
          go_wp2_with fail
          exact hK _ _ hI (Kept.refl _ _) rfl
        refine ssteps_cons (fun a' w' hI hag hf K hK => ?_) ?_
        · obtain ⟨⟨_, h7, rfl⟩, -⟩ : SFacts _ _ a' w' [7] := hf
          have s4 := hag.same 4 (by decide)
          clear hag
          go_wp2_with fail
          exact hK _ _ hI (Kept.refl _ _) rfl
        refine ssteps_cons (fun a' w' hI hag hf K hK => ?_) ?_
        · obtain ⟨⟨_, h10, rfl⟩, ⟨_, h7, rfl⟩, -⟩ : SFacts _ _ a' w' [10, 7] := hf
          clear hag
          have hh := hI.heap B02.out (fun h => h)
          have g0 := heap_cell hh 0
          have g1 := heap_cell hh 1
          have g2 := heap_cell hh 2
          have g3 := heap_cell hh 3
          have g4 := heap_cell hh 4
          have g5 := heap_cell hh 5
          have g6 := heap_cell hh 6
          clear hh
          go_wp2_with fail
          exact hK _ _ hI (Kept.refl _ _) rfl
        refine ssteps_cons (fun a' w' hI hag hf K hK => ?_) ?_
        · obtain ⟨⟨_, h11, rfl⟩, ⟨_, h7, rfl⟩, -⟩ : SFacts _ _ a' w' [11, 7] := hf
          clear hag
          go_wp2_with fail
          exact hK _ _ hI (Kept.refl _ _) rfl
        refine ssteps_cons (fun a' w' hI hag hf K hK => ?_) ?_
        · obtain ⟨⟨_, h12, rfl⟩, ⟨_, h7, rfl⟩, -⟩ : SFacts _ _ a' w' [12, 7] := hf
          clear hag
          go_wp2_with fail
          exact hK _ _ hI (Kept.refl _ _) rfl
        refine ssteps_cons (fun a' w' hI hag hf K hK => ?_) ?_
        · obtain ⟨⟨_, h9, rfl⟩, ⟨_, h13, rfl⟩, ⟨_, h7, rfl⟩, -⟩ : SFacts _ _ a' w' [9, 13, 7] := hf
          clear hag
          go_wp2_with fail
          exact hK _ _ hI (Kept.refl _ _) rfl
        refine ssteps_cons (fun a' w' hI hag hf K hK => ?_) ?_
        · obtain ⟨⟨_, h7, rfl⟩, ⟨_, h14, rfl⟩, -⟩ : SFacts _ _ a' w' [7, 14] := hf
          clear hag
          go_wp2_with fail
          exact hK _ _ hI (Kept.refl _ _) rfl
        exact trivial
      · intro vs w3 hI hvs
        have q0 : vs 0 = (.slice adx L capx) := hvs 0 _ _ rfl rfl
        have q1 : vs 1 = (.slice ady Ly capy) := hvs 1 _ _ rfl rfl
        have q2 : vs 2 = (.bool b) := hvs 2 _ _ rfl rfl
        have q3 : vs 3 = (F.val (.slice ad1 F.p.length cap1)) := hvs 3 _ _ rfl rfl
        have q4 : vs 4 = (G.val (.slice ad2 G.p.length cap2)) := hvs 4 _ _ rfl rfl
        have q5 : vs 5 = (.bool b) := hvs 5 _ _ rfl rfl
        have q6 : vs 6 = (.bool false) := hvs 6 _ _ rfl rfl
        have q7 : vs 7 = (.bool false) := hvs 7 _ _ rfl rfl
        have q8 : vs 8 = (.slice adx L capx) := hvs 8 _ _ rfl rfl
        have q9 : vs 9 = (.int .i64 (L : Int)) := hvs 9 _ _ rfl rfl
        have q10 : vs 10 = (.pointer (some ⟨w.heap.size, 6, none⟩)) := hvs 10 _ _ rfl rfl
        have q11 : vs 11 = (.slice ad1 F.p.length cap1) := hvs 11 _ _ rfl rfl
        have q12 : vs 12 = (.int .i64 (F.p.length : Int)) := hvs 12 _ _ rfl rfl
        have q13 : vs 13 = (.int .i64 (23 + (F.p.length : Int))) := hvs 13 _ _ rfl rfl
        have q14 : vs 14 = (.bool false) := hvs 14 _ _ rfl rfl
        have q15 : vs 15 = (.bool false) := hvs 15 _ _ rfl rfl
        clear hvs
        simp only [List.take_succ_cons, List.take_zero, List.drop_succ_cons, List.drop_zero, putAll, Act.put, List.setIfInBounds_toArray, List.set_cons_zero, List.set_cons_succ, Nat.reduceAdd, q0, q1, q2, q3, q4, q5, q6, q7, q8, q9, q10, q11, q12, q13, q14, q15]
        clear q0 q1 q2 q3 q4 q5 q6 q7 q8 q9 q10 q11 q12 q13 q14 q15
        have K3 := Lw.hid (K2.out.trans hI (fun _ _ h => h))
        have h0 := hI.heap B02.out (fun h => h)
        have B03 := Lw.hid h0
        have X3 : Hid (RdB w3 (.slice adx L capx) F.sgn) := Lw.hid (by rw [← HL.out]; exact X.out.kept hI (fun _ _ h => h))
        have c0 := heap_cell h0 0; have c1 := heap_cell h0 1; have c2 := heap_cell h0 2; have c3 := heap_cell h0 3; have c4 := heap_cell h0 4; have c5 := heap_cell h0 5; have c6 := heap_cell h0 6
        clear h0 hI K2 B02 B12 X Y HB GO GM hnz
        go_wp2_with fail
        clear c0 c1 c2 c3 c4 c5 c6
        refine (encode_ok _ F tag ad1 cap1 FO.out FM.out HT.out (HM.out.kept K3.out) (HTB.out.below (Below.of_kept K3.out)) (R1.out.kept K3.out (fun _ _ h => h))).mono ?_
        rintro e w4 ⟨adc, capc, rfl, hc1, hc2, hr4, k4⟩
        unfold maxLen at hc2
        have hLc : L ≤ 35 + F.p.length := by have := HL2.out; omega
        have K4 := Lw.hid (K3.out.trans k4 (fun _ _ h => h))
        have C4 := Lw.hid hr4; have X4 := Lw.hid (X3.out.kept k4 (fun _ _ h => h))
        have h0 := k4.heap B03.out (fun h => h)
        have c0 := heap_cell h0 0; have c1 := heap_cell h0 1; have c2 := heap_cell h0 2; have c3 := heap_cell h0 3; have c4 := heap_cell h0 4; have c5 := heap_cell h0 5; have c6 := heap_cell h0 6
        clear h0 hr4 k4 K3 B03 X3
        go_wp2_with fail
        clear c0 c1 c2 c3 c4 c5 c6
        refine (encode_ok _ F other ad1 cap1 FO.out FM.out HO.out (HM.out.kept K4.out) (HTB.out.below (Below.of_kept K4.out)) (R1.out.kept K4.out (fun _ _ h => h))).mono ?_
        rintro e w5 ⟨add, capd, rfl, hd1, hd2, hr5, k5⟩
        unfold maxLen at hd2
        have K5 := Lw.hid (K4.out.trans k5 (fun _ _ h => h))
        have C5 := Lw.hid (C4.out.kept k5 (fun _ _ h => h)); have D5 := Lw.hid hr5; have X5 := Lw.hid (X4.out.kept k5 (fun _ _ h => h))
        clear hr5 k5 K4 C4 X4
        have CT : Hid (RdB w5 (.slice adc L capc) F.sgn) := Lw.hid (by have := C5.out.take L hLc; rwa [← HL.out, enc_take, HL.out] at this)
        have DT : Hid (RdB w5 (.slice add L capd) F.sgn) := Lw.hid (by have := D5.out.take L hLc; rwa [← HL.out, enc_take, HL.out] at this)
        go_wp2_with fail
        refine (sleq_any _ _ _ F.sgn F.sgn CT.out X5.out true (by simp)).mono ?_
        rintro e w6 ⟨rfl, k6⟩
        have C6 := Lw.hid (C5.out.kept k6 (fun _ _ h => h)); have D6 := Lw.hid (D5.out.kept k6 (fun _ _ h => h)); have X6 := Lw.hid (X5.out.kept k6 (fun _ _ h => h)); have DT6 := Lw.hid (DT.out.kept k6 (fun _ _ h => h)); have K6 := Lw.hid (K5.out.trans k6 (fun _ _ h => h))
        clear k6 C5 D5 X5 CT DT K5
        go_wp2_with fail
        refine (sleq_any _ _ _ F.sgn F.sgn DT6.out X6.out true (by simp)).mono ?_
        rintro e w7 ⟨rfl, k7⟩
        have C7 := Lw.hid (C6.out.kept k7 (fun _ _ h => h)); have D7 := Lw.hid (D6.out.kept k7 (fun _ _ h => h)); have K7 := Lw.hid (K6.out.trans k7 (fun _ _ h => h))
        clear k7 C6 D6 X6 DT6 K6
        obtain ⟨tb, htb⟩ : ∃ tb, (tag == other) = tb := ⟨_, rfl⟩
        have HTE := Lw.hid htb
        have hti : ((tag : Int) == (other : Int)) = tb := by rw [← htb, Bool.eq_iff_iff, beq_iff_eq, beq_iff_eq]; omega
        clear htb
        go_wp2_with fail
        refine (sleq_any _ _ _ (F.enc tag) (F.enc other) C7.out D7.out tb (by rw [enc_beq F HT.out HO.out]; exact HTE.out)).mono ?_
        rintro e w8 ⟨rfl, k8⟩
        have K8 := Lw.hid (K7.out.trans k8 (fun _ _ h => h))
        clear k8 K7 C7 D7
        go_wp2_with fail
        refine (ftells_any _ (HM.out.kept K8.out)).mono ?_
        rintro e w9 ⟨rfl, k9⟩
        go_wp2_with fail
        go_ret
        exact ⟨rfl, Below.of_kept (K8.out.trans k9 (fun _ _ h => h))⟩
end Go.Proofs.YtcmipliglcakdaaDoor
