/- DiskPlays, walked. -/
import Derived.Test.YtoiinmiedmjghaaPlaysP
import Derived.Deep.DeepCutAuto
import Derived.Deep.CutBlock
import Derived.Deep.LoopGhost
import Derived.Deep.RegionHeld3
namespace Go.Proofs.Ytoiinmiedmjghaa
open Go Go.RowKit Go.Lw
set_option maxRecDepth 100000
set_option maxHeartbeats 8000000 in
theorem dplays_any (w : World) (cp : Int) (hcp : -9223372036854775808 ≤ cp ∧ cp ≤ 9223372036854775807) (x : Value) (A : List Act4) (hx : RdA w x A) :
    Calls Try.prog 4 #[.int .i64 cp, x] w fun e w' => e = .returned (.bool true) ∧ Below w.heap.size w w' := by
  obtain ⟨adx, capx, rfl, hx1, hx2, hx3⟩ := hx.1.2
  clear hx3
  unfold maxLen at hx2
  have HX := Lw.hid hx
  clear hx
  by_cases hc : cp < 0 ∨ 1048576 < cp
  · go_enter Try.func4, Try.ntmps4
    go_wp2_with fail
    refine (dnew_no w cp hc hcp).mono ?_
    rintro e _ ⟨rfl, rfl⟩
    go_wp2_with fail
    refine (rnew_no w cp hc hcp).mono ?_
    rintro e _ ⟨rfl, rfl⟩
    go_wp2_with fail
    refine (dtells_any _).mono ?_
    rintro e w7 ⟨rfl, k7⟩
    have K7 := Lw.hid k7
    clear k7
    go_wp2_with fail
    go_ret
    exact ⟨rfl, Below.of_kept K7.out⟩
  obtain ⟨n, rfl⟩ : ∃ n : Nat, cp = (n : Int) := ⟨cp.toNat, by omega⟩
  have hn : n ≤ 1048576 := by omega
  clear hc hcp
  go_enter Try.func4, Try.ntmps4
  go_wp2_with fail
  refine (dnew_any w n hn).mono ?_
  rintro e w1 ⟨g, rfl, d1, k1, hg⟩
  have D1 := Lw.hid d1; have K1 := Lw.hid k1; have hg1 := heap_lt d1.box
  clear d1 k1
  go_wp2_with fail
  refine (rnew_any w1 n hn).mono ?_
  rintro e w2 ⟨gr, rfl, r2, k2, hgr⟩
  have D2 := Lw.hid (D1.out.kept k2 (fun h => h) (fun _ _ h => h)); have R2 := Lw.hid r2; have K2 := Lw.hid (K1.out.trans k2 (fun _ _ h => h)); have hgr2 := heap_lt r2.box
  clear r2 k2 D1 K1
  go_wp2_with fail
  refine (fewA_any w2 _ A (HX.out.kept K2.out (fun _ _ h => h) (fun _ _ _ _ _ h => h))).mono ?_
  rintro e w3 ⟨vF, rfl, oF, k3, hvF⟩
  obtain ⟨F, hF⟩ : ∃ F, fewA A = F := ⟨_, rfl⟩
  have hFok := fewA_ok HX.out.2 (K2.out.trans k3 (fun _ _ h => h))
  have hFlt : ∀ a ∈ fewA A, a.l.length ≠ 0 → ∀ q, blk a.v q → q < w.heap.size := fun a ha hn q hq => by
    obtain ⟨b, hb, rfl⟩ := List.mem_map.1 ha
    exact (HX.out.2 b (List.mem_of_mem_take hb)).rd.lt (fun h0 => hn (by simp [Act4.short, h0])) q (blk_cutV hq)
  have hF30 := fewA_len A
  rw [hF] at oF hFok hFlt hF30
  clear hF
  obtain ⟨adF, capF, rfl, hF1, hF2, _⟩ := own_slice oF
  have hFlt3 := own_lt oF
  have HFR : Hid (RdA w3 (.slice adF F.length capF) F) := Lw.hid ⟨Rd.own oF, fun a ha => (hFok a ha).1⟩
  obtain ⟨T, hT⟩ : ∃ T : Nat → Prop, ∀ q, T q ↔ w.heap.size ≤ q ∧ ¬ blk (.slice adF F.length capF) q := ⟨_, fun _ => Iff.rfl⟩
  have HT := Lw.hid hT
  have HT3 : Hid (∀ q, w3.heap.size ≤ q → T q) := Lw.hid (fun q hq => (hT q).2 ⟨by have := K2.out.size; have := k3.size; omega, fun h => by have := hFlt3 q h; omega⟩)
  have HFT : Hid (∀ q, blk (.slice adF F.length capF) q → ¬ T q) := Lw.hid (fun q hq h => ((hT q).1 h).2 hq)
  have HAT : Hid (∀ a ∈ F, a.l.length ≠ 0 → ∀ q, blk a.v q → ¬ T q) := Lw.hid (fun a ha hn q hq h => by have := hFlt a ha hn q hq; have := ((hT q).1 h).1; omega)
  have HF40 : Hid (∀ a ∈ F, a.l.length ≤ 40) := Lw.hid (fun a ha => (hFok a ha).2)
  have hsz := K2.out.size
  have hw1 := hg1
  have HB : Hid (Both T w3 w3 g gr (.slice none 0 0) (.slice none 0 0) ⟨n, [], 0, false, false, 0, 0⟩ ⟨n, [], 0, false, -1, 0⟩) := Lw.hid
    ⟨D2.out.kept k3 (fun h => h) (fun _ _ h => h), R2.out.kept k3 (fun h => h) (fun _ _ h => h), Kept.refl _ _, (hT g).2 ⟨hg, fun h => by have := hvF g h; omega⟩, (hT gr).2 ⟨by omega, fun h => by have := hvF gr h; omega⟩,
      fun _ h => (blk_none h).elim, fun _ h => (blk_none h).elim, by omega, fun h => blk_none h, fun h => blk_none h, fun _ h => (blk_none h).elim⟩
  have HG : Hid (Good 0 ⟨n, [], 0, false, false, 0, 0⟩ ⟨n, [], 0, false, -1, 0⟩) := Lw.hid ⟨rfl, rfl, rfl, rfl, (fun h => by cases h), fun _ => rfl, (show (0 : Int) ≤ 0 ∧ (0 : Int) ≤ 9223372036854775807 by decide), Nat.zero_le _, hn, Nat.le_refl _, (show -((0 : Nat) : Int) ≤ (0 : Int) ∧ (0 : Int) ≤ 9223372036854775807 by decide), (show (0 : Int) ≤ 0 ∧ (0 : Int) ≤ 9223372036854775807 by decide)⟩
  have K3 := Lw.hid (K2.out.trans k3 (fun _ _ h => h))
  unfold maxLen at hF2
  clear hT hFok hFlt hFlt3 hvF oF k3 D2 R2 K2 hsz hw1 hg1 hgr2 hgr
  go_wp2_with fail
  go_loopg [41, 5] F.length (fun gk i p wr => ∃ (k g : Nat) (v vr : Value) (D : Dsk) (R : Rsk), gk + k = F.length ∧ i = .int .i64 k ∧ p = .pointer (some ⟨g, 0, none⟩) ∧ Good k D R ∧ Both T w3 wr g gr v vr D R)
  case atStart => exact ⟨0, g, _, _, _, _, rfl, rfl, rfl, HG.out, HB.out⟩
  case round =>
    obtain ⟨k, g1, v, vr, D, R, hgk, rfl, rfl, hgd, hbt⟩ := hrel
    have hF := hF30
    by_cases hlt : k < F.length
    · obtain ⟨gF, offF, hadF, c0, cj⟩ := (HFR.out.1.kept hbt.k HFT.out).elem (fun _ _ => rfl) (by decide) k hlt
      obtain ⟨a, haF⟩ : ∃ a, F[k] = a := ⟨_, rfl⟩
      have haM : a ∈ F := haF ▸ List.getElem_mem hlt
      rw [haF] at c0 cj
      have c1 := cj 1 (by decide); have c2 := cj 2 (by decide); have c3 := cj 3 (by decide)
      have haok := HFR.out.2 a haM
      obtain ⟨ab, cb, hv, hb1, hb2, hb3⟩ := haok.rd.open
      have hb40 := HF40.out a haM
      have hat := haok.at_
      have hmany := haok.many
      have HRB : Hid (RdB wr a.v a.l) := Lw.hid (haok.rd.keptE hbt.k (HAT.out a haM))
      have HNB := Lw.hid (HAT.out a haM)
      have HRB3 := Lw.hid haok.rd
      clear haok cj haF haM hb3
      simp only [Act4.cells, List.getElem?_cons_zero, List.getElem?_cons_succ] at c0 c1 c2 c3
      obtain ⟨awhat, aat, amany, av, al⟩ := a
      simp only at hv hb1 hb2 hb40 hat hmany HRB HRB3 HNB c0 c1 c2 c3
      subst hv
      subst hadF
      unfold maxLen at hb2
      have HG := Lw.hid hgd; have HBT := Lw.hid hbt
      have HGK := Lw.hid hgk
      clear hgd hbt
      obtain ⟨m, hm⟩ : ∃ m, al.length = m := ⟨_, rfl⟩
      have HM := Lw.hid hm
      rw [hm] at hb1 hb40 c3 HRB HRB3 HNB
      clear hm
      obtain ⟨nF, hnF⟩ : ∃ nF, F.length = nF := ⟨_, rfl⟩
      rw [hnF] at hlt hF hgk HGK ⊢
      have hgk1 : gk + k ≤ nF := by omega
      have hgk2 : nF ≤ gk + k := by omega
      have HNF := Lw.hid hnF
      clear hnF hgk
      have HBA : Hid (∀ o, Both T w3 (wr.alloc o) g1 gr v vr D R) := Lw.hid (fun o => HBT.out.keptF ((Kept.refl (fun _ => False) wr).alloc o))
      go_upto_block 2 with fail
      go_cut [5, 11, 12] (fun p5 s11 s12 wx => ∃ (g : Nat) (v vr : Value) (D : Dsk) (R : Rsk) (er : Nat), p5 = .pointer (some ⟨g, 0, none⟩) ∧ s11 = .int .i64 (er : Int) ∧ s12 = .int .i64 (er : Int) ∧ Good (k + 1) D R ∧ Both T w3 wx g gr v vr D R)
      case first =>
        have hal := Kept.alloc (Kept.refl (fun _ => False) wr) (.cells #[.int .i64 awhat, .int .i64 aat, .int .i64 amany, .slice ab m cb] 39)
        have hbn := heap_alloc wr (.cells #[.int .i64 awhat, .int .i64 aat, .int .i64 amany, .slice ab m cb] 39)
        have HAL := Lw.hid hal; have HBN := Lw.hid hbn
        clear hal hbn
        have hgl := heap_lt HBT.out.d.box; have hgrl := heap_lt HBT.out.r.box
        have HVL := Lw.hid (own_lt HBT.out.d.own); have HVRL := Lw.hid (own_lt HBT.out.r.own)
        have HWK := Lw.hid HBT.out.k.size
        have HRA : Hid (∀ wx, Kept T w3 wx → RdB wx (.slice ab m cb) al) := Lw.hid (fun wx kx => (HRB3.out).keptE kx (fun hn => HNB.out (by rw [← HM.out]; exact hn)))
        have hcs : (awhat = 0 ∨ awhat = 1 ∨ awhat = 2 ∨ awhat = 3 ∨ awhat = 4) ∨ awhat = 5 ∨ (awhat = 6 ∨ awhat = 7) ∨ awhat = 8 ∨ awhat = 9 ∨ (awhat < 0 ∨ 9 < awhat) := by omega
        rcases hcs with h | h | h | h | h | h
        · obtain ⟨D', er, hD⟩ : ∃ D' er, D.put aat al = (D', er) := ⟨_, _, rfl⟩
          obtain ⟨R', er', hR⟩ : ∃ R' er', R.put aat al = (R', er') := ⟨_, _, rfl⟩
          obtain ⟨he, hg'⟩ := HG.out.put aat al
          rw [hD, hR] at he hg'
          simp only at he hg'
          subst he
          have HDP := Lw.hid hD; have HRP := Lw.hid hR; have HG' := Lw.hid hg'
          clear hD hR hg'
          rcases h with rfl | rfl | rfl | rfl | rfl
          all_goals
            go_wp2_with (at_builtin; refine wpList_app rfl _ _ _ rfl EB (.slice none 0 0) 0 [] rfl (World.ownsRow_nil _ _ _ _) _ m _ rfl (rd_cast HM.out (HRB.out.alloc _)) (bytes_oneCell al) (by unfold maxLen; omega) (by omega) ?_; intro a5 c5 w5 ho hg hf; simp only [Nat.zero_add, List.nil_append] at ho hf ⊢; have HO5 := Lw.hid ho; have k5 : Kept (fun _ => False) _ w5 := (Kept.refl (fun _ => False) _).grown hg (fun k hk _ => by cases hk); have b5 := k5.heap HBN.out (fun h => h); have e51 := heap_cell b5 1; have e53 := heap_cell b5 3; have HB5 := Lw.hid ((HBA.out _).keptF k5); have HK5 := Lw.hid (HAL.out.trans k5 (fun _ _ h => h)); have HF5 := Lw.hid (fresh_nil hf); clear ho hg hf k5 b5)
            have HGA : Hid (∀ wx, Kept (fun _ => False) w5 wx → DiskAt wx g1 v D) := Lw.hid (fun wx kx => (HB5.out.keptF kx).d)
            have HRO : Hid (∀ wx, Kept (fun _ => False) w5 wx → RdB wx (.slice a5 m c5) al) := Lw.hid (fun wx kx => (RdB.of_own HO5.out HM.out.symm).kept kx (fun _ _ h => h))
            go_region_held3 (fun w' => w'.cell? ⟨wr.heap.size, 1, none⟩ = some (.int .i64 aat) ∧ w'.cell? ⟨wr.heap.size, 3, none⟩ = some (.slice ab m cb)) (go_keep)
              (first
                | (go_at_call 13; refine (dput_any _ g1 v D (HGA.out _ (Kept.refl _ _).drew) (HG.out.dok (by omega)) aat hat (.slice a5 m c5) al (HRO.out _ (Kept.refl _ _).drew) (fun hn q hq => own_apart HF5.out hgl HVL.out q hq)).mono ?_; rw [HDP.out]; rintro e w6 ⟨rfl, hp⟩; obtain ⟨v6, hb6, k6, fr6⟩ := (HB5.out.keptF (Kept.refl _ _).drew).put hp HT3.out; have f61 := k6.cell (p := ⟨wr.heap.size, 1, none⟩) e51 (box_apart hgl HVL.out); have f63 := k6.cell (p := ⟨wr.heap.size, 3, none⟩) e53 (box_apart hgl HVL.out); have HB6 := Lw.hid hb6; have HK6 := Lw.hid k6; have FR6 := Lw.hid fr6; clear hp hb6 k6 fr6)
                | (go_at_call 22; refine (rput_any _ gr vr R HB6.out.r (HG.out.rok (by omega)) aat hat (.slice ab m cb) al (HRA.out _ HB6.out.k) (by rw [HM.out]; omega) (fun hn q hq => args_apart (HNB.out (by rw [← HM.out]; exact hn)) HB6.out.tr HB6.out.tvr q hq)).mono ?_; rw [HRP.out]; rintro e w7 ⟨rfl, hp⟩; obtain ⟨vr7, hb7, k7, fr7⟩ := HB6.out.rput hp HT3.out; have f71 := k7.cell (p := ⟨wr.heap.size, 1, none⟩) f61 (box_apart hgrl HVRL.out); have f73 := k7.cell (p := ⟨wr.heap.size, 3, none⟩) f63 (box_apart hgrl HVRL.out); have HB7 := Lw.hid hb7; have HK7 := Lw.hid k7; have FR7 := Lw.hid fr7; clear hp hb7 k7 fr7))
            have HAPO : Hid (∀ q, blk (.slice a5 m c5) q → (q ≠ g1 ∧ ¬ blk v q) ∧ (q ≠ gr ∧ ¬ blk vr q)) := Lw.hid (fun q hq => ⟨own_apart HF5.out hgl HVL.out q hq, own_apart HF5.out hgrl HVRL.out q hq⟩)
            obtain ⟨ho7, hoa7⟩ := own_over HO5.out HAPO.out (fun q hq => by have h := HF5.out q hq; have := HWK.out; simp at h; omega) HT3.out HK6.out FR6.out HK7.out FR7.out
            have HO7 := Lw.hid ho7; have HOA7 := Lw.hid hoa7
            clear ho7 hoa7 HK6 FR6 HK7 FR7 HAPO HF5 HO5 HB5 HB6 HRO HGA HRA f61 f63 f71 f73 e51 e53
            go_wp2_with fail
            go_loopg [14] m (fun gj i wx => ∃ (j : Nat) (L : List UInt8), gj + j = m ∧ i = .int .i64 j ∧ L.length = m ∧ wx.ownsRow 0 5 1 (.slice a5 m c5) m (L.map bv) ∧ Both T w3 wx g1 gr v6 vr7 D' R')
            case atStart => exact ⟨0, al, rfl, rfl, HM.out, HO7.out, HB7.out⟩
            case round =>
              obtain ⟨j, L, hgj, rfl, hLm, hoj, hbj⟩ := hrel
              have HOJ := Lw.hid hoj; have HBJ := Lw.hid hbj; have HLM := Lw.hid hLm
              have hgj1 : gk + j ≤ m := by omega
              have hgj2 : m ≤ gk + j := by omega
              clear hgj hLm hoj hbj
              by_cases hj : j < m
              · obtain ⟨go, c5', hes⟩ : ∃ go c5', Value.slice a5 m c5 = .slice (some ⟨go, 0, none⟩) m c5' := by
                  obtain ⟨x, y, e, _, _, h⟩ := own_slice HOJ.out
                  obtain ⟨go, rfl⟩ := h (by omega)
                  exact ⟨go, y, e⟩
                obtain rfl : a5 = some ⟨go, 0, none⟩ := by injection hes
                clear hes
                have hcl : wr.cell? ⟨go, j, none⟩ = some (bv (L[j]'(by rw [HLM.out]; exact hj))) := by
                  refine own_cell HOJ.out j _ ?_ (by omega)
                  rw [List.getElem?_map, List.getElem?_eq_getElem (by rw [HLM.out]; exact hj)]; rfl
                have hfz := HOJ.out.frozenAt j
                generalize L[j]'_ = y at hcl
                obtain ⟨yc, hyc⟩ := xor_bv y
                have HYC := Lw.hid hyc
                clear hyc
                go_wp2_with fail
                rw [HYC.out]
                go_roundg (m - (j + 1))
                case measure => omega
                case rel => exact ⟨j + 1, L.set j yc, by omega, by go_num, by rw [List.length_set]; exact HLM.out, by rw [← set_map]; exact (HOJ.out.stored j (bv yc)).1, HBJ.out.kept (S := fun q => q = go) (kept_set1 _ go j _) (fun q e _ => e ▸ HOA7.out go rfl) HBJ.out.k.size⟩
              · go_wp2_with fail
                go_meet
                case rel => exact ⟨g1, v6, vr7, D', R', er, rfl, rfl, rfl, HG'.out, HBJ.out⟩
        · obtain rfl := h
          obtain ⟨D', er, hD⟩ : ∃ D' er, D.plan aat amany = (D', er) := ⟨_, _, rfl⟩
          obtain ⟨R', er', hR⟩ : ∃ R' er', R.plan aat amany = (R', er') := ⟨_, _, rfl⟩
          obtain ⟨he, hg'⟩ := HG.out.plan' aat amany hat.2 hmany.2
          rw [hD, hR] at he hg'
          simp only at he hg'
          subst he
          have HDP := Lw.hid hD; have HRP := Lw.hid hR; have HG' := Lw.hid hg'
          clear hD hR hg'
          have e1 := heap_cell HBN.out 1; have e2 := heap_cell HBN.out 2
          go_wp2_with fail
          go_region_held3 (fun w' => w'.cell? ⟨wr.heap.size, 1, none⟩ = some (.int .i64 aat) ∧ w'.cell? ⟨wr.heap.size, 2, none⟩ = some (.int .i64 amany)) (go_keep)
            (first
              | (go_at_call 14; refine (dplan_any _ g1 v D ((HBA.out _).keptF (Kept.refl _ _).drew).d aat amany).mono ?_; rw [HDP.out]; rintro e w6 ⟨rfl, hp⟩; obtain ⟨v6, hb6, k6, fr6⟩ := ((HBA.out _).keptF (Kept.refl _ _).drew).put hp HT3.out; have f61 := k6.cell (p := ⟨wr.heap.size, 1, none⟩) e1 (box_apart hgl HVL.out); have f63 := k6.cell (p := ⟨wr.heap.size, 2, none⟩) e2 (box_apart hgl HVL.out); have HB6 := Lw.hid hb6; clear hp hb6 k6 fr6)
              | (go_at_call 23; refine (rplan_any _ gr vr R HB6.out.r aat amany).mono ?_; rw [HRP.out]; rintro e w7 ⟨rfl, hp⟩; obtain ⟨vr7, hb7, k7, fr7⟩ := HB6.out.rput hp HT3.out; have f71 := k7.cell (p := ⟨wr.heap.size, 1, none⟩) f61 (box_apart hgrl HVRL.out); have f73 := k7.cell (p := ⟨wr.heap.size, 2, none⟩) f63 (box_apart hgrl HVRL.out); have HB7 := Lw.hid hb7; clear hp hb7 k7 fr7))
          go_wp2_with fail
          go_meet
          case rel => exact ⟨g1, v6, vr7, D', R', er, rfl, rfl, rfl, HG'.out, HB7.out⟩
        · obtain ⟨D', er, hD⟩ : ∃ D' er, D.revive = (D', er) := ⟨_, _, rfl⟩
          obtain ⟨R', er', hR⟩ : ∃ R' er', R.revive = (R', er') := ⟨_, _, rfl⟩
          obtain ⟨he, hg'⟩ := HG.out.revive
          rw [hD, hR] at he hg'
          simp only at he hg'
          subst he
          have HDP := Lw.hid hD; have HRP := Lw.hid hR; have HG' := Lw.hid hg'
          clear hD hR hg'
          rcases h with rfl | rfl
          all_goals
            go_wp2_with fail
            refine (drevive_any _ g1 v D (HBA.out _).d).mono ?_
            rw [HDP.out]
            rintro e w6 ⟨rfl, hp⟩
            obtain ⟨v6, hb6, k6, fr6⟩ := (HBA.out _).put hp HT3.out
            have HB6 := Lw.hid hb6
            clear hp hb6 k6 fr6
            go_wp2_with fail
            refine (rrevive_any _ gr vr R HB6.out.r).mono ?_
            rw [HRP.out]
            rintro e w7 ⟨rfl, hp⟩
            obtain ⟨vr7, hb7, k7, fr7⟩ := HB6.out.rput hp HT3.out
            have HB7 := Lw.hid hb7
            clear hp hb7 k7 fr7
            go_wp2_with fail
            go_meet
            case rel => exact ⟨g1, v6, vr7, D', R', er, rfl, rfl, rfl, HG'.out, HB7.out⟩
        · obtain rfl := h
          obtain ⟨LR, hLR⟩ : ∃ LR, D.rd aat amany = LR := ⟨_, rfl⟩
          have HRD : Hid (R.rd aat amany = LR) := Lw.hid (by rw [← rd_eq D R HG.out.b]; exact hLR)
          have HLR := Lw.hid hLR
          clear hLR
          have e1 := heap_cell HBN.out 1; have e2 := heap_cell HBN.out 2
          go_wp2_with fail
          refine (dread_any _ g1 v D (HBA.out _).d (by have := (HG.out.dok (by omega)).len; have := (HG.out.dok (by omega)).cap; omega) aat amany hat hmany).mono ?_
          rw [HLR.out]
          rintro e w6 ⟨r6, rfl, o6, k6, f6⟩
          obtain ⟨a6, c6, rfl, hs1, hs2, _⟩ := own_slice o6
          unfold maxLen at hs2
          obtain ⟨nR, hnR⟩ : ∃ nR, LR.length = nR := ⟨_, rfl⟩
          rw [hnR] at o6 f6 hs1 ⊢
          have hnR9 : nR ≤ 9223372036854775807 := by omega
          clear hs1 hs2
          have HB6 := Lw.hid ((HBA.out _).keptF k6)
          have e1 := k6.cell e1 (fun h => h); have e2 := k6.cell e2 (fun h => h)
          have HO6 := Lw.hid o6; have R6 := Lw.hid (RdB.of_own o6 hnR.symm); have HF6 := Lw.hid f6; have HNR := Lw.hid hnR
          clear o6 k6 f6 hnR
          go_wp2_with fail
          refine wp_region_tail 10 [stV (.slice a6 nR c6), stV (.string ⟨LR.toArray⟩), stV (.pointer (some ⟨gr, 0, none⟩)), stV (.pointer (some ⟨wr.heap.size, 1, none⟩)), stV (.int .i64 aat), stV (.pointer (some ⟨wr.heap.size, 2, none⟩)), stV (.int .i64 amany), stB LR, stV (.string ⟨LR.toArray⟩), stV (.bool false)] (by kernel_rfl) (by kernel_rfl) ?_ ?_
          · -- each operation by itself
            refine ssteps_cons (fun a' w' hI hag hf K hK => ?_) ?_
            · have s15 := hag.same 15 (by decide)
              clear hag
              go_wp2_with fail
              exact hK _ _ hI (Kept.refl _ _) rfl
            refine ssteps_cons (fun a' w' hI hag hf K hK => ?_) ?_
            · obtain ⟨⟨_, h0, rfl⟩, -⟩ : SFacts _ _ a' w' [0] := hf
              clear hag
              refine wpList_str rfl _ _ _ rfl (.slice a6 nR c6) LR (by simp [Act.eval, h0]) (R6.out.kept hI (fun _ _ h => h)) Try.underlying22 Try.underlying5 Try.underlying9 ?_
              exact hK _ _ hI (Kept.refl _ _) rfl
            refine ssteps_cons (fun a' w' hI hag hf K hK => ?_) ?_
            · have s7 := hag.same 7 (by decide)
              clear hag
              go_wp2_with fail
              exact hK _ _ hI (Kept.refl _ _) rfl
            refine ssteps_cons (fun a' w' hI hag hf K hK => ?_) ?_
            · have s10 := hag.same 10 (by decide)
              clear hag
              go_wp2_with fail
              exact hK _ _ hI (Kept.refl _ _) rfl
            refine ssteps_cons (fun a' w' hI hag hf K hK => ?_) ?_
            · obtain ⟨⟨_, h3, rfl⟩, -⟩ : SFacts _ _ a' w' [3] := hf
              clear hag
              have e1' := hI.cell e1 (fun h => h)
              go_wp2_with fail
              exact hK _ _ hI (Kept.refl _ _) rfl
            refine ssteps_cons (fun a' w' hI hag hf K hK => ?_) ?_
            · have s10 := hag.same 10 (by decide)
              clear hag
              go_wp2_with fail
              exact hK _ _ hI (Kept.refl _ _) rfl
            refine ssteps_cons (fun a' w' hI hag hf K hK => ?_) ?_
            · obtain ⟨⟨_, h5, rfl⟩, -⟩ : SFacts _ _ a' w' [5] := hf
              clear hag
              have e2' := hI.cell e2 (fun h => h)
              go_wp2_with fail
              exact hK _ _ hI (Kept.refl _ _) rfl
            refine ssteps_cons (fun a' w' hI hag hf K hK => ?_) ?_
            · obtain ⟨⟨_, h2, rfl⟩, ⟨_, h4, rfl⟩, ⟨_, h6, rfl⟩, -⟩ : SFacts _ _ a' w' [2, 4, 6] := hf
              clear hag
              go_wp2_with fail
              refine (rread_any _ gr vr R (HB6.out.keptF hI).r (by have := (HG.out.rok (by omega)).len; have := (HG.out.rok (by omega)).cap; omega) aat amany hat hmany).mono ?_
              rw [HRD.out]
              rintro e wn ⟨rv, rfl, ho, hkn, hfr⟩
              go_wp2_with fail
              exact hK _ _ (hI.trans hkn (fun _ _ h => h)) hkn (RdB.of_own ho rfl)
            refine ssteps_cons (fun a' w' hI hag hf K hK => ?_) ?_
            · obtain ⟨⟨v7, h7, e7⟩, -⟩ : SFacts _ _ a' w' [7] := hf
              clear hag
              refine wpList_str rfl _ _ _ rfl v7 LR (by simp [Act.eval, h7]) (show RdB w' v7 LR from e7) Try.underlying22 Try.underlying5 Try.underlying9 ?_
              exact hK _ _ hI (Kept.refl _ _) rfl
            refine ssteps_cons (fun a' w' hI hag hf K hK => ?_) ?_
            · obtain ⟨⟨_, h1, rfl⟩, ⟨_, h8, rfl⟩, -⟩ : SFacts _ _ a' w' [1, 8] := hf
              clear hag
              go_wp2_with fail
              exact hK _ _ hI (Kept.refl _ _) rfl
            exact trivial
          · intro vs w7 hI hvs
            have q0 : vs 0 = (.slice a6 nR c6) := hvs 0 _ _ rfl rfl
            have q1 : vs 1 = (.string ⟨LR.toArray⟩) := hvs 1 _ _ rfl rfl
            have q2 : vs 2 = (.pointer (some ⟨gr, 0, none⟩)) := hvs 2 _ _ rfl rfl
            have q3 : vs 3 = (.pointer (some ⟨wr.heap.size, 1, none⟩)) := hvs 3 _ _ rfl rfl
            have q4 : vs 4 = (.int .i64 aat) := hvs 4 _ _ rfl rfl
            have q5 : vs 5 = (.pointer (some ⟨wr.heap.size, 2, none⟩)) := hvs 5 _ _ rfl rfl
            have q6 : vs 6 = (.int .i64 amany) := hvs 6 _ _ rfl rfl
            have q7 := hvs 7 _ _ rfl rfl
            have q8 : vs 8 = (.string ⟨LR.toArray⟩) := hvs 8 _ _ rfl rfl
            have q9 : vs 9 = (.bool false) := hvs 9 _ _ rfl rfl
            clear hvs
            simp only [List.take_succ_cons, List.take_zero, List.drop_succ_cons, List.drop_zero, putAll, Act.put, List.setIfInBounds_toArray, List.set_cons_zero, List.set_cons_succ, Nat.reduceAdd, q0, q1, q2, q3, q4, q5, q6, q8, q9]
            clear q0 q1 q2 q3 q4 q5 q6 q8 q9
            generalize vs 7 = x7 at *
            have HI := Lw.hid hI
            clear hI
            have HB7 := Lw.hid (HB6.out.keptF HI.out)
            have HO7 := Lw.hid (own_kept HI.out HO6.out (fun _ _ h => h))
            have HOA7 : Hid (∀ q, blk (.slice a6 nR c6) q → T q ∧ q ≠ g1 ∧ q ≠ gr ∧ ¬ blk v q ∧ ¬ blk vr q) := Lw.hid (fun q hq => by
              have h1 := own_apart HF6.out hgl HVL.out q hq
              have h2 := own_apart HF6.out hgrl HVRL.out q hq
              exact ⟨HT3.out q (by have h := HF6.out q hq; have := HWK.out; simp at h; omega), h1.1, h2.1, h1.2, h2.2⟩)
            clear HB6 HO6 HF6 HI R6 e1 e2
            go_wp2_with fail
            go_loopg [16] nR (fun gj i wx => ∃ (j : Nat) (L : List UInt8), gj + j = nR ∧ i = .int .i64 j ∧ L.length = nR ∧ wx.ownsRow 0 5 1 (.slice a6 nR c6) nR (L.map bv) ∧ Both T w3 wx g1 gr v vr D R)
            case atStart => exact ⟨0, LR, rfl, rfl, HNR.out, HO7.out, HB7.out⟩
            case round =>
              obtain ⟨j, L, hgj, rfl, hLm, hoj, hbj⟩ := hrel
              have HOJ := Lw.hid hoj; have HBJ := Lw.hid hbj; have HLM := Lw.hid hLm
              have hgj1 : gk + j ≤ nR := by omega
              have hgj2 : nR ≤ gk + j := by omega
              clear hgj hLm hoj hbj
              by_cases hj : j < nR
              · obtain ⟨go, c5', hes⟩ : ∃ go c5', Value.slice a6 nR c6 = .slice (some ⟨go, 0, none⟩) nR c5' := by
                  obtain ⟨x, y, e, _, _, h⟩ := own_slice HOJ.out
                  obtain ⟨go, rfl⟩ := h (by omega)
                  exact ⟨go, y, e⟩
                obtain rfl : a6 = some ⟨go, 0, none⟩ := by injection hes
                clear hes
                have hcl : wr.cell? ⟨go, j, none⟩ = some (bv (L[j]'(by rw [HLM.out]; exact hj))) := by
                  refine own_cell HOJ.out j _ ?_ (by omega)
                  rw [List.getElem?_map, List.getElem?_eq_getElem (by rw [HLM.out]; exact hj)]; rfl
                have hfz := HOJ.out.frozenAt j
                generalize L[j]'_ = y at hcl
                obtain ⟨yc, hyc⟩ := xor_bv y
                have HYC := Lw.hid hyc
                clear hyc
                go_wp2_with fail
                rw [HYC.out]
                go_roundg (nR - (j + 1))
                case measure => omega
                case rel => exact ⟨j + 1, L.set j yc, by omega, by go_num, by rw [List.length_set]; exact HLM.out, by rw [← set_map]; exact (HOJ.out.stored j (bv yc)).1, HBJ.out.kept (S := fun q => q = go) (kept_set1 _ go j _) (fun q e _ => e ▸ HOA7.out go rfl) HBJ.out.k.size⟩
              · go_wp2_with fail
                go_meet
                case rel => exact ⟨g1, v, vr, D, R, 0, rfl, rfl, rfl, HG.out.next, HBJ.out⟩
        · obtain rfl := h
          go_wp2_with fail
          refine (dcopy_any _ g1 v D (HBA.out _).d (by have := (HG.out.dok (by omega)).len; have := (HG.out.dok (by omega)).cap; omega)).mono ?_
          rintro e w6 ⟨g6, v6, rfl, d6, k6, hg6, hv6⟩
          have HB6 := Lw.hid ((HBA.out _).copy d6 k6 hg6 hv6 HT3.out)
          have HB6o := Lw.hid ((HBA.out _).keptF k6)
          have hg6l := heap_lt d6.box
          have HV6L := Lw.hid (own_lt d6.own)
          have HN6 := Lw.hid (And.intro hg6 hv6)
          clear d6 k6 hg6 hv6
          go_wp2_with fail
          refine (dput_any _ g6 v6 D (HB6.out.keptF ((Kept.refl _ _).alloc _)).d (HG.out.dok (by omega)) 0 (by decide) _ [1, 2, 3] (RdB.mark w6 [1, 2, 3] _ _ _ 3 rfl rfl (by decide)) (fun _ q hq => by have := blk_new hq; exact ⟨by omega, fun h => by have := HV6L.out q h; omega⟩)).mono ?_
          rintro e w7 ⟨rfl, hp⟩
          have HB7 : Hid (Both T w3 w7 g1 gr v vr D R) := Lw.hid (by
            obtain ⟨v7, d7, k7, f7⟩ := hp
            refine (HB6o.out.keptF ((Kept.refl _ _).alloc _)).kept k7 (fun q hq hl => ?_) ((HB6o.out.keptF ((Kept.refl _ _).alloc _)).k.size)
            have hh : wr.heap.size + 1 ≤ q := by
              rcases hq with e | e
              · have := HN6.out.1; simp at this; omega
              · have := HN6.out.2 q e; simpa using this
            exact ⟨HT3.out q (by have := HWK.out; omega), by omega, by omega, fun h => by have := HVL.out q h; omega, fun h => by have := HVRL.out q h; omega⟩)
          clear hp HB6 HB6o HV6L HN6 hg6l
          go_wp2_with fail
          refine (dcopy_any _ g1 v D HB7.out.d (by have := (HG.out.dok (by omega)).len; have := (HG.out.dok (by omega)).cap; omega)).mono ?_
          rintro e w8 ⟨g8, v8, rfl, d8, k8, hg8, hv8⟩
          have HB8 := Lw.hid (HB7.out.copy d8 k8 hg8 hv8 HT3.out)
          clear d8 k8 hg8 hv8 HB7
          go_wp2_with fail
          go_meet
          case rel => exact ⟨g8, v8, vr, D, R, 0, rfl, rfl, rfl, HG.out.next, HB8.out⟩
        · have hnn : (awhat == 0) = false ∧ (awhat == 1) = false ∧ (awhat == 2) = false ∧ (awhat == 3) = false ∧ (awhat == 4) = false ∧ (awhat == 5) = false ∧ (awhat == 6) = false ∧ (awhat == 7) = false ∧ (awhat == 8) = false ∧ (awhat == 9) = false := by
            simp only [beq_eq_false_iff_ne]
            refine ⟨?_, ?_, ?_, ?_, ?_, ?_, ?_, ?_, ?_, ?_⟩ <;> omega
          obtain ⟨n0, n1, n2, n3, n4, n5, n6, n7, n8, n9⟩ := hnn
          go_wp2_with fail
          go_meet
          case rel => exact ⟨g1, v, vr, D, R, 0, rfl, rfl, rfl, HG.out.next, HBA.out _⟩
      case rest =>
        obtain ⟨g2, v2, vr2, D2, R2, er, rfl, rfl, rfl, hgd, hbt⟩ := hcut
        obtain ⟨cp, b, pt, st, is, np, nb⟩ := D2
        obtain ⟨cpR, bR, ptR, stR, lf, byt⟩ := R2
        obtain rfl : b = bR := hgd.b
        obtain rfl : pt = ptR := hgd.puts
        obtain rfl : st = stR := hgd.st
        have hb9 : b.length ≤ 1048576 := by have h1 := hgd.len; have h2 := hgd.cap9; simp only at h1 h2; omega
        obtain ⟨ar, cr, hvr, hr1, hr2, _⟩ := own_slice hbt.r.own
        subst hvr
        obtain ⟨nb9, hnb9⟩ : ∃ n, b.length = n := ⟨_, rfl⟩
        have HNB9 := Lw.hid hnb9
        have HGD := Lw.hid hgd
        have hbx := hbt.r.box
        simp only [hnb9] at hbx hbt hr1
        have HBC := Lw.hid hbt
        have r1 := heap_cell hbx 1; have r2 := heap_cell hbx 2; have r3 := heap_cell hbx 3
        simp only at r1 r2 r3
        have HRD : Hid ((⟨cp, b, pt, st, is, np, nb⟩ : Dsk).rd 0 1048576 = b) := Lw.hid (by
          unfold Dsk.rd
          rw [if_neg (by simp)]
          simp only [Int.toNat_zero, List.drop_zero]
          exact List.take_of_length_le hb9)
        rw [hnb9] at hb9
        clear hgd hbt hbx hnb9
        go_wp2_with fail
        refine wp_region_tail 42 [stV (.int .i64 (er : Int)), stV (.int .i64 (er : Int)), stV (.bool false), stV (.bool false), stV (.pointer (some ⟨g2, 0, none⟩)), stB b, stV (.string ⟨b.toArray⟩), stV (.pointer (some ⟨gr, 0, none⟩)), stV (.pointer (some ⟨gr, 0, none⟩)), stV (.pointer (some ⟨gr, 1, none⟩)), stV (.slice ar nb9 cr), stV (.string ⟨b.toArray⟩), stV (.bool false), stV (.bool false), stV (.bool false), stV (.pointer (some ⟨g2, 0, none⟩)), stV (.int .i64 (nb9 : Int)), stV (.pointer (some ⟨gr, 0, none⟩)), stV (.pointer (some ⟨gr, 0, none⟩)), stV (.pointer (some ⟨gr, 1, none⟩)), stV (.slice ar nb9 cr), stV (.int .i64 (nb9 : Int)), stV (.bool false), stV (.bool false), stV (.bool false), stV (.pointer (some ⟨g2, 0, none⟩)), stV (.int .i64 (pt : Int)), stV (.pointer (some ⟨gr, 0, none⟩)), stV (.pointer (some ⟨gr, 0, none⟩)), stV (.pointer (some ⟨gr, 2, none⟩)), stV (.int .i64 (pt : Int)), stV (.bool false), stV (.bool false), stV (.bool false), stV (.pointer (some ⟨g2, 0, none⟩)), stV (.bool st), stV (.pointer (some ⟨gr, 0, none⟩)), stV (.pointer (some ⟨gr, 0, none⟩)), stV (.pointer (some ⟨gr, 3, none⟩)), stV (.bool st), stV (.bool false), stV (.bool false)] (by kernel_rfl) (by kernel_rfl) ?_ ?_
        · -- each operation by itself
          refine ssteps_cons (fun a' w' hI hag hf K hK => ?_) ?_
          · have s11 := hag.same 11 (by decide)
            clear hag
            go_wp2_with fail
            exact hK _ _ hI (Kept.refl _ _) rfl
          refine ssteps_cons (fun a' w' hI hag hf K hK => ?_) ?_
          · have s12 := hag.same 12 (by decide)
            clear hag
            go_wp2_with fail
            exact hK _ _ hI (Kept.refl _ _) rfl
          refine ssteps_cons (fun a' w' hI hag hf K hK => ?_) ?_
          · obtain ⟨⟨_, h0, rfl⟩, ⟨_, h1, rfl⟩, -⟩ : SFacts _ _ a' w' [0, 1] := hf
            clear hag
            go_wp2_with fail
            exact hK _ _ hI (Kept.refl _ _) rfl
          refine ssteps_cons (fun a' w' hI hag hf K hK => ?_) ?_
          · obtain ⟨⟨_, h2, rfl⟩, -⟩ : SFacts _ _ a' w' [2] := hf
            clear hag
            go_wp2_with fail
            exact hK _ _ hI (Kept.refl _ _) rfl
          refine ssteps_cons (fun a' w' hI hag hf K hK => ?_) ?_
          · obtain ⟨⟨_, h3, rfl⟩, -⟩ : SFacts _ _ a' w' [3] := hf
            have s5 := hag.same 5 (by decide)
            clear hag
            go_wp2_with fail
            exact hK _ _ hI (Kept.refl _ _) rfl
          refine ssteps_cons (fun a' w' hI hag hf K hK => ?_) ?_
          · obtain ⟨⟨_, h4, rfl⟩, ⟨_, h3, rfl⟩, -⟩ : SFacts _ _ a' w' [4, 3] := hf
            clear hag
            go_wp2_with fail
            refine (dread_any _ g2 v2 _ (HBC.out.keptF hI).d (by simp only; rw [HNB9.out]; omega) 0 1048576 (by decide) (by decide)).mono ?_
            rw [HRD.out]
            rintro e wn ⟨rv, rfl, ho, hkn, hfr⟩
            go_wp2_with fail
            exact hK _ _ (hI.trans hkn (fun _ _ h => h)) hkn (RdB.of_own ho rfl)
          refine ssteps_cons (fun a' w' hI hag hf K hK => ?_) ?_
          · obtain ⟨⟨v5, h5, e5⟩, ⟨_, h3, rfl⟩, -⟩ : SFacts _ _ a' w' [5, 3] := hf
            clear hag
            refine wpList_str (by simp [Region.wanted, yielded, h3]) _ _ _ rfl v5 b (by simp [Act.eval, h5]) (show RdB w' v5 b from e5) Try.underlying22 Try.underlying5 Try.underlying9 ?_
            exact hK _ _ hI (Kept.refl _ _) rfl
          refine ssteps_cons (fun a' w' hI hag hf K hK => ?_) ?_
          · obtain ⟨⟨_, h3, rfl⟩, -⟩ : SFacts _ _ a' w' [3] := hf
            have s7 := hag.same 7 (by decide)
            clear hag
            go_wp2_with fail
            exact hK _ _ hI (Kept.refl _ _) rfl
          refine ssteps_cons (fun a' w' hI hag hf K hK => ?_) ?_
          · obtain ⟨⟨_, h7, rfl⟩, ⟨_, h3, rfl⟩, -⟩ : SFacts _ _ a' w' [7, 3] := hf
            clear hag
            go_wp2_with fail
            exact hK _ _ hI (Kept.refl _ _) rfl
          refine ssteps_cons (fun a' w' hI hag hf K hK => ?_) ?_
          · obtain ⟨⟨_, h8, rfl⟩, ⟨_, h3, rfl⟩, -⟩ : SFacts _ _ a' w' [8, 3] := hf
            clear hag
            go_wp2_with fail
            exact hK _ _ hI (Kept.refl _ _) rfl
          refine ssteps_cons (fun a' w' hI hag hf K hK => ?_) ?_
          · obtain ⟨⟨_, h9, rfl⟩, ⟨_, h3, rfl⟩, -⟩ : SFacts _ _ a' w' [9, 3] := hf
            clear hag
            have cx := hI.cell r1 (fun h => h)
            go_wp2_with fail
            exact hK _ _ hI (Kept.refl _ _) rfl
          refine ssteps_cons (fun a' w' hI hag hf K hK => ?_) ?_
          · obtain ⟨⟨_, h10, rfl⟩, ⟨_, h3, rfl⟩, -⟩ : SFacts _ _ a' w' [10, 3] := hf
            clear hag
            refine wpList_str (by simp [Region.wanted, yielded, h3]) _ _ _ rfl (.slice ar nb9 cr) b (by simp [Act.eval, h10]) (rdb_len9 HNB9.out (HBC.out.keptF hI).r.own) Try.underlying22 Try.underlying5 Try.underlying9 ?_
            exact hK _ _ hI (Kept.refl _ _) rfl
          refine ssteps_cons (fun a' w' hI hag hf K hK => ?_) ?_
          · obtain ⟨⟨_, h6, rfl⟩, ⟨_, h11, rfl⟩, ⟨_, h3, rfl⟩, -⟩ : SFacts _ _ a' w' [6, 11, 3] := hf
            clear hag
            go_wp2_with fail
            exact hK _ _ hI (Kept.refl _ _) rfl
          refine ssteps_cons (fun a' w' hI hag hf K hK => ?_) ?_
          · obtain ⟨⟨_, h3, rfl⟩, ⟨_, h12, rfl⟩, -⟩ : SFacts _ _ a' w' [3, 12] := hf
            clear hag
            go_wp2_with fail
            exact hK _ _ hI (Kept.refl _ _) rfl
          refine ssteps_cons (fun a' w' hI hag hf K hK => ?_) ?_
          · obtain ⟨⟨_, h13, rfl⟩, -⟩ : SFacts _ _ a' w' [13, 5] := hf
            clear hag
            go_wp2_with fail
            exact hK _ _ hI (Kept.refl _ _) rfl
          refine ssteps_cons (fun a' w' hI hag hf K hK => ?_) ?_
          · obtain ⟨⟨_, h14, rfl⟩, -⟩ : SFacts _ _ a' w' [14] := hf
            have s5 := hag.same 5 (by decide)
            clear hag
            go_wp2_with fail
            exact hK _ _ hI (Kept.refl _ _) rfl
          refine ssteps_cons (fun a' w' hI hag hf K hK => ?_) ?_
          · obtain ⟨⟨_, h15, rfl⟩, ⟨_, h14, rfl⟩, -⟩ : SFacts _ _ a' w' [15, 14] := hf
            clear hag
            have hq := dend_any _ g2 v2 _ (HBC.out.keptF hI).d
            simp only at hq
            rw [HNB9.out] at hq
            go_wp2_with fail
            refine hq.mono ?_
            rintro e _ ⟨rfl, rfl⟩
            go_wp2_with fail
            exact hK _ _ hI (Kept.refl _ _) rfl
          refine ssteps_cons (fun a' w' hI hag hf K hK => ?_) ?_
          · obtain ⟨⟨_, h14, rfl⟩, -⟩ : SFacts _ _ a' w' [14] := hf
            have s7 := hag.same 7 (by decide)
            clear hag
            go_wp2_with fail
            exact hK _ _ hI (Kept.refl _ _) rfl
          refine ssteps_cons (fun a' w' hI hag hf K hK => ?_) ?_
          · obtain ⟨⟨_, h17, rfl⟩, ⟨_, h14, rfl⟩, -⟩ : SFacts _ _ a' w' [17, 14] := hf
            clear hag
            go_wp2_with fail
            exact hK _ _ hI (Kept.refl _ _) rfl
          refine ssteps_cons (fun a' w' hI hag hf K hK => ?_) ?_
          · obtain ⟨⟨_, h18, rfl⟩, ⟨_, h14, rfl⟩, -⟩ : SFacts _ _ a' w' [18, 14] := hf
            clear hag
            go_wp2_with fail
            exact hK _ _ hI (Kept.refl _ _) rfl
          refine ssteps_cons (fun a' w' hI hag hf K hK => ?_) ?_
          · obtain ⟨⟨_, h19, rfl⟩, ⟨_, h14, rfl⟩, -⟩ : SFacts _ _ a' w' [19, 14] := hf
            clear hag
            have cx := hI.cell r1 (fun h => h)
            go_wp2_with fail
            exact hK _ _ hI (Kept.refl _ _) rfl
          refine ssteps_cons (fun a' w' hI hag hf K hK => ?_) ?_
          · obtain ⟨⟨_, h20, rfl⟩, ⟨_, h14, rfl⟩, -⟩ : SFacts _ _ a' w' [20, 14] := hf
            clear hag
            go_wp2_with fail
            exact hK _ _ hI (Kept.refl _ _) rfl
          refine ssteps_cons (fun a' w' hI hag hf K hK => ?_) ?_
          · obtain ⟨⟨_, h16, rfl⟩, ⟨_, h21, rfl⟩, ⟨_, h14, rfl⟩, -⟩ : SFacts _ _ a' w' [16, 21, 14] := hf
            clear hag
            go_wp2_with fail
            exact hK _ _ hI (Kept.refl _ _) rfl
          refine ssteps_cons (fun a' w' hI hag hf K hK => ?_) ?_
          · obtain ⟨⟨_, h14, rfl⟩, ⟨_, h22, rfl⟩, -⟩ : SFacts _ _ a' w' [14, 22] := hf
            clear hag
            go_wp2_with fail
            exact hK _ _ hI (Kept.refl _ _) rfl
          refine ssteps_cons (fun a' w' hI hag hf K hK => ?_) ?_
          · obtain ⟨⟨_, h23, rfl⟩, -⟩ : SFacts _ _ a' w' [23, 16] := hf
            clear hag
            go_wp2_with fail
            exact hK _ _ hI (Kept.refl _ _) rfl
          refine ssteps_cons (fun a' w' hI hag hf K hK => ?_) ?_
          · obtain ⟨⟨_, h24, rfl⟩, -⟩ : SFacts _ _ a' w' [24] := hf
            have s5 := hag.same 5 (by decide)
            clear hag
            go_wp2_with fail
            exact hK _ _ hI (Kept.refl _ _) rfl
          refine ssteps_cons (fun a' w' hI hag hf K hK => ?_) ?_
          · obtain ⟨⟨_, h25, rfl⟩, ⟨_, h24, rfl⟩, -⟩ : SFacts _ _ a' w' [25, 24] := hf
            clear hag
            go_wp2_with fail
            refine (dputs_any _ g2 v2 _ (HBC.out.keptF hI).d).mono ?_
            rintro e _ ⟨rfl, rfl⟩
            go_wp2_with fail
            exact hK _ _ hI (Kept.refl _ _) rfl
          refine ssteps_cons (fun a' w' hI hag hf K hK => ?_) ?_
          · obtain ⟨⟨_, h24, rfl⟩, -⟩ : SFacts _ _ a' w' [24] := hf
            have s7 := hag.same 7 (by decide)
            clear hag
            go_wp2_with fail
            exact hK _ _ hI (Kept.refl _ _) rfl
          refine ssteps_cons (fun a' w' hI hag hf K hK => ?_) ?_
          · obtain ⟨⟨_, h27, rfl⟩, ⟨_, h24, rfl⟩, -⟩ : SFacts _ _ a' w' [27, 24] := hf
            clear hag
            go_wp2_with fail
            exact hK _ _ hI (Kept.refl _ _) rfl
          refine ssteps_cons (fun a' w' hI hag hf K hK => ?_) ?_
          · obtain ⟨⟨_, h28, rfl⟩, ⟨_, h24, rfl⟩, -⟩ : SFacts _ _ a' w' [28, 24] := hf
            clear hag
            go_wp2_with fail
            exact hK _ _ hI (Kept.refl _ _) rfl
          refine ssteps_cons (fun a' w' hI hag hf K hK => ?_) ?_
          · obtain ⟨⟨_, h29, rfl⟩, ⟨_, h24, rfl⟩, -⟩ : SFacts _ _ a' w' [29, 24] := hf
            clear hag
            have cx := hI.cell r2 (fun h => h)
            go_wp2_with fail
            exact hK _ _ hI (Kept.refl _ _) rfl
          refine ssteps_cons (fun a' w' hI hag hf K hK => ?_) ?_
          · obtain ⟨⟨_, h26, rfl⟩, ⟨_, h30, rfl⟩, ⟨_, h24, rfl⟩, -⟩ : SFacts _ _ a' w' [26, 30, 24] := hf
            clear hag
            go_wp2_with fail
            exact hK _ _ hI (Kept.refl _ _) rfl
          refine ssteps_cons (fun a' w' hI hag hf K hK => ?_) ?_
          · obtain ⟨⟨_, h24, rfl⟩, ⟨_, h31, rfl⟩, -⟩ : SFacts _ _ a' w' [24, 31] := hf
            clear hag
            go_wp2_with fail
            exact hK _ _ hI (Kept.refl _ _) rfl
          refine ssteps_cons (fun a' w' hI hag hf K hK => ?_) ?_
          · obtain ⟨⟨_, h32, rfl⟩, -⟩ : SFacts _ _ a' w' [32, 26] := hf
            clear hag
            go_wp2_with fail
            exact hK _ _ hI (Kept.refl _ _) rfl
          refine ssteps_cons (fun a' w' hI hag hf K hK => ?_) ?_
          · obtain ⟨⟨_, h33, rfl⟩, -⟩ : SFacts _ _ a' w' [33] := hf
            have s5 := hag.same 5 (by decide)
            clear hag
            go_wp2_with fail
            exact hK _ _ hI (Kept.refl _ _) rfl
          refine ssteps_cons (fun a' w' hI hag hf K hK => ?_) ?_
          · obtain ⟨⟨_, h34, rfl⟩, ⟨_, h33, rfl⟩, -⟩ : SFacts _ _ a' w' [34, 33] := hf
            clear hag
            go_wp2_with fail
            refine (dstopped_any _ g2 v2 _ (HBC.out.keptF hI).d).mono ?_
            rintro e _ ⟨rfl, rfl⟩
            go_wp2_with fail
            exact hK _ _ hI (Kept.refl _ _) rfl
          refine ssteps_cons (fun a' w' hI hag hf K hK => ?_) ?_
          · obtain ⟨⟨_, h33, rfl⟩, -⟩ : SFacts _ _ a' w' [33] := hf
            have s7 := hag.same 7 (by decide)
            clear hag
            go_wp2_with fail
            exact hK _ _ hI (Kept.refl _ _) rfl
          refine ssteps_cons (fun a' w' hI hag hf K hK => ?_) ?_
          · obtain ⟨⟨_, h36, rfl⟩, ⟨_, h33, rfl⟩, -⟩ : SFacts _ _ a' w' [36, 33] := hf
            clear hag
            go_wp2_with fail
            exact hK _ _ hI (Kept.refl _ _) rfl
          refine ssteps_cons (fun a' w' hI hag hf K hK => ?_) ?_
          · obtain ⟨⟨_, h37, rfl⟩, ⟨_, h33, rfl⟩, -⟩ : SFacts _ _ a' w' [37, 33] := hf
            clear hag
            go_wp2_with fail
            exact hK _ _ hI (Kept.refl _ _) rfl
          refine ssteps_cons (fun a' w' hI hag hf K hK => ?_) ?_
          · obtain ⟨⟨_, h38, rfl⟩, ⟨_, h33, rfl⟩, -⟩ : SFacts _ _ a' w' [38, 33] := hf
            clear hag
            have cx := hI.cell r3 (fun h => h)
            go_wp2_with fail
            exact hK _ _ hI (Kept.refl _ _) rfl
          refine ssteps_cons (fun a' w' hI hag hf K hK => ?_) ?_
          · obtain ⟨⟨_, h35, rfl⟩, ⟨_, h39, rfl⟩, ⟨_, h33, rfl⟩, -⟩ : SFacts _ _ a' w' [35, 39, 33] := hf
            clear hag
            go_wp2_with fail
            exact hK _ _ hI (Kept.refl _ _) rfl
          refine ssteps_cons (fun a' w' hI hag hf K hK => ?_) ?_
          · obtain ⟨⟨_, h33, rfl⟩, ⟨_, h40, rfl⟩, -⟩ : SFacts _ _ a' w' [33, 40] := hf
            clear hag
            go_wp2_with fail
            exact hK _ _ hI (Kept.refl _ _) rfl
          exact trivial
        · intro vs w7 hI hvs
          have q0 : vs 0 = (.int .i64 (er : Int)) := hvs 0 _ _ rfl rfl
          have q1 : vs 1 = (.int .i64 (er : Int)) := hvs 1 _ _ rfl rfl
          have q2 : vs 2 = (.bool false) := hvs 2 _ _ rfl rfl
          have q3 : vs 3 = (.bool false) := hvs 3 _ _ rfl rfl
          have q4 : vs 4 = (.pointer (some ⟨g2, 0, none⟩)) := hvs 4 _ _ rfl rfl
          have q5 := hvs 5 _ _ rfl rfl
          have q6 : vs 6 = (.string ⟨b.toArray⟩) := hvs 6 _ _ rfl rfl
          have q7 : vs 7 = (.pointer (some ⟨gr, 0, none⟩)) := hvs 7 _ _ rfl rfl
          have q8 : vs 8 = (.pointer (some ⟨gr, 0, none⟩)) := hvs 8 _ _ rfl rfl
          have q9 : vs 9 = (.pointer (some ⟨gr, 1, none⟩)) := hvs 9 _ _ rfl rfl
          have q10 : vs 10 = (.slice ar nb9 cr) := hvs 10 _ _ rfl rfl
          have q11 : vs 11 = (.string ⟨b.toArray⟩) := hvs 11 _ _ rfl rfl
          have q12 : vs 12 = (.bool false) := hvs 12 _ _ rfl rfl
          have q13 : vs 13 = (.bool false) := hvs 13 _ _ rfl rfl
          have q14 : vs 14 = (.bool false) := hvs 14 _ _ rfl rfl
          have q15 : vs 15 = (.pointer (some ⟨g2, 0, none⟩)) := hvs 15 _ _ rfl rfl
          have q16 : vs 16 = (.int .i64 (nb9 : Int)) := hvs 16 _ _ rfl rfl
          have q17 : vs 17 = (.pointer (some ⟨gr, 0, none⟩)) := hvs 17 _ _ rfl rfl
          have q18 : vs 18 = (.pointer (some ⟨gr, 0, none⟩)) := hvs 18 _ _ rfl rfl
          have q19 : vs 19 = (.pointer (some ⟨gr, 1, none⟩)) := hvs 19 _ _ rfl rfl
          have q20 : vs 20 = (.slice ar nb9 cr) := hvs 20 _ _ rfl rfl
          have q21 : vs 21 = (.int .i64 (nb9 : Int)) := hvs 21 _ _ rfl rfl
          have q22 : vs 22 = (.bool false) := hvs 22 _ _ rfl rfl
          have q23 : vs 23 = (.bool false) := hvs 23 _ _ rfl rfl
          have q24 : vs 24 = (.bool false) := hvs 24 _ _ rfl rfl
          have q25 : vs 25 = (.pointer (some ⟨g2, 0, none⟩)) := hvs 25 _ _ rfl rfl
          have q26 : vs 26 = (.int .i64 (pt : Int)) := hvs 26 _ _ rfl rfl
          have q27 : vs 27 = (.pointer (some ⟨gr, 0, none⟩)) := hvs 27 _ _ rfl rfl
          have q28 : vs 28 = (.pointer (some ⟨gr, 0, none⟩)) := hvs 28 _ _ rfl rfl
          have q29 : vs 29 = (.pointer (some ⟨gr, 2, none⟩)) := hvs 29 _ _ rfl rfl
          have q30 : vs 30 = (.int .i64 (pt : Int)) := hvs 30 _ _ rfl rfl
          have q31 : vs 31 = (.bool false) := hvs 31 _ _ rfl rfl
          have q32 : vs 32 = (.bool false) := hvs 32 _ _ rfl rfl
          have q33 : vs 33 = (.bool false) := hvs 33 _ _ rfl rfl
          have q34 : vs 34 = (.pointer (some ⟨g2, 0, none⟩)) := hvs 34 _ _ rfl rfl
          have q35 : vs 35 = (.bool st) := hvs 35 _ _ rfl rfl
          have q36 : vs 36 = (.pointer (some ⟨gr, 0, none⟩)) := hvs 36 _ _ rfl rfl
          have q37 : vs 37 = (.pointer (some ⟨gr, 0, none⟩)) := hvs 37 _ _ rfl rfl
          have q38 : vs 38 = (.pointer (some ⟨gr, 3, none⟩)) := hvs 38 _ _ rfl rfl
          have q39 : vs 39 = (.bool st) := hvs 39 _ _ rfl rfl
          have q40 : vs 40 = (.bool false) := hvs 40 _ _ rfl rfl
          have q41 : vs 41 = (.bool false) := hvs 41 _ _ rfl rfl
          clear hvs
          simp only [List.take_succ_cons, List.take_zero, List.drop_succ_cons, List.drop_zero, putAll, Act.put, List.setIfInBounds_toArray, List.set_cons_zero, List.set_cons_succ, Nat.reduceAdd, q0, q1, q2, q3, q4, q6, q7, q8, q9, q10, q11, q12, q13, q14, q15, q16, q17, q18, q19, q20, q21, q22, q23, q24, q25, q26, q27, q28, q29, q30, q31, q32, q33, q34, q35, q36, q37, q38, q39, q40, q41]
          clear q0 q1 q2 q3 q4 q6 q7 q8 q9 q10 q11 q12 q13 q14 q15 q16 q17 q18 q19 q20 q21 q22 q23 q24 q25 q26 q27 q28 q29 q30 q31 q32 q33 q34 q35 q36 q37 q38 q39 q40 q41
          generalize vs 5 = x5 at *
          have HI := Lw.hid hI
          clear hI
          go_wp2_with fail
          rw [← HNF.out]
          go_roundg (gk - 1)
          case measure => omega
          case rel => exact ⟨k + 1, g2, v2, _, _, _, by have := HGK.out; have := HNF.out; omega, by go_num, rfl, HGD.out, HBC.out.keptF HI.out⟩
    · have hkn : gk + k = F.length := hgk
      have HBT := Lw.hid hbt
      obtain ⟨nF, hnF⟩ : ∃ nF, F.length = nF := ⟨_, rfl⟩
      rw [hnF] at hlt hF hgk hkn ⊢
      have hk1 : k ≤ nF := by omega
      have hk2 : nF ≤ k := by omega
      clear hnF hgk hkn hgd hbt
      go_wp2_with fail
      refine (dtells_any _).mono ?_
      rintro e w9 ⟨rfl, k9⟩
      have K9 := Lw.hid (HBT.out.k.trans k9 (fun _ _ h => h.elim))
      clear k9
      go_wp2_with fail
      go_ret
      exact ⟨rfl, (K3.out.below (Nat.le_refl _) (fun _ _ h => h)).trans (below_T K9.out K3.out.size (fun q h => ((HT.out q).1 h).1))⟩
end Go.Proofs.Ytoiinmiedmjghaa
