/- ArithKnown, walked. -/
import Derived.Test.YtoedopgjonhemaaDoorAKnownP
namespace Go.Proofs.YtoedopgjonhemaaDoor
open Go Go.RowKit Go.Lw
set_option maxRecDepth 100000
set_option linter.unusedVariables false
set_option linter.unusedSimpArgs false
attribute [local go_sem] BA_toList
set_option maxHeartbeats 16000000 in
theorem aknown_any (B : Nat) (dv : Value) (w : World) (hD : DEnv B dv w) : Calls Tryd.prog 5 #[] w fun e w' => e = .returned (.bool true) ∧ Kept (fun _ => False) w w' := by
  have HD : Hid (∀ wx, Kept (fun _ => False) w wx → DEnv B dv wx) := Lw.hid (fun wx k => hD.kept k (fun _ h => h.elim))
  clear hD
  have hmm := @run_makeMap Tryd.prog
  have HM := Lw.hid (SMap.made w w Tryd.prog 9 (Kept.refl _ w))
  have HM2 := Lw.hid (SMap.made w w Tryd.prog 9 (Kept.refl _ w))
  go_enter Tryd.func5, Tryd.ntmps5
  go_wp2_with (first | (refine wpList_insert_lit rfl _ _ _ 37 (.inl rfl) 9 36 Tryd.underlying9 Tryd.underlying37 _ _ _ rfl HM.out (by unfold maxLen; omega) _ rfl (by unfold maxLen; simp) _ rfl ?_; clear HM HM2; intro w9 hm9 hgx; have HM := Lw.hid hm9; have HM2 := Lw.hid (SMap.made w9 w9 Tryd.prog 9 (Kept.refl _ w9)); clear hm9 hgx) | (refine wpList_insert_const rfl _ 39 _ _ rfl 9 2 Tryd.underlying9 Tryd.underlying39 _ _ _ rfl HM2.out (by unfold maxLen; omega) (by unfold maxLen; simp) rfl ?_; clear HM2; intro wa hmx; have HM2 := Lw.hid hmx; clear hmx) | (at_range; refine wpList_range_lit rfl _ _ rfl 9 2 Tryd.underlying9 Tryd.underlying39 _ _ _ rfl HM2.out ?_; clear HM2; intro w1 cnt1 hr1 hk1))
  have hmv : SMap w w9 Tryd.prog 9 w.heap.size 9 (vOfT varsK) := HM.out
  have HLK := Lw.hid (look_map hmv envK (envOf_at varsK))
  have KW9 := Lw.hid hmv.kept
  obtain ⟨bv, hbv⟩ : ∃ b, w.heap.size = b := ⟨_, rfl⟩
  obtain ⟨r1, hr1e⟩ : ∃ r1, wa.heap.size = r1 := ⟨_, rfl⟩
  obtain ⟨b2, hb2⟩ : ∃ b, w9.heap.size = b := ⟨_, rfl⟩
  have hr1' : SRange w9 w1 Tryd.prog 9 w9.heap.size wa.heap.size 29 (vOfI intsK) cnt1 := hr1
  rw [hr1e, hb2] at hr1'
  rw [hbv] at HLK
  rw [hr1e, hbv]
  have HR1 := Lw.hid hr1'
  have HBV := Lw.hid hbv
  clear hr1 hk1 hr1e hr1' hmv HM hb2 hbv
  go_frame
  go_loopg [] cnt1 (fun gk wx => SRange w9 wx Tryd.prog 9 b2 r1 29 (vOfI intsK) gk)
  case atStart => exact HR1.out
  case round =>
    have HR := Lw.hid hrel
    clear hrel HR1
    have KX := Lw.hid HR.out.kept
    have HM3 := Lw.hid (SMap.made wr wr Tryd.prog 9 (Kept.refl _ wr))
    go_wp2_with (first | (at_next; refine wpList_next_lit rfl _ rfl 9 Tryd.underlying9 _ _ _ _ _ rfl HR.out ?_ ?_) | (refine wpList_insert_const rfl _ 43 _ _ rfl 9 29 Tryd.underlying9 Tryd.underlying43 _ _ _ rfl HM3.out (by unfold maxLen; omega) (by unfold maxLen; simp) rfl ?_; clear HM3; intro wb hmx; have HM3 := Lw.hid hmx; clear hmx) | (at_range; refine wpList_range_lit rfl _ _ rfl 9 29 Tryd.underlying9 Tryd.underlying43 _ _ _ rfl HM3.out ?_; clear HM3; intro w5 cnt5 hr5 hk5))
    case refine_2 =>
      intro ks v w2 cnt2 hmem hr2 hlt2 hkk2 hen
      have HR2 := Lw.hid hr2
      obtain ⟨c, hc, rfl⟩ := vOfI_mem hmem.out
      obtain ⟨hl1, h1, h2⟩ := ik_open hc
      have HLW := Lw.hid (lawE_any B w2 ks (some bv) dv envK (HD.out w2 (KW9.out.trans hr2.kept (fun _ _ h => h))) (by omega) envK_len (HLK.out.kept hr2.kept (fun _ _ h => h)))
      obtain ⟨⟨av, ae, al⟩, hA⟩ : ∃ A, evalF envK ks = A := ⟨_, rfl⟩
      rw [hA] at HLW h1 h2
      simp only at h1 h2
      subst h1; subst h2
      clear hr2 hkk2 hmem hc hl1 HR hA KX HM3
      go_wp2_with fail
      refine HLW.out.mono ?_
      rintro e w3 ⟨⟨sl, rfl, -⟩, k3⟩
      have HR3 := Lw.hid (HR2.out.keep k3)
      clear k3
      go_wp2_with fail
      go_roundg cnt2
      case measure => exact hlt2
      case rel => exact HR3.out
    clear HR
    obtain ⟨r2, hr2e⟩ : ∃ r, wb.heap.size = r := ⟨_, rfl⟩
    obtain ⟨b3, hb3⟩ : ∃ b, wr.heap.size = b := ⟨_, rfl⟩
    have hr5' : SRange wr w5 Tryd.prog 9 wr.heap.size wb.heap.size 29 (vOfI errsK) cnt5 := hr5
    rw [hr2e, hb3] at hr5'
    rw [hr2e]
    have HR5 := Lw.hid hr5'
    clear hr5 hk5 hr2e hr5' hb3
    obtain ⟨wo, hwo⟩ : ∃ wo : World, wo = wr := ⟨_, rfl⟩
    rw [← hwo] at HR5 KX
    clear hwo
    go_frame
    go_loopg [] cnt5 (fun gk wx => SRange wo wx Tryd.prog 9 b3 r2 29 (vOfI errsK) gk)
    case atStart => exact HR5.out
    case round =>
      have HR := Lw.hid hrel
      clear hrel HR5
      have K0 : Hid (Kept (fun _ => False) w wr) := Lw.hid ((KW9.out.trans KX.out (fun _ _ h => h)).trans HR.out.kept (fun _ _ h => h))
      go_wp2_with (at_next; refine wpList_next_lit rfl _ rfl 9 Tryd.underlying9 _ _ _ _ _ rfl HR.out ?_ ?_)
      case refine_2 =>
        intro ks v w2 cnt2 hmem hr2 hlt2 hkk2 hen
        have HR2 := Lw.hid hr2
        obtain ⟨c, hc, rfl⟩ := vOfI_mem hmem.out
        obtain ⟨hl1, h1, h2⟩ := ek_open hc
        have HLW := Lw.hid (lawE_any B w2 ks (some bv) dv envK (HD.out w2 ((KW9.out.trans KX.out (fun _ _ h => h)).trans hr2.kept (fun _ _ h => h))) (by omega) envK_len ((HLK.out.kept KX.out (fun _ _ h => h)).kept hr2.kept (fun _ _ h => h)))
        obtain ⟨⟨av, ae, al⟩, hA⟩ : ∃ A, evalF envK ks = A := ⟨_, rfl⟩
        rw [hA] at HLW h1 h2
        simp only at h1 h2
        subst h1; subst h2
        clear hr2 hkk2 hmem hc hl1 HR hA K0
        go_wp2_with fail
        refine HLW.out.mono ?_
        rintro e w3 ⟨⟨sl, rfl, -⟩, k3⟩
        have HR3 := Lw.hid (HR2.out.keep k3)
        clear k3
        go_wp2_with fail
        go_roundg cnt2
        case measure => exact hlt2
        case rel => exact HR3.out
      clear HR
      go_wp2_with fail
      refine (rep_any _ _ [40] rfl 16 (by decide) (by decide)).mono ?_
      rintro e w6 ⟨rfl, k6⟩
      have K1 := Lw.hid (K0.out.trans k6 (fun _ _ h => h))
      clear k6
      obtain ⟨qa, hqa⟩ : ∃ q, Lib.repeatL [40] 16 = q := ⟨_, rfl⟩
      have Hqa := Lw.hid hqa
      have zqa : (BA qa).size ≤ 100 := by rw [BA_size, ← hqa]; decide
      rw [hqa]
      clear hqa
      go_wp2_with fail
      refine (rep_any _ _ [41] rfl 16 (by decide) (by decide)).mono ?_
      rintro e w6 ⟨rfl, k6⟩
      have K2 := Lw.hid (K1.out.trans k6 (fun _ _ h => h))
      clear k6
      obtain ⟨qb, hqb⟩ : ∃ q, Lib.repeatL [41] 16 = q := ⟨_, rfl⟩
      have Hqb := Lw.hid hqb
      have zqb : (BA qb).size ≤ 100 := by rw [BA_size, ← hqb]; decide
      rw [hqb]
      clear hqb
      go_wp2_with fail
      have HDP : Hid (qa ++ [49] ++ qb = dpL) := Lw.hid (by rw [← Hqa.out, ← Hqb.out]; rfl)
      refine (lawS_any B _ _ (qa ++ [49] ++ qb) (by rw [← BA_append, ← BA_append]; rfl) none dv envN (HD.out _ K2.out) (by rw [HDP.out]; decide) (fun _ => Nat.zero_le _) (look_nil _)).mono ?_
      rintro e w6 ⟨⟨sl, rfl, -⟩, k6⟩
      have K3 := Lw.hid (K2.out.trans k6 (fun _ _ h => h))
      clear k6
      rw [show (evalF envN (qa ++ [49] ++ qb)).e = 0 from by rw [HDP.out]; exact dp1]
      generalize (evalF envN (qa ++ [49] ++ qb)).v = av3
      go_wp2_with fail
      refine (lawS_any B _ _ ([40] ++ (qa ++ [49] ++ qb) ++ [41]) (by rw [← BA_append, ← BA_append, ← BA_append, ← BA_append]; rfl) none dv envN (HD.out _ K3.out) (by rw [HDP.out]; decide) (fun _ => Nat.zero_le _) (look_nil _)).mono ?_
      rintro e w6 ⟨⟨sl, rfl, -⟩, k6⟩
      have K4 := Lw.hid (K3.out.trans k6 (fun _ _ h => h))
      clear k6
      rw [show (evalF envN ([40] ++ (qa ++ [49] ++ qb) ++ [41])).e = 12 from by rw [HDP.out]; exact dp2]
      generalize (evalF envN ([40] ++ (qa ++ [49] ++ qb) ++ [41])).v = av4
      go_wp2_with fail
      refine (lawS_any B _ _ ([40] ++ (qa ++ [49] ++ qb)) (by rw [← BA_append, ← BA_append, ← BA_append]; rfl) none dv envN (HD.out _ K4.out) (by rw [HDP.out]; decide) (fun _ => Nat.zero_le _) (look_nil _)).mono ?_
      rintro e w6 ⟨⟨sl, rfl, -⟩, k6⟩
      have K5 := Lw.hid (K4.out.trans k6 (fun _ _ h => h))
      clear k6
      rw [show (evalF envN ([40] ++ (qa ++ [49] ++ qb))).e = 12 from by rw [HDP.out]; exact dp3]
      generalize (evalF envN ([40] ++ (qa ++ [49] ++ qb))).v = av5
      go_wp2_with fail
      refine (rep_any _ _ [45] rfl 16 (by decide) (by decide)).mono ?_
      rintro e w6 ⟨rfl, k6⟩
      have K6 := Lw.hid (K5.out.trans k6 (fun _ _ h => h))
      clear k6
      obtain ⟨qc, hqc⟩ : ∃ q, Lib.repeatL [45] 16 = q := ⟨_, rfl⟩
      have Hqc := Lw.hid hqc
      have zqc : (BA qc).size ≤ 100 := by rw [BA_size, ← hqc]; decide
      rw [hqc]
      clear hqc
      go_wp2_with fail
      refine (lawS_any B _ _ (qc ++ [49]) (by rw [← BA_append]; rfl) none dv envN (HD.out _ K6.out) (by rw [← Hqc.out]; decide) (fun _ => Nat.zero_le _) (look_nil _)).mono ?_
      rintro e w6 ⟨⟨sl, rfl, -⟩, k6⟩
      have K7 := Lw.hid (K6.out.trans k6 (fun _ _ h => h))
      clear k6
      rw [show (evalF envN (qc ++ [49])).e = 0 from by rw [← Hqc.out]; exact dp4]
      generalize (evalF envN (qc ++ [49])).v = av7
      go_wp2_with fail
      refine (rep_any _ _ [45] rfl 17 (by decide) (by decide)).mono ?_
      rintro e w6 ⟨rfl, k6⟩
      have K8 := Lw.hid (K7.out.trans k6 (fun _ _ h => h))
      clear k6
      obtain ⟨qd, hqd⟩ : ∃ q, Lib.repeatL [45] 17 = q := ⟨_, rfl⟩
      have Hqd := Lw.hid hqd
      have zqd : (BA qd).size ≤ 100 := by rw [BA_size, ← hqd]; decide
      rw [hqd]
      clear hqd
      go_wp2_with fail
      refine (lawS_any B _ _ (qd ++ [49]) (by rw [← BA_append]; rfl) none dv envN (HD.out _ K8.out) (by rw [← Hqd.out]; decide) (fun _ => Nat.zero_le _) (look_nil _)).mono ?_
      rintro e w6 ⟨⟨sl, rfl, -⟩, k6⟩
      have K9 := Lw.hid (K8.out.trans k6 (fun _ _ h => h))
      clear k6
      rw [show (evalF envN (qd ++ [49])).e = 12 from by rw [← Hqd.out]; exact dp5]
      generalize (evalF envN (qd ++ [49])).v = av9
      go_wp2_with fail
      refine (rep_any _ _ [48, 63, 49, 58] rfl 16 (by decide) (by decide)).mono ?_
      rintro e w6 ⟨rfl, k6⟩
      have K10 := Lw.hid (K9.out.trans k6 (fun _ _ h => h))
      clear k6
      obtain ⟨qe, hqe⟩ : ∃ q, Lib.repeatL [48, 63, 49, 58] 16 = q := ⟨_, rfl⟩
      have Hqe := Lw.hid hqe
      have zqe : (BA qe).size ≤ 100 := by rw [BA_size, ← hqe]; decide
      rw [hqe]
      clear hqe
      go_wp2_with fail
      refine (lawS_any B _ _ (qe ++ [49]) (by rw [← BA_append]; rfl) none dv envN (HD.out _ K10.out) (by rw [← Hqe.out]; decide) (fun _ => Nat.zero_le _) (look_nil _)).mono ?_
      rintro e w6 ⟨⟨sl, rfl, -⟩, k6⟩
      have K11 := Lw.hid (K10.out.trans k6 (fun _ _ h => h))
      clear k6
      rw [show (evalF envN (qe ++ [49])).e = 0 from by rw [← Hqe.out]; exact dp6]
      generalize (evalF envN (qe ++ [49])).v = av11
      go_wp2_with fail
      refine (rep_any _ _ [48, 63, 49, 58] rfl 17 (by decide) (by decide)).mono ?_
      rintro e w6 ⟨rfl, k6⟩
      have K12 := Lw.hid (K11.out.trans k6 (fun _ _ h => h))
      clear k6
      obtain ⟨qf, hqf⟩ : ∃ q, Lib.repeatL [48, 63, 49, 58] 17 = q := ⟨_, rfl⟩
      have Hqf := Lw.hid hqf
      have zqf : (BA qf).size ≤ 100 := by rw [BA_size, ← hqf]; decide
      rw [hqf]
      clear hqf
      go_wp2_with fail
      refine (lawS_any B _ _ (qf ++ [49]) (by rw [← BA_append]; rfl) none dv envN (HD.out _ K12.out) (by rw [← Hqf.out]; decide) (fun _ => Nat.zero_le _) (look_nil _)).mono ?_
      rintro e w6 ⟨⟨sl, rfl, -⟩, k6⟩
      have K13 := Lw.hid (K12.out.trans k6 (fun _ _ h => h))
      clear k6
      rw [show (evalF envN (qf ++ [49])).e = 12 from by rw [← Hqf.out]; exact dp7]
      generalize (evalF envN (qf ++ [49])).v = av13
      go_wp2_with fail
      refine (rightS_any B _ _ [49, 47, 48] rfl (HD.out _ K13.out).ae (by decide)).mono ?_
      rw [rt1]
      rintro e w6 ⟨rfl, k6⟩
      have K14 := Lw.hid (K13.out.trans k6 (fun _ _ h => h))
      clear k6
      go_wp2_with fail
      refine (rightS_any B _ _ [49, 47] rfl (HD.out _ K14.out).ae (by decide)).mono ?_
      rw [rt2]
      rintro e w6 ⟨rfl, k6⟩
      have K15 := Lw.hid (K14.out.trans k6 (fun _ _ h => h))
      clear k6
      go_wp2_with fail
      refine (wakes_any B _ dv (HD.out _ K15.out)).mono ?_
      rintro e w6 ⟨rfl, k6⟩
      have K16 := Lw.hid (K15.out.trans k6 (fun _ _ h => h))
      clear k6
      go_wp2_with fail
      go_ret
      exact ⟨rfl, K16.out⟩
theorem aknown_below (B : Nat) (dv : Value) (w : World) (hD : DEnv B dv w) : Calls Tryd.prog 5 #[] w fun e w' => e = .returned (.bool true) ∧ Below w.heap.size w w' := (aknown_any B dv w hD).mono fun _ _ ⟨e, k⟩ => ⟨e, Below.of_kept k⟩
end Go.Proofs.YtoedopgjonhemaaDoor
