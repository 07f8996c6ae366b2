/- ArithNumbers, walked. -/
import Derived.Test.YtoedopgjonhemaaDoorANumbersH
namespace Go.Proofs.YtoedopgjonhemaaDoor
open Go Go.RowKit Go.Lw
set_option maxRecDepth 100000
set_option linter.unusedVariables false
set_option linter.unusedSimpArgs false
attribute [local go_sem] BA_toList
set_option maxHeartbeats 16000000 in
theorem numbers_FF (B : Nat) (dv : Value) (w : World) (hE : CEnv B dv w) (a b : Int) (ha : In64 a) (hb : In64 b) (hpa : (a != 0) = false) (hpb : (b != 0) = false) :
    Calls Tryd.prog 4 #[.int .i64 a, .int .i64 b] w fun x w' => x = .returned (.bool true) ∧ Kept (fun _ => False) w w' := by
  have HE : Hid (∀ wx, Kept (fun _ => False) w wx → CEnv B dv wx) := Lw.hid (fun wx k => hE.kept k)
  have HA := Lw.hid ha; have HB := Lw.hid hb
  clear hE ha hb
  have hmm := @run_makeMap Tryd.prog
  have HM := Lw.hid (SMap.made w w Tryd.prog 9 (Kept.refl _ w))
  have HM2 := Lw.hid (SMap.made w w Tryd.prog 9 (Kept.refl _ w))
  go_enter Tryd.func4, Tryd.ntmps4
  simp only [List.append_eq, List.cons_append, List.nil_append]
  go_wp2_with fail
  refine (fmt_any B dv _ (HE.out _ HM.out.kept) a HA.out).mono ?_
  rintro x w1 ⟨rfl, k1⟩
  replace HM := Lw.hid (HM.out.keep k1)
  clear k1
  go_wp2_with (first | (refine wpList_insert_lit rfl _ _ _ 37 (.inl rfl) 9 36 Tryd.underlying9 Tryd.underlying37 _ _ _ rfl HM.out (by unfold maxLen; omega) _ rfl (by unfold maxLen; simp) _ rfl ?_; clear HM HM2; intro w9 hm9 hgx; have HM := Lw.hid hm9; have HM2 := Lw.hid (SMap.made w9 w9 Tryd.prog 9 (Kept.refl _ w9)); clear hm9 hgx))
  refine (fmt_any B dv _ (HE.out _ HM.out.kept) b HB.out).mono ?_
  rintro x w1 ⟨rfl, k1⟩
  replace HM := Lw.hid (HM.out.keep k1)
  clear k1
  go_wp2_with (first | (refine wpList_insert_lit rfl _ _ _ 37 (.inl rfl) 9 36 Tryd.underlying9 Tryd.underlying37 _ _ _ rfl HM.out (by unfold maxLen; omega) _ rfl (by unfold maxLen; simp) _ rfl ?_; clear HM HM2; intro w9 hm9 hgx; have HM := Lw.hid hm9; have HM2 := Lw.hid (SMap.made w9 w9 Tryd.prog 9 (Kept.refl _ w9)); clear hm9 hgx) | (refine wpList_insert_lit rfl _ _ _ 39 (.inl rfl) 9 2 Tryd.underlying9 Tryd.underlying39 _ _ _ rfl HM2.out (by unfold maxLen; omega) _ rfl (by unfold maxLen; simp) _ rfl ?_; clear HM2; intro wa hmx hgx; have HM2 := Lw.hid hmx; clear hmx hgx) | (at_range; refine wpList_range_lit rfl _ _ rfl 9 2 Tryd.underlying9 Tryd.underlying39 _ _ _ rfl HM2.out ?_; clear HM2; intro w1 cnt1 hr1 hk1))
  refine (oneN_any _ _).mono ?_
  rintro x w2 ⟨rfl, hw2⟩
  subst hw2
  go_wp2_with (first | (refine wpList_insert_lit rfl _ _ _ 39 (.inl rfl) 9 2 Tryd.underlying9 Tryd.underlying39 _ _ _ rfl HM2.out (by unfold maxLen; omega) _ rfl (by unfold maxLen; simp) _ rfl ?_; clear HM2; intro wa hmx hgx; have HM2 := Lw.hid hmx; clear hmx hgx) | (at_range; refine wpList_range_lit rfl _ _ rfl 9 2 Tryd.underlying9 Tryd.underlying39 _ _ _ rfl HM2.out ?_; clear HM2; intro w1 cnt1 hr1 hk1))
  refine (oneN_any _ _).mono ?_
  rintro x w2 ⟨rfl, hw2⟩
  subst hw2
  go_wp2_with (first | (refine wpList_insert_lit rfl _ _ _ 39 (.inl rfl) 9 2 Tryd.underlying9 Tryd.underlying39 _ _ _ rfl HM2.out (by unfold maxLen; omega) _ rfl (by unfold maxLen; simp) _ rfl ?_; clear HM2; intro wa hmx hgx; have HM2 := Lw.hid hmx; clear hmx hgx) | (at_range; refine wpList_range_lit rfl _ _ rfl 9 2 Tryd.underlying9 Tryd.underlying39 _ _ _ rfl HM2.out ?_; clear HM2; intro w1 cnt1 hr1 hk1))
  refine (oneN_any _ _).mono ?_
  rintro x w2 ⟨rfl, hw2⟩
  subst hw2
  go_wp2_with (first | (refine wpList_insert_lit rfl _ _ _ 39 (.inl rfl) 9 2 Tryd.underlying9 Tryd.underlying39 _ _ _ rfl HM2.out (by unfold maxLen; omega) _ rfl (by unfold maxLen; simp) _ rfl ?_; clear HM2; intro wa hmx hgx; have HM2 := Lw.hid hmx; clear hmx hgx) | (at_range; refine wpList_range_lit rfl _ _ rfl 9 2 Tryd.underlying9 Tryd.underlying39 _ _ _ rfl HM2.out ?_; clear HM2; intro w1 cnt1 hr1 hk1))
  refine (oneN_any _ _).mono ?_
  rintro x w2 ⟨rfl, hw2⟩
  subst hw2
  go_wp2_with (first | (refine wpList_insert_lit rfl _ _ _ 39 (.inl rfl) 9 2 Tryd.underlying9 Tryd.underlying39 _ _ _ rfl HM2.out (by unfold maxLen; omega) _ rfl (by unfold maxLen; simp) _ rfl ?_; clear HM2; intro wa hmx hgx; have HM2 := Lw.hid hmx; clear hmx hgx) | (at_range; refine wpList_range_lit rfl _ _ rfl 9 2 Tryd.underlying9 Tryd.underlying39 _ _ _ rfl HM2.out ?_; clear HM2; intro w1 cnt1 hr1 hk1))
  refine (oneN_any _ _).mono ?_
  rintro x w2 ⟨rfl, hw2⟩
  subst hw2
  go_wp2_with (first | (refine wpList_insert_lit rfl _ _ _ 39 (.inl rfl) 9 2 Tryd.underlying9 Tryd.underlying39 _ _ _ rfl HM2.out (by unfold maxLen; omega) _ rfl (by unfold maxLen; simp) _ rfl ?_; clear HM2; intro wa hmx hgx; have HM2 := Lw.hid hmx; clear hmx hgx) | (at_range; refine wpList_range_lit rfl _ _ rfl 9 2 Tryd.underlying9 Tryd.underlying39 _ _ _ rfl HM2.out ?_; clear HM2; intro w1 cnt1 hr1 hk1))
  refine (oneN_any _ _).mono ?_
  rintro x w2 ⟨rfl, hw2⟩
  subst hw2
  go_wp2_with (first | (refine wpList_insert_lit rfl _ _ _ 39 (.inl rfl) 9 2 Tryd.underlying9 Tryd.underlying39 _ _ _ rfl HM2.out (by unfold maxLen; omega) _ rfl (by unfold maxLen; simp) _ rfl ?_; clear HM2; intro wa hmx hgx; have HM2 := Lw.hid hmx; clear hmx hgx) | (at_range; refine wpList_range_lit rfl _ _ rfl 9 2 Tryd.underlying9 Tryd.underlying39 _ _ _ rfl HM2.out ?_; clear HM2; intro w1 cnt1 hr1 hk1))
  refine (oneN_any _ _).mono ?_
  rintro x w2 ⟨rfl, hw2⟩
  subst hw2
  go_wp2_with (first | (refine wpList_insert_lit rfl _ _ _ 39 (.inl rfl) 9 2 Tryd.underlying9 Tryd.underlying39 _ _ _ rfl HM2.out (by unfold maxLen; omega) _ rfl (by unfold maxLen; simp) _ rfl ?_; clear HM2; intro wa hmx hgx; have HM2 := Lw.hid hmx; clear hmx hgx) | (at_range; refine wpList_range_lit rfl _ _ rfl 9 2 Tryd.underlying9 Tryd.underlying39 _ _ _ rfl HM2.out ?_; clear HM2; intro w1 cnt1 hr1 hk1))
  refine (oneN_any _ _).mono ?_
  rintro x w2 ⟨rfl, hw2⟩
  subst hw2
  go_wp2_with (first | (refine wpList_insert_lit rfl _ _ _ 39 (.inl rfl) 9 2 Tryd.underlying9 Tryd.underlying39 _ _ _ rfl HM2.out (by unfold maxLen; omega) _ rfl (by unfold maxLen; simp) _ rfl ?_; clear HM2; intro wa hmx hgx; have HM2 := Lw.hid hmx; clear hmx hgx) | (at_range; refine wpList_range_lit rfl _ _ rfl 9 2 Tryd.underlying9 Tryd.underlying39 _ _ _ rfl HM2.out ?_; clear HM2; intro w1 cnt1 hr1 hk1))
  have HSR := Lw.hid (srange_eq hr1 (l' := wlN a b) (by
    rw [wlN_eq]
    refine consV ?_ (consV ?_ (consV ?_ (consV ?_ (consV ?_ (consV ?_ (consV ?_ (consV ?_ (consV ?_ (consV ?_ (consV ?_ (consV ?_ (consV ?_ (consV ?_ rfl)))))))))))))
    · rw [wantF_or hpa hpb]
      all_goals first | rfl | exact (IntWalk.i64_left _).symm
    · rw [wantF_and hpa hpb]
      all_goals first | rfl | exact (IntWalk.i64_left _).symm
    · rw [wantF_5, binF_5]
      all_goals first | rfl | exact (IntWalk.i64_left _).symm
    · rw [wantF_4, binF_4]
      all_goals first | rfl | exact (IntWalk.i64_left _).symm
    · rw [wantF_9, binF_9]
      all_goals first | rfl | exact (IntWalk.i64_left _).symm
    · rw [wantF_8, binF_8]
      all_goals first | rfl | exact (IntWalk.i64_left _).symm
    · rw [wantF_7, binF_7]
      all_goals first | rfl | exact (IntWalk.i64_left _).symm
    · rw [wantF_6, binF_6]
      all_goals first | rfl | exact (IntWalk.i64_left _).symm
    · rw [wantF_2, binF_2]
      all_goals first | rfl | exact (IntWalk.i64_left _).symm
    · rw [wantF_1, binF_1]
      all_goals first | rfl | exact (IntWalk.i64_left _).symm
    · rw [wantF_3, binF_3]
      all_goals first | rfl | exact (IntWalk.i64_left _).symm
    · rw [wantF_14, binF_14]
      all_goals first | rfl | exact (IntWalk.i64_left _).symm
    · rw [wantF_13, binF_13]
      all_goals first | rfl | exact (IntWalk.i64_left _).symm
    · rw [wantF_12, binF_12]
      all_goals first | rfl | exact (IntWalk.i64_left _).symm))
  clear hr1
  have hmv : SMap w w9 Tryd.prog 9 w.heap.size 2 (vOfT (varsN a b)) := HM.out
  have HLK := Lw.hid (look_map hmv (envA a b) (envOf_at (varsN a b)))
  have KW9 := Lw.hid hmv.kept
  clear hmv HM hk1
  obtain ⟨bv, hbv⟩ : ∃ b, w.heap.size = b := ⟨_, rfl⟩
  obtain ⟨r1, hr1e⟩ : ∃ r1, wa.heap.size = r1 := ⟨_, rfl⟩
  obtain ⟨b2, hb2⟩ : ∃ b, w9.heap.size = b := ⟨_, rfl⟩
  rw [hr1e, hb2] at HSR
  rw [hbv] at HLK
  rw [hr1e, hbv]
  clear hr1e hb2 hbv
  go_frame
  go_loopg [] cnt1 (fun gk wx => SRange w9 wx Tryd.prog 9 b2 r1 14 (wlN a b) gk)
  case atStart => exact HSR.out
  case round =>
    have HR := Lw.hid hrel
    clear hrel HSR
    have KX := Lw.hid HR.out.kept
    go_wp2_with (at_next; refine wpList_next_lit rfl _ rfl 9 Tryd.underlying9 _ _ _ _ _ rfl HR.out ?_ ?_)
    case refine_2 =>
      intro ks v w3 cnt2 hmem hr2 hlt2 hkk2 hen
      have HR2 := Lw.hid hr2
      obtain ⟨hks, rfl⟩ := wlN_mem hmem.out
      have hkl := sgs_len hks
      have K3 := Lw.hid (KW9.out.trans hr2.kept (fun _ _ h => h))
      have HL1 := Lw.hid (fun bs (hb : bs = BA ([120] ++ ks ++ [32, 121])) => lawS_any B w3 bs _ hb (some bv) dv (envA a b) (HE.out w3 K3.out).d (by simp only [List.length_append, List.length_cons, List.length_nil]; omega) (envA_len a b HA.out HB.out) (HLK.out.kept hr2.kept (fun _ _ h => h)))
      obtain ⟨h1, h2⟩ := xy_law hks a b HA.out HB.out
      have HKS := Lw.hid hks
      obtain ⟨⟨av, ae, al⟩, hA1⟩ : ∃ A, evalF (envA a b) ([120] ++ ks ++ [32, 121]) = A := ⟨_, rfl⟩
      rw [hA1] at HL1 h1 h2
      simp only at h1 h2
      subst h1; subst h2
      have zk : (BA ks).size ≤ 2 := by rw [BA_size]; exact hkl
      clear hr2 hkk2 hmem HR hA1 KX hks
      go_wp2_with fail
      refine (HL1.out _ (by rw [← BA_append, ← BA_append]; rfl)).mono ?_
      rintro e w4 ⟨⟨sl, rfl, -⟩, k4⟩
      have HR4 := Lw.hid (HR2.out.keep k4); have K4 := Lw.hid (K3.out.trans k4 (fun _ _ h => h))
      clear k4 HL1
      go_wp2_with fail
      refine (text_any B dv w4 (HE.out w4 K4.out) a HA.out).mono ?_
      rintro e w5 ⟨rfl, k5⟩
      have HR5 := Lw.hid (HR4.out.keep k5); have K5 := Lw.hid (K4.out.trans k5 (fun _ _ h => h))
      have za : (BA (txS a)).size ≤ 30 := by rw [BA_size]; exact txS_len a HA.out
      clear k5
      go_wp2_with fail
      refine (text_any B dv w5 (HE.out w5 K5.out) b HB.out).mono ?_
      rintro e w6 ⟨rfl, k6⟩
      have HR6 := Lw.hid (HR5.out.keep k6); have K6 := Lw.hid (K5.out.trans k6 (fun _ _ h => h))
      have zb : (BA (txS b)).size ≤ 30 := by rw [BA_size]; exact txS_len b HB.out
      clear k6
      obtain ⟨h1, h2⟩ := tt_law HKS.out envN a b HA.out HB.out
      have HL2 := Lw.hid (fun bs (hb : bs = BA (txS a ++ ks ++ txS b)) => lawS_any B w6 bs _ hb none dv envN (HE.out w6 K6.out).d (by rw [BA_size] at za zb zk; simp only [List.length_append]; omega) (fun _ => Nat.zero_le _) (look_nil w6))
      obtain ⟨⟨av2, ae2, al2⟩, hA2⟩ : ∃ A, evalF envN (txS a ++ ks ++ txS b) = A := ⟨_, rfl⟩
      rw [hA2] at HL2 h1 h2
      simp only at h1 h2
      subst h2
      have h1' : av2 = wantF ks a b := h1
      subst h1'
      clear hA2
      go_wp2_with fail
      refine (HL2.out _ (by rw [← BA_append, ← BA_append])).mono ?_
      rintro e w7 ⟨⟨sl2, rfl, -⟩, k7⟩
      have HR7 := Lw.hid (HR6.out.keep k7)
      clear k7
      go_wp2_with fail
      go_roundg cnt2
      case measure => exact hlt2
      case rel => exact HR7.out
    clear HR
    have HV2 : Hid (wrap64 (-a) = aheadF [45] a) := Lw.hid (by unfold aheadF; rw [if_pos rfl, Int.zero_sub]; exact (IntWalk.i64_left _).symm)
    have HV12 : Hid (bits BinOp.xor .i64 (-1) a = aheadF [126] a) := Lw.hid (by unfold aheadF; rw [if_neg (by decide), if_neg (by decide), if_pos rfl]; rfl)
    have HV16 : Hid (bits BinOp.and .i64 b 63 = b % 64) := Lw.hid (and63 b)
    have hb64 : 0 ≤ b % 64 ∧ b % 64 ≤ 63 := by omega
    have HCH : Hid ((if false = true then some (Value.int .i64 b) else some (.int .i64 3)) = some (.int .i64 (chN a b))) := Lw.hid (by first | exact chN_t hpa b | exact chN_f hpa b)
    have HV17 : Hid (wrap64 (a * 2 ^ (b % 64).toNat) = (binF [60, 60] a (b % 64)).1) := Lw.hid (by rw [binF_10, if_neg (by omega)]; exact (IntWalk.i64_left _).symm)
    have HV22 : Hid (a / 2 ^ (b % 64).toNat = (binF [62, 62] a (b % 64)).1) := Lw.hid (by rw [binF_11, if_neg (by omega)]; exact (Int.fdiv_eq_ediv_of_nonneg _ (Int.le_of_lt (Int.pow_pos (by decide)))).symm)
    refine wp_region_set 33 (NI wr Tryd.prog 9 4 a b) (nR) [gM1, gV (.int .i64 a), gV (.int .i64 (aheadF [45] a)), gV undef, gV (.int .i64 a), gV undef, gV (.func (.func 10) #[] #[]), gV (.int .i64 a), gV (.bool (a == 0)), gV (.int .i64 (aheadF [33] a)), gV undef, gV (.int .i64 a), gV (.int .i64 (aheadF [126] a)), gV undef, gV (.int .i64 a), gV (.int .i64 b), gV (.int .i64 (b % 64)), gV (.int .i64 (binF [60, 60] a (b % 64)).1), gV undef, gV (.int .i64 a), gV (.int .i64 b), gV (.int .i64 (b % 64)), gV (.int .i64 (binF [62, 62] a (b % 64)).1), gV undef, gM2, gV (.int .i64 b), gV undef, gV undef, gM2, gV (.int .i64 a), gV (.bool false), gV (.int .i64 (chN a b)), gV undef] ((none, none)) (by kernel_rfl) (by kernel_rfl) (NI.start (Kept.refl _ wr).drew) ?_ ?_
    · -- each operation by itself
      refine gsteps_cons (fun D γ a' w' hI hD0 hdep hcl hag hlt hf K hK => ?_) ?_
      · clear hlt
        clear hag
        go_wp2_with fail
        exact hK _ (some _, γ.2) _ (hI.make1 hD0) ⟨fun b h => (by rw [(hI.n1 hD0).1] at h; cases h), fun _ h => h⟩ ⟨_, rfl, rfl⟩
      refine gsteps_cons (fun D γ a' w' hI hD0 hdep hcl hag hlt hf K hK => ?_) ?_
      · have s0 := hag.same 0 (by decide)
        clear hlt
        clear hag
        go_wp2_with fail
        exact hK _ _ _ (hI.pure (by decide)) (nR_refl _ _ _) rfl
      refine gsteps_cons (fun D γ a' w' hI hD0 hdep hcl hag hlt hf K hK => ?_) ?_
      · obtain ⟨⟨_, h1, rfl⟩, -⟩ : SFacts _ _ a' w' [1] := hf
        clear hlt
        clear hag
        go_wp2_with fail
        exact hK _ _ _ (hI.pure (by decide)) (nR_refl _ _ _) (congrArg (Value.int .i64) HV2.out)
      refine gsteps_cons (fun D γ a' w' hI hD0 hdep hcl hag hlt hf K hK => ?_) ?_
      · obtain ⟨⟨v0, h0, e0⟩, ⟨_, h2, rfl⟩, -⟩ : SFacts _ _ a' w' [0, 2] := hf
        clear hlt
        clear hag
        obtain ⟨b1, rfl, hb1⟩ := e0
        have h00 := hdep 0 (by decide)
        obtain ⟨b1x, hb1x, hm⟩ := hI.m1 h00
        rw [hb1] at hb1x
        cases hb1x
        have hlen : (selD D (insN a b)).length ≤ 7 := by unfold selD; rw [List.length_map]; exact List.length_filter_le _ _
        refine wpList_insert_lit rfl _ _ _ 39 (.inl rfl) 9 2 Tryd.underlying9 Tryd.underlying39 _ _ _ (by simp [Act.eval, h0]) hm (by unfold maxLen; omega) [45, 120] rfl (by unfold maxLen; simp) _ (by simp [Act.eval, h2]; rfl) ?_
        intro w9 hm9 hg9
        go_wp2_with fail
        exact hK undef _ _ (hI.ins1 (j := 3) (by simp [insN]) h00 hD0 hb1 hm9 hg9) (nR_refl _ _ _) rfl
      refine gsteps_cons (fun D γ a' w' hI hD0 hdep hcl hag hlt hf K hK => ?_) ?_
      · have s0 := hag.same 0 (by decide)
        clear hlt
        clear hag
        go_wp2_with fail
        exact hK _ _ _ (hI.pure (by decide)) (nR_refl _ _ _) rfl
      refine gsteps_cons (fun D γ a' w' hI hD0 hdep hcl hag hlt hf K hK => ?_) ?_
      · obtain ⟨⟨v0, h0, e0⟩, ⟨_, h4, rfl⟩, -⟩ : SFacts _ _ a' w' [0, 4] := hf
        clear hlt
        clear hag
        obtain ⟨b1, rfl, hb1⟩ := e0
        have h00 := hdep 0 (by decide)
        obtain ⟨b1x, hb1x, hm⟩ := hI.m1 h00
        rw [hb1] at hb1x
        cases hb1x
        have hlen : (selD D (insN a b)).length ≤ 7 := by unfold selD; rw [List.length_map]; exact List.length_filter_le _ _
        refine wpList_insert_lit rfl _ _ _ 39 (.inl rfl) 9 2 Tryd.underlying9 Tryd.underlying39 _ _ _ (by simp [Act.eval, h0]) hm (by unfold maxLen; omega) [43, 120] rfl (by unfold maxLen; simp) _ (by simp [Act.eval, h4]; rfl) ?_
        intro w9 hm9 hg9
        go_wp2_with fail
        exact hK undef _ _ (hI.ins1 (j := 5) (by simp [insN]) h00 hD0 hb1 hm9 hg9) (nR_refl _ _ _) rfl
      refine gsteps_cons (fun D γ a' w' hI hD0 hdep hcl hag hlt hf K hK => ?_) ?_
      · have s6 := hag.same 6 (by decide)
        clear hlt
        clear hag
        go_wp2_with fail
        exact hK _ _ _ (hI.pure (by decide)) (nR_refl _ _ _) rfl
      refine gsteps_cons (fun D γ a' w' hI hD0 hdep hcl hag hlt hf K hK => ?_) ?_
      · have s0 := hag.same 0 (by decide)
        clear hlt
        clear hag
        go_wp2_with fail
        exact hK _ _ _ (hI.pure (by decide)) (nR_refl _ _ _) rfl
      refine gsteps_cons (fun D γ a' w' hI hD0 hdep hcl hag hlt hf K hK => ?_) ?_
      · obtain ⟨⟨_, h7, rfl⟩, -⟩ : SFacts _ _ a' w' [7] := hf
        clear hlt
        clear hag
        go_wp2_with fail
        exact hK _ _ _ (hI.pure (by decide)) (nR_refl _ _ _) rfl
      refine gsteps_cons (fun D γ a' w' hI hD0 hdep hcl hag hlt hf K hK => ?_) ?_
      · obtain ⟨⟨_, h6, rfl⟩, ⟨_, h8, rfl⟩, -⟩ : SFacts _ _ a' w' [6, 8] := hf
        clear hlt
        clear hag
        go_wp2_with fail
        refine (oneN_any _ _).mono ?_
        rintro x w2 ⟨rfl, hw2⟩
        subst hw2
        go_wp2_with fail
        exact hK _ _ _ (hI.pure (by decide)) (nR_refl _ _ _) rfl
      refine gsteps_cons (fun D γ a' w' hI hD0 hdep hcl hag hlt hf K hK => ?_) ?_
      · obtain ⟨⟨v0, h0, e0⟩, ⟨_, h9, rfl⟩, -⟩ : SFacts _ _ a' w' [0, 9] := hf
        clear hlt
        clear hag
        obtain ⟨b1, rfl, hb1⟩ := e0
        have h00 := hdep 0 (by decide)
        obtain ⟨b1x, hb1x, hm⟩ := hI.m1 h00
        rw [hb1] at hb1x
        cases hb1x
        have hlen : (selD D (insN a b)).length ≤ 7 := by unfold selD; rw [List.length_map]; exact List.length_filter_le _ _
        refine wpList_insert_lit rfl _ _ _ 39 (.inl rfl) 9 2 Tryd.underlying9 Tryd.underlying39 _ _ _ (by simp [Act.eval, h0]) hm (by unfold maxLen; omega) [33, 120] rfl (by unfold maxLen; simp) _ (by simp [Act.eval, h9]; rfl) ?_
        intro w9 hm9 hg9
        go_wp2_with fail
        exact hK undef _ _ (hI.ins1 (j := 10) (by simp [insN]) h00 hD0 hb1 hm9 hg9) (nR_refl _ _ _) rfl
      refine gsteps_cons (fun D γ a' w' hI hD0 hdep hcl hag hlt hf K hK => ?_) ?_
      · have s0 := hag.same 0 (by decide)
        clear hlt
        clear hag
        go_wp2_with fail
        exact hK _ _ _ (hI.pure (by decide)) (nR_refl _ _ _) rfl
      refine gsteps_cons (fun D γ a' w' hI hD0 hdep hcl hag hlt hf K hK => ?_) ?_
      · obtain ⟨⟨_, h11, rfl⟩, -⟩ : SFacts _ _ a' w' [11] := hf
        clear hlt
        clear hag
        go_wp2_with fail
        exact hK _ _ _ (hI.pure (by decide)) (nR_refl _ _ _) (congrArg (Value.int .i64) HV12.out)
      refine gsteps_cons (fun D γ a' w' hI hD0 hdep hcl hag hlt hf K hK => ?_) ?_
      · obtain ⟨⟨v0, h0, e0⟩, ⟨_, h12, rfl⟩, -⟩ : SFacts _ _ a' w' [0, 12] := hf
        clear hlt
        clear hag
        obtain ⟨b1, rfl, hb1⟩ := e0
        have h00 := hdep 0 (by decide)
        obtain ⟨b1x, hb1x, hm⟩ := hI.m1 h00
        rw [hb1] at hb1x
        cases hb1x
        have hlen : (selD D (insN a b)).length ≤ 7 := by unfold selD; rw [List.length_map]; exact List.length_filter_le _ _
        refine wpList_insert_lit rfl _ _ _ 39 (.inl rfl) 9 2 Tryd.underlying9 Tryd.underlying39 _ _ _ (by simp [Act.eval, h0]) hm (by unfold maxLen; omega) [126, 120] rfl (by unfold maxLen; simp) _ (by simp [Act.eval, h12]; rfl) ?_
        intro w9 hm9 hg9
        go_wp2_with fail
        exact hK undef _ _ (hI.ins1 (j := 13) (by simp [insN]) h00 hD0 hb1 hm9 hg9) (nR_refl _ _ _) rfl
      refine gsteps_cons (fun D γ a' w' hI hD0 hdep hcl hag hlt hf K hK => ?_) ?_
      · have s0 := hag.same 0 (by decide)
        clear hlt
        clear hag
        go_wp2_with fail
        exact hK _ _ _ (hI.pure (by decide)) (nR_refl _ _ _) rfl
      refine gsteps_cons (fun D γ a' w' hI hD0 hdep hcl hag hlt hf K hK => ?_) ?_
      · have s1 := hag.same 1 (by decide)
        clear hlt
        clear hag
        go_wp2_with fail
        exact hK _ _ _ (hI.pure (by decide)) (nR_refl _ _ _) rfl
      refine gsteps_cons (fun D γ a' w' hI hD0 hdep hcl hag hlt hf K hK => ?_) ?_
      · obtain ⟨⟨_, h15, rfl⟩, -⟩ : SFacts _ _ a' w' [15] := hf
        clear hlt
        clear hag
        go_wp2_with fail
        exact hK _ _ _ (hI.pure (by decide)) (nR_refl _ _ _) (congrArg (Value.int .i64) HV16.out)
      refine gsteps_cons (fun D γ a' w' hI hD0 hdep hcl hag hlt hf K hK => ?_) ?_
      · obtain ⟨⟨_, h14, rfl⟩, ⟨_, h16, rfl⟩, -⟩ : SFacts _ _ a' w' [14, 16] := hf
        clear hlt
        clear hag
        go_wp2_with fail
        exact hK _ _ _ (hI.pure (by decide)) (nR_refl _ _ _) (congrArg (Value.int .i64) HV17.out)
      refine gsteps_cons (fun D γ a' w' hI hD0 hdep hcl hag hlt hf K hK => ?_) ?_
      · obtain ⟨⟨v0, h0, e0⟩, ⟨_, h17, rfl⟩, -⟩ : SFacts _ _ a' w' [0, 17] := hf
        clear hlt
        clear hag
        obtain ⟨b1, rfl, hb1⟩ := e0
        have h00 := hdep 0 (by decide)
        obtain ⟨b1x, hb1x, hm⟩ := hI.m1 h00
        rw [hb1] at hb1x
        cases hb1x
        have hlen : (selD D (insN a b)).length ≤ 7 := by unfold selD; rw [List.length_map]; exact List.length_filter_le _ _
        refine wpList_insert_lit rfl _ _ _ 39 (.inl rfl) 9 2 Tryd.underlying9 Tryd.underlying39 _ _ _ (by simp [Act.eval, h0]) hm (by unfold maxLen; omega) [120, 60, 60, 40, 121, 38, 54, 51, 41] rfl (by unfold maxLen; simp) _ (by simp [Act.eval, h17]; rfl) ?_
        intro w9 hm9 hg9
        go_wp2_with fail
        exact hK undef _ _ (hI.ins1 (j := 18) (by simp [insN]) h00 hD0 hb1 hm9 hg9) (nR_refl _ _ _) rfl
      refine gsteps_cons (fun D γ a' w' hI hD0 hdep hcl hag hlt hf K hK => ?_) ?_
      · have s0 := hag.same 0 (by decide)
        clear hlt
        clear hag
        go_wp2_with fail
        exact hK _ _ _ (hI.pure (by decide)) (nR_refl _ _ _) rfl
      refine gsteps_cons (fun D γ a' w' hI hD0 hdep hcl hag hlt hf K hK => ?_) ?_
      · have s1 := hag.same 1 (by decide)
        clear hlt
        clear hag
        go_wp2_with fail
        exact hK _ _ _ (hI.pure (by decide)) (nR_refl _ _ _) rfl
      refine gsteps_cons (fun D γ a' w' hI hD0 hdep hcl hag hlt hf K hK => ?_) ?_
      · obtain ⟨⟨_, h20, rfl⟩, -⟩ : SFacts _ _ a' w' [20] := hf
        clear hlt
        clear hag
        go_wp2_with fail
        exact hK _ _ _ (hI.pure (by decide)) (nR_refl _ _ _) (congrArg (Value.int .i64) HV16.out)
      refine gsteps_cons (fun D γ a' w' hI hD0 hdep hcl hag hlt hf K hK => ?_) ?_
      · obtain ⟨⟨_, h19, rfl⟩, ⟨_, h21, rfl⟩, -⟩ : SFacts _ _ a' w' [19, 21] := hf
        clear hlt
        clear hag
        go_wp2_with fail
        exact hK _ _ _ (hI.pure (by decide)) (nR_refl _ _ _) (congrArg (Value.int .i64) HV22.out)
      refine gsteps_cons (fun D γ a' w' hI hD0 hdep hcl hag hlt hf K hK => ?_) ?_
      · obtain ⟨⟨v0, h0, e0⟩, ⟨_, h22, rfl⟩, -⟩ : SFacts _ _ a' w' [0, 22] := hf
        clear hlt
        clear hag
        obtain ⟨b1, rfl, hb1⟩ := e0
        have h00 := hdep 0 (by decide)
        obtain ⟨b1x, hb1x, hm⟩ := hI.m1 h00
        rw [hb1] at hb1x
        cases hb1x
        have hlen : (selD D (insN a b)).length ≤ 7 := by unfold selD; rw [List.length_map]; exact List.length_filter_le _ _
        refine wpList_insert_lit rfl _ _ _ 39 (.inl rfl) 9 2 Tryd.underlying9 Tryd.underlying39 _ _ _ (by simp [Act.eval, h0]) hm (by unfold maxLen; omega) [120, 62, 62, 40, 121, 38, 54, 51, 41] rfl (by unfold maxLen; simp) _ (by simp [Act.eval, h22]; rfl) ?_
        intro w9 hm9 hg9
        go_wp2_with fail
        exact hK undef _ _ (hI.ins1 (j := 23) (by simp [insN]) h00 hD0 hb1 hm9 hg9) (nR_refl _ _ _) rfl
      refine gsteps_cons (fun D γ a' w' hI hD0 hdep hcl hag hlt hf K hK => ?_) ?_
      · clear hlt
        clear hag
        go_wp2_with fail
        exact hK _ (γ.1, some _) _ (hI.make2 hD0) ⟨fun _ h => h, fun b h => (by rw [(hI.n2 hD0).1] at h; cases h)⟩ ⟨_, rfl, rfl⟩
      refine gsteps_cons (fun D γ a' w' hI hD0 hdep hcl hag hlt hf K hK => ?_) ?_
      · have s1 := hag.same 1 (by decide)
        clear hlt
        clear hag
        go_wp2_with fail
        exact hK _ _ _ (hI.pure (by decide)) (nR_refl _ _ _) rfl
      refine gsteps_cons (fun D γ a' w' hI hD0 hdep hcl hag hlt hf K hK => ?_) ?_
      · obtain ⟨⟨v24, h24, e24⟩, ⟨_, h25, rfl⟩, -⟩ : SFacts _ _ a' w' [24, 25] := hf
        clear hlt
        clear hag
        obtain ⟨b2, rfl, hb2⟩ := e24
        have h00 := hdep 24 (by decide)
        obtain ⟨b2x, hb2x, hm⟩ := hI.m2 h00
        rw [hb2] at hb2x
        cases hb2x
        refine wpList_insert_bool rfl _ _ _ 41 rfl 4 2 Tryd.underlying4 Tryd.underlying41 _ _ _ _ (by simp [Act.eval, h24]) hm (by unfold maxLen; split <;> split <;> omega) true rfl (.int .i64 b) (by simp [Act.eval, h25]) ?_
        intro w9 hm9 hg9
        go_wp2_with fail
        exact hK undef _ _ (hI.ins2 (j := 26) (by simp) h00 hD0 hb2 hm9 hg9) (nR_refl _ _ _) rfl
      refine gsteps_cons (fun D γ a' w' hI hD0 hdep hcl hag hlt hf K hK => ?_) ?_
      · obtain ⟨⟨v24, h24, e24⟩, -⟩ : SFacts _ _ a' w' [24] := hf
        clear hlt
        clear hag
        obtain ⟨b2, rfl, hb2⟩ := e24
        have h00 := hdep 24 (by decide)
        obtain ⟨b2x, hb2x, hm⟩ := hI.m2 h00
        rw [hb2] at hb2x
        cases hb2x
        refine wpList_insert_bool rfl _ _ _ 41 rfl 4 2 Tryd.underlying4 Tryd.underlying41 _ _ _ _ (by simp [Act.eval, h24]) hm (by unfold maxLen; split <;> split <;> omega) false rfl (.int .i64 3) rfl ?_
        intro w9 hm9 hg9
        go_wp2_with fail
        exact hK undef _ _ (hI.ins2 (j := 27) (by simp) h00 hD0 hb2 hm9 hg9) (nR_refl _ _ _) rfl
      refine gsteps_cons (fun D γ a' w' hI hD0 hdep hcl hag hlt hf K hK => ?_) ?_
      · obtain ⟨⟨v24, h24, e24⟩, -⟩ : SFacts _ _ a' w' [24, 25, 26, 27] := hf
        clear hlt
        clear hag
        have h24 := hdep 24 (by decide)
        have h26 := hdep 26 (by decide)
        have h27 := hdep 27 (by decide)
        go_wp2_with fail
        exact hK _ _ _ (hI.move h24 h26 h27) (nR_refl _ _ _) e24
      refine gsteps_cons (fun D γ a' w' hI hD0 hdep hcl hag hlt hf K hK => ?_) ?_
      · have s0 := hag.same 0 (by decide)
        clear hlt
        clear hag
        go_wp2_with fail
        exact hK _ _ _ (hI.pure (by decide)) (nR_refl _ _ _) rfl
      refine gsteps_cons (fun D γ a' w' hI hD0 hdep hcl hag hlt hf K hK => ?_) ?_
      · obtain ⟨⟨_, h29, rfl⟩, -⟩ : SFacts _ _ a' w' [29] := hf
        clear hlt
        clear hag
        go_wp2_with fail
        exact hK _ _ _ (hI.pure (by decide)) (nR_refl _ _ _) rfl
      refine gsteps_cons (fun D γ a' w' hI hD0 hdep hcl hag hlt hf K hK => ?_) ?_
      · obtain ⟨⟨v28, h28, e28⟩, ⟨_, h30, rfl⟩, -⟩ : SFacts _ _ a' w' [28, 30] := hf
        clear hlt
        clear hag
        obtain ⟨b2, rfl, hb2⟩ := e28
        obtain ⟨h24, h26, h27⟩ := hI.mv (hdep 28 (by decide))
        obtain ⟨b2x, hb2x, hm⟩ := hI.m2 h24
        rw [hb2] at hb2x
        cases hb2x
        rw [h26, h27, if_pos rfl, if_pos rfl] at hm
        have hrun := hm.look (T := 41) Tryd.underlying4 Tryd.underlying41 (z := .int .i64 0) rfl false (.int .i64 (chN a b)) HCH.out
        go_wp2_with fail
        exact hK _ _ _ (hI.pure (by decide)) (nR_refl _ _ _) rfl
      refine gsteps_cons (fun D γ a' w' hI hD0 hdep hcl hag hlt hf K hK => ?_) ?_
      · obtain ⟨⟨v0, h0, e0⟩, ⟨_, h31, rfl⟩, -⟩ : SFacts _ _ a' w' [0, 31] := hf
        clear hlt
        clear hag
        obtain ⟨b1, rfl, hb1⟩ := e0
        have h00 := hdep 0 (by decide)
        obtain ⟨b1x, hb1x, hm⟩ := hI.m1 h00
        rw [hb1] at hb1x
        cases hb1x
        have hlen : (selD D (insN a b)).length ≤ 7 := by unfold selD; rw [List.length_map]; exact List.length_filter_le _ _
        refine wpList_insert_lit rfl _ _ _ 39 (.inl rfl) 9 2 Tryd.underlying9 Tryd.underlying39 _ _ _ (by simp [Act.eval, h0]) hm (by unfold maxLen; omega) [120, 63, 121, 58, 51] rfl (by unfold maxLen; simp) _ (by simp [Act.eval, h31]; rfl) ?_
        intro w9 hm9 hg9
        go_wp2_with fail
        exact hK undef _ _ (hI.ins1 (j := 32) (by simp [insN]) h00 hD0 hb1 hm9 hg9) (nR_refl _ _ _) rfl
      exact trivial
    · intro vs γ w' hI hvs
      have q0 := hvs 0 _ _ rfl rfl
      have q1 : vs 1 = (.int .i64 a) := hvs 1 _ _ rfl rfl
      have q2 : vs 2 = (.int .i64 (aheadF [45] a)) := hvs 2 _ _ rfl rfl
      have q4 : vs 4 = (.int .i64 a) := hvs 4 _ _ rfl rfl
      have q6 : vs 6 = (.func (.func 10) #[] #[]) := hvs 6 _ _ rfl rfl
      have q7 : vs 7 = (.int .i64 a) := hvs 7 _ _ rfl rfl
      have q8 : vs 8 = (.bool (a == 0)) := hvs 8 _ _ rfl rfl
      have q9 : vs 9 = (.int .i64 (aheadF [33] a)) := hvs 9 _ _ rfl rfl
      have q11 : vs 11 = (.int .i64 a) := hvs 11 _ _ rfl rfl
      have q12 : vs 12 = (.int .i64 (aheadF [126] a)) := hvs 12 _ _ rfl rfl
      have q14 : vs 14 = (.int .i64 a) := hvs 14 _ _ rfl rfl
      have q15 : vs 15 = (.int .i64 b) := hvs 15 _ _ rfl rfl
      have q16 : vs 16 = (.int .i64 (b % 64)) := hvs 16 _ _ rfl rfl
      have q17 : vs 17 = (.int .i64 (binF [60, 60] a (b % 64)).1) := hvs 17 _ _ rfl rfl
      have q19 : vs 19 = (.int .i64 a) := hvs 19 _ _ rfl rfl
      have q20 : vs 20 = (.int .i64 b) := hvs 20 _ _ rfl rfl
      have q21 : vs 21 = (.int .i64 (b % 64)) := hvs 21 _ _ rfl rfl
      have q22 : vs 22 = (.int .i64 (binF [62, 62] a (b % 64)).1) := hvs 22 _ _ rfl rfl
      have q24 := hvs 24 _ _ rfl rfl
      have q25 : vs 25 = (.int .i64 b) := hvs 25 _ _ rfl rfl
      have q28 := hvs 28 _ _ rfl rfl
      have q29 : vs 29 = (.int .i64 a) := hvs 29 _ _ rfl rfl
      have q30 : vs 30 = (.bool false) := hvs 30 _ _ rfl rfl
      have q31 : vs 31 = (.int .i64 (chN a b)) := hvs 31 _ _ rfl rfl
      clear hvs
      simp only [List.take_succ_cons, List.take_zero, List.drop_succ_cons, List.drop_zero, putAll, Act.put, List.setIfInBounds_toArray, List.set_cons_zero, List.set_cons_succ, Nat.reduceAdd, q1, q2, q4, q6, q7, q8, q9, q11, q12, q14, q15, q16, q17, q19, q20, q21, q22, q25, q29, q30, q31]
      clear q1 q2 q4 q6 q7 q8 q9 q11 q12 q14 q15 q16 q17 q19 q20 q21 q22 q25 q29 q30 q31
      generalize vs 0 = x0 at *
      generalize vs 24 = x24 at *
      generalize vs 28 = x28 at *
      obtain ⟨c1, rfl, hb1⟩ := q0
      obtain ⟨c1x, hb1x, hm9⟩ := hI.m1 rfl
      rw [hb1] at hb1x
      cases hb1x
      have KX2 := Lw.hid hI.kept
      have HM9 := Lw.hid hm9
      clear hI hm9 hb1 q24 q28
      rw [sel_all, twN_len] at HM9
      go_wp2_with (at_range; refine wpList_range_lit rfl _ _ rfl 9 2 Tryd.underlying9 Tryd.underlying39 _ _ _ rfl HM9.out ?_; clear HM9; intro wb cnt2 hr2 hk2)
      have HSR := Lw.hid hr2
      have K9 := Lw.hid ((KW9.out.trans KX.out (fun _ _ h => h)))
      have HLK2 := Lw.hid (HLK.out.kept KX.out (fun _ _ h => h))
      clear hr2 hk2 HLK KW9 KX KX2 HV2 HV12 HV16 HV17 HV22 HCH hb64
      obtain ⟨r2, hr2e⟩ : ∃ r, w'.heap.size = r := ⟨_, rfl⟩
      rw [hr2e] at HSR ⊢
      clear hr2e
      (try go_frame)
      go_loopg [] cnt2 (fun gk wx => SRange wr wx Tryd.prog 9 c1 r2 7 (twN a b) gk)
      case atStart => exact HSR.out
      case round =>
        have HR := Lw.hid hrel
        clear hrel HSR
        have KX := Lw.hid HR.out.kept
        go_wp2_with (at_next; refine wpList_next_lit rfl _ rfl 9 Tryd.underlying9 _ _ _ _ _ rfl HR.out ?_ ?_)
        case refine_2 =>
          intro ks v w3 cnt3 hmem hr2 hlt2 hkk2 hen
          have HR2 := Lw.hid hr2
          obtain ⟨want, ll, rfl, hev, hkl⟩ := twN_mem HA.out HB.out hmem.out
          have K3 := Lw.hid (K9.out.trans hr2.kept (fun _ _ h => h))
          have HL1 := Lw.hid (lawS_any B w3 (BA ks) ks rfl (some bv) dv (envA a b) (HE.out w3 K3.out).d (by omega) (envA_len a b HA.out HB.out) (HLK2.out.kept hr2.kept (fun _ _ h => h)))
          rw [hev] at HL1
          clear hr2 hkk2 hmem HR hev KX
          go_wp2_with fail
          refine HL1.out.mono ?_
          rintro e w4 ⟨⟨sl, rfl, -⟩, k4⟩
          have HR4 := Lw.hid (HR2.out.keep k4)
          clear k4 HL1
          go_wp2_with fail
          go_roundg cnt3
          case measure => exact hlt2
          case rel => exact HR4.out
        clear HR
        have hb0 : (b == 0) = true := by simpa using hpb
        have HBAD : Hid (b = 0 ∨ (a = minI ∧ b = -1)) := Lw.hid (.inl (by simpa using hpb))
        have K10 := Lw.hid (K9.out.trans KX.out (fun _ _ h => h))
        have HLK3 := Lw.hid (HLK2.out.kept KX.out (fun _ _ h => h))
        have HL := Lw.hid (lawS_any B wr (BA [120, 47, 121, 42, 121, 43, 120, 37, 121]) [120, 47, 121, 42, 121, 43, 120, 37, 121] rfl (some bv) dv (envA a b) (HE.out wr K10.out).d (by decide) (envA_len a b HA.out HB.out) (HLK3.out))
        have h1 := qr_bad a b HA.out HB.out HBAD.out
        obtain ⟨⟨av0, ae, al0⟩, hA1⟩ : ∃ A, evalF (envA a b) [120, 47, 121, 42, 121, 43, 120, 37, 121] = A := ⟨_, rfl⟩
        rw [hA1] at HL h1
        simp only at h1
        subst h1
        clear hA1
        skip
        refine HL.out.mono ?_
        rintro e w4 ⟨⟨sl0, rfl, -⟩, k4⟩
        have K4 := Lw.hid k4
        have K11 := Lw.hid (K10.out.trans k4 (fun _ _ h => h))
        clear k4 HL
        have HL := Lw.hid (lawS_any B w4 (BA [120, 37, 121]) [120, 37, 121] rfl (some bv) dv (envA a b) (HE.out w4 K11.out).d (by decide) (envA_len a b HA.out HB.out) (HLK3.out.kept K4.out (fun _ _ h => h)))
        have h1 := md_bad a b HA.out HB.out HBAD.out
        obtain ⟨⟨av1, ae, al1⟩, hA1⟩ : ∃ A, evalF (envA a b) [120, 37, 121] = A := ⟨_, rfl⟩
        rw [hA1] at HL h1
        simp only at h1
        subst h1
        clear hA1
        go_wp2_with fail
        refine HL.out.mono ?_
        rintro e w5 ⟨⟨sl1, rfl, -⟩, k4⟩
        have K4 := Lw.hid k4
        have K12 := Lw.hid (K11.out.trans k4 (fun _ _ h => h))
        clear k4 HL
        go_wp2_with fail
        refine (wakes_any B w5 dv (HE.out w5 K12.out).d).mono ?_
        rintro x w6 ⟨rfl, k6⟩
        have K13 := Lw.hid (K12.out.trans k6 (fun _ _ h => h))
        clear k6
        go_wp2_with fail
        go_ret
        exact ⟨rfl, K13.out⟩
end Go.Proofs.YtoedopgjonhemaaDoor
