/- ArithSame, walked. -/
import Derived.Test.YtoedopgjonhemaaGreatDoorSameS
namespace Go.Proofs.YtoedopgjonhemaaGreatDoor
open Go Go.RowKit Go.Lw
set_option maxRecDepth 100000
set_option linter.unusedVariables false
set_option linter.unusedSimpArgs false
attribute [local go_sem] BA_toList
set_option maxHeartbeats 16000000 in
theorem same_any (B : Nat) (w : World) (dv : Value) (hD : DEnv B dv w) (s : List UInt8) (hs : s.length ≤ maxLen) :
    Calls Tryz.prog 4 #[.string (BA s)] w fun e w' => e = .returned (.bool true) ∧ Kept (fun _ => False) w w' := by
  have HE : Hid (∀ wx, Kept (fun _ => False) w wx → DEnv B dv wx) := Lw.hid (fun wx k => hD.kept k (fun _ h => h.elim))
  have hsz := BA_size s
  have hmm := @run_makeMap Tryz.prog
  obtain ⟨m, hm⟩ : ∃ m, min s.length 60 = m := ⟨_, rfl⟩
  have hmin : min (s.length : Int) 60 = (m : Int) := by omega
  have hmz : 0 ≤ m ∧ m ≤ s.length ∧ m ≤ 60 := by omega
  have hext : (BA s).extract 0 m = BA (s.take m) := BA_head s m
  have hT : (s.take m).length ≤ 60 := by rw [List.length_take]; omega
  obtain ⟨T, hTT⟩ : ∃ T, s.take m = T := ⟨_, rfl⟩
  rw [hTT] at hext hT
  have hsm : s.length ≤ 9223372036854775807 := by unfold maxLen at hs; omega
  have hTz : (BA T).size ≤ 60 := by rw [BA_size]; exact hT
  have HM := Lw.hid (SMap.made w w Tryz.prog 9 (Kept.refl _ w))
  clear hD hm hTT hs
  go_enter Tryz.func4, Tryz.ntmps4
  go_wp2_with (first | (refine wpList_insert_lit rfl _ _ _ 23 (.inl rfl) 9 26 Tryz.underlying9 Tryz.underlying23 _ _ _ rfl HM.out (by unfold maxLen; omega) _ rfl (by unfold maxLen; simp) _ rfl ?_; clear HM; intro w9 hm9 hgx; have HM := Lw.hid hm9; clear hm9 hgx))
  have hmv : SMap w w9 Tryz.prog 9 w.heap.size 3 (vTx varX) := HM.out
  have HLK := Lw.hid (look_map hmv (envX varX) (envX_at varX))
  have KW9 := Lw.hid hmv.kept
  have HVL := Lw.hid varX_len
  clear hmv HM
  obtain ⟨bv, hbv⟩ : ∃ b, w.heap.size = b := ⟨_, rfl⟩
  rw [hbv] at HLK ⊢
  clear hbv
  obtain ⟨env, henv⟩ : ∃ e, envX varX = e := ⟨_, rfl⟩
  rw [henv] at HLK HVL
  clear henv
  have HC := Lw.hid (lawE_any B w9 T (some bv) dv env (HE.out w9 KW9.out) (by omega) HVL.out HLK.out)
  obtain ⟨⟨av, ae, al⟩, hA⟩ : ∃ A, evalF env T = A := ⟨_, rfl⟩
  rw [hA] at HC
  have HA := Lw.hid hA
  clear hA
  refine HC.out.mono ?_
  rintro x w1 ⟨⟨sl, rfl, ⟨ad1, cap1, rfl, ho1, hb1⟩⟩, k1⟩
  have K1 := Lw.hid (KW9.out.trans k1 (fun _ _ h => h))
  have HL1 := Lw.hid (HLK.out.kept k1 (fun _ _ h => h))
  clear k1 ho1 hb1 HC HLK
  go_wp2_with fail
  have HC := Lw.hid (lawZ_any B w1 _ (bwS T) (by rw [show bwS T = [40, 32] ++ T ++ [9, 41] from rfl, ← BA_append, ← BA_append]) (some bv) dv env (HE.out w1 K1.out) (by have := (andS_len T).2; omega) HVL.out HL1.out)
  obtain ⟨⟨mv, me, ml⟩, hM⟩ : ∃ A, evalF env (bwS T) = A := ⟨_, rfl⟩
  rw [hM] at HC
  have HMV := Lw.hid hM
  clear hM
  refine HC.out.mono ?_
  rintro x w2 ⟨⟨sl, rfl, ⟨ad2, cap2, rfl, ho2, hb2⟩⟩, k2⟩
  have K2 := Lw.hid (K1.out.trans k2 (fun _ _ h => h))
  have HL2 := Lw.hid (HL1.out.kept k2 (fun _ _ h => h))
  clear k2 ho2 hb2 HC HL1
  go_wp2_with fail
  obtain ⟨er, her⟩ : ∃ e, errT T = e := ⟨_, rfl⟩
  have HER := Lw.hid her
  have hRT : Calls Tryz.prog 7 #[.string (BA T)] w2 (fun x w' => x = .returned (.int .i64 (er : Int)) ∧ Kept (fun _ => False) w2 w') := by rw [← her]; exact right_any B w2 T (HE.out w2 K2.out).ae (by omega)
  have HRT := Lw.hid hRT
  clear her hRT
  refine HRT.out.mono ?_
  rintro x w3 ⟨rfl, k3⟩
  have K3 := Lw.hid (K2.out.trans k3 (fun _ _ h => h))
  have HL3 := Lw.hid (HL2.out.kept k3 (fun _ _ h => h))
  clear k3 HL2 HRT
  by_cases h0 : er = 0
  case neg =>
    have hev := errT_er (s := T) (by rw [HER.out]; exact h0) env
    rw [HA.out, HER.out] at hev
    have hne : ((er : Int) != 0) = true := by rw [bne_iff_ne]; omega
    cases hev
    go_wp2_with fail
    have hRT : Calls Tryz.prog 7 #[.string (BA T)] w3 (fun x w' => x = .returned (.int .i64 (ae : Int)) ∧ Kept (fun _ => False) w3 w') := by rw [← HER.out]; exact right_any B w3 T (HE.out w3 K3.out).ae (by omega)
    refine hRT.mono ?_
    rintro x w4 ⟨rfl, k4⟩
    have K4 := Lw.hid (K3.out.trans k4 (fun _ _ h => h))
    clear k4 hRT
    go_wp2_with fail
    refine (wakes_any B w4 dv (HE.out w4 K4.out)).mono ?_
    rintro x w5 ⟨rfl, k5⟩
    have K5 := Lw.hid (K4.out.trans k5 (fun _ _ h => h))
    clear k5
    go_wp2_with fail
    go_ret
    exact ⟨rfl, K5.out⟩
  case pos =>
    subst h0
    obtain ⟨xx, hxx⟩ := errT_ok HER.out
    have HXX := Lw.hid hxx
    clear hxx
    go_wp2_with fail
    obtain ⟨er2, her2⟩ : ∃ e, errT (brS T) = e := ⟨_, rfl⟩
    have HER2 := Lw.hid her2
    have hRT : Calls Tryz.prog 7 #[.string (BA (brS T))] w3 (fun x w' => x = .returned (.int .i64 (er2 : Int)) ∧ Kept (fun _ => False) w3 w') := by rw [← her2]; exact right_any B w3 (brS T) (HE.out w3 K3.out).ae (by have := (andS_len T).1; omega)
    rw [show brS T = [40] ++ T ++ [41] from rfl, ← BA_append, ← BA_append] at hRT
    have HRT := Lw.hid hRT
    clear her2 hRT
    refine HRT.out.mono ?_
    rintro x w4 ⟨rfl, k4⟩
    have K4 := Lw.hid (K3.out.trans k4 (fun _ _ h => h))
    have HL4 := Lw.hid (HL3.out.kept k4 (fun _ _ h => h))
    clear k4 HRT HL3
    by_cases h12 : er2 = 12
    case pos =>
      subst h12
      go_wp2_with fail
      refine (wakes_any B w4 dv (HE.out w4 K4.out)).mono ?_
      rintro x w5 ⟨rfl, k5⟩
      have K5 := Lw.hid (K4.out.trans k5 (fun _ _ h => h))
      clear k5
      go_wp2_with fail
      go_ret
      exact ⟨rfl, K5.out⟩
    case neg =>
      have hne : ((er2 : Int) == 12) = false := by rw [beq_eq_false_iff_ne]; omega
      have hbr := law_bracket env HXX.out (by rw [← errT_same, HER2.out]; exact h12)
      rw [HMV.out, HA.out] at hbr
      cases hbr
      clear HMV HER2 h12
      go_wp2_with fail
      obtain ⟨U1, hU⟩ : ∃ U, [48, 38, 38, 40] ++ T = U := ⟨_, rfl⟩
      have HU1 : Hid (BA [48, 38, 38, 40] ++ BA T = BA U1) := Lw.hid (by rw [BA_append, hU])
      have HX1 : Hid (BA U1 ++ BA [41] = BA (andS T)) := Lw.hid (by rw [BA_append, ← hU]; rfl)
      have hU1 : (BA U1).size ≤ 70 := by rw [BA_size, ← hU, List.length_append]; simp only [List.length_cons, List.length_nil]; omega
      clear hU
      obtain ⟨U2, hU⟩ : ∃ U, [49, 124, 124, 40] ++ T = U := ⟨_, rfl⟩
      have HU2 : Hid (BA [49, 124, 124, 40] ++ BA T = BA U2) := Lw.hid (by rw [BA_append, hU])
      have HX2 : Hid (BA U2 ++ BA [41] = BA (orS T)) := Lw.hid (by rw [BA_append, ← hU]; rfl)
      have hU2 : (BA U2).size ≤ 70 := by rw [BA_size, ← hU, List.length_append]; simp only [List.length_cons, List.length_nil]; omega
      clear hU
      obtain ⟨U3, hU⟩ : ∃ U, [49, 63, 55, 58, 40] ++ T = U := ⟨_, rfl⟩
      have HU3 : Hid (BA [49, 63, 55, 58, 40] ++ BA T = BA U3) := Lw.hid (by rw [BA_append, hU])
      have HX3 : Hid (BA U3 ++ BA [41] = BA (thenS T)) := Lw.hid (by rw [BA_append, ← hU]; rfl)
      have hU3 : (BA U3).size ≤ 70 := by rw [BA_size, ← hU, List.length_append]; simp only [List.length_cons, List.length_nil]; omega
      clear hU
      obtain ⟨U4, hU⟩ : ∃ U, [48, 63, 40] ++ T = U := ⟨_, rfl⟩
      have HU4 : Hid (BA [48, 63, 40] ++ BA T = BA U4) := Lw.hid (by rw [BA_append, hU])
      have HX4 : Hid (BA U4 ++ BA [41, 58, 56] = BA (elseS T)) := Lw.hid (by rw [BA_append, ← hU]; rfl)
      have hU4 : (BA U4).size ≤ 70 := by rw [BA_size, ← hU, List.length_append]; simp only [List.length_cons, List.length_nil]; omega
      clear hU
      refine wp_region_set 17 (OneM w4 Tryz.prog 9 (insS 4 8 12 16 T) 0) (oR) [gMo, gV (.string (BA T)), gV (.string (BA U1)), gV (.string (BA (andS T))), gV undef, gV (.string (BA T)), gV (.string (BA U2)), gV (.string (BA (orS T))), gV undef, gV (.string (BA T)), gV (.string (BA U3)), gV (.string (BA (thenS T))), gV undef, gV (.string (BA T)), gV (.string (BA U4)), gV (.string (BA (elseS T))), gV undef] (none) (by kernel_rfl) (by kernel_rfl) (OneM.start (Kept.refl _ w4).drew) ?_ ?_
      · -- each operation by itself
        refine gsteps_cons (fun D γ a' w' hI hD0 hdep hcl hag hlt hf K hK => ?_) ?_
        · clear hlt
          clear hag
          go_wp2_with fail
          exact hK _ (some _) _ (hI.make (insS_ne (by decide)) hD0) (fun b h => (by rw [(hI.n1 hD0).1] at h; cases h)) ⟨_, rfl, rfl⟩
        refine gsteps_cons (fun D γ a' w' hI hD0 hdep hcl hag hlt hf K hK => ?_) ?_
        · have s0 := hag.same 0 (by decide)
          clear hlt
          clear hag
          go_wp2_with fail
          exact hK _ _ _ (hI.pure (insS_ne (by decide)) (by decide)) (oR_refl _ _ _) rfl
        refine gsteps_cons (fun D γ a' w' hI hD0 hdep hcl hag hlt hf K hK => ?_) ?_
        · obtain ⟨⟨_, h1, rfl⟩, -⟩ : SFacts _ _ a' w' [1] := hf
          clear hlt
          clear hag
          go_wp2_with fail
          exact hK _ _ _ (hI.pure (insS_ne (by decide)) (by decide)) (oR_refl _ _ _) (congrArg Value.string HU1.out)
        refine gsteps_cons (fun D γ a' w' hI hD0 hdep hcl hag hlt hf K hK => ?_) ?_
        · obtain ⟨⟨_, h2, rfl⟩, -⟩ : SFacts _ _ a' w' [2] := hf
          clear hlt
          clear hag
          go_wp2_with fail
          exact hK _ _ _ (hI.pure (insS_ne (by decide)) (by decide)) (oR_refl _ _ _) (congrArg Value.string HX1.out)
        refine gsteps_cons (fun D γ a' w' hI hD0 hdep hcl hag hlt hf K hK => ?_) ?_
        · obtain ⟨⟨v0, h0, e0⟩, ⟨_, h3, rfl⟩, -⟩ : SFacts _ _ a' w' [0, 3] := hf
          clear hlt
          clear hag
          obtain ⟨b1, rfl, hb1⟩ := e0
          have h00 := hdep 0 (by decide)
          obtain ⟨b1x, hb1x, hm⟩ := hI.m1 h00
          rw [hb1] at hb1x
          cases hb1x
          have hlen : (selD D (insS 4 8 12 16 T)).length ≤ 4 := selD_len _ _
          refine wpList_insert_lit rfl _ _ _ 39 (.inl rfl) 9 2 Tryz.underlying9 Tryz.underlying39 _ _ _ (by simp [Act.eval, h0]) hm (by unfold maxLen; omega) (andS T) (by simp [Act.eval, h3]) (by unfold maxLen; simp [andS, brS]; omega) (.int .i64 0) rfl ?_
          intro w9 hm9 hg9
          go_wp2_with fail
          exact hK undef _ _ (hI.ins (insS_nd1 T) (insS_nodup _ _ _ _ T) (by simp [insS]) (by decide) h00 hD0 hb1 hm9) (oR_refl _ _ _) rfl
        refine gsteps_cons (fun D γ a' w' hI hD0 hdep hcl hag hlt hf K hK => ?_) ?_
        · have s0 := hag.same 0 (by decide)
          clear hlt
          clear hag
          go_wp2_with fail
          exact hK _ _ _ (hI.pure (insS_ne (by decide)) (by decide)) (oR_refl _ _ _) rfl
        refine gsteps_cons (fun D γ a' w' hI hD0 hdep hcl hag hlt hf K hK => ?_) ?_
        · obtain ⟨⟨_, h5, rfl⟩, -⟩ : SFacts _ _ a' w' [5] := hf
          clear hlt
          clear hag
          go_wp2_with fail
          exact hK _ _ _ (hI.pure (insS_ne (by decide)) (by decide)) (oR_refl _ _ _) (congrArg Value.string HU2.out)
        refine gsteps_cons (fun D γ a' w' hI hD0 hdep hcl hag hlt hf K hK => ?_) ?_
        · obtain ⟨⟨_, h6, rfl⟩, -⟩ : SFacts _ _ a' w' [6] := hf
          clear hlt
          clear hag
          go_wp2_with fail
          exact hK _ _ _ (hI.pure (insS_ne (by decide)) (by decide)) (oR_refl _ _ _) (congrArg Value.string HX2.out)
        refine gsteps_cons (fun D γ a' w' hI hD0 hdep hcl hag hlt hf K hK => ?_) ?_
        · obtain ⟨⟨v0, h0, e0⟩, ⟨_, h7, rfl⟩, -⟩ : SFacts _ _ a' w' [0, 7] := hf
          clear hlt
          clear hag
          obtain ⟨b1, rfl, hb1⟩ := e0
          have h00 := hdep 0 (by decide)
          obtain ⟨b1x, hb1x, hm⟩ := hI.m1 h00
          rw [hb1] at hb1x
          cases hb1x
          have hlen : (selD D (insS 4 8 12 16 T)).length ≤ 4 := selD_len _ _
          refine wpList_insert_lit rfl _ _ _ 39 (.inl rfl) 9 2 Tryz.underlying9 Tryz.underlying39 _ _ _ (by simp [Act.eval, h0]) hm (by unfold maxLen; omega) (orS T) (by simp [Act.eval, h7]) (by unfold maxLen; simp [orS, brS]; omega) (.int .i64 1) rfl ?_
          intro w9 hm9 hg9
          go_wp2_with fail
          exact hK undef _ _ (hI.ins (insS_nd1 T) (insS_nodup _ _ _ _ T) (by simp [insS]) (by decide) h00 hD0 hb1 hm9) (oR_refl _ _ _) rfl
        refine gsteps_cons (fun D γ a' w' hI hD0 hdep hcl hag hlt hf K hK => ?_) ?_
        · have s0 := hag.same 0 (by decide)
          clear hlt
          clear hag
          go_wp2_with fail
          exact hK _ _ _ (hI.pure (insS_ne (by decide)) (by decide)) (oR_refl _ _ _) rfl
        refine gsteps_cons (fun D γ a' w' hI hD0 hdep hcl hag hlt hf K hK => ?_) ?_
        · obtain ⟨⟨_, h9, rfl⟩, -⟩ : SFacts _ _ a' w' [9] := hf
          clear hlt
          clear hag
          go_wp2_with fail
          exact hK _ _ _ (hI.pure (insS_ne (by decide)) (by decide)) (oR_refl _ _ _) (congrArg Value.string HU3.out)
        refine gsteps_cons (fun D γ a' w' hI hD0 hdep hcl hag hlt hf K hK => ?_) ?_
        · obtain ⟨⟨_, h10, rfl⟩, -⟩ : SFacts _ _ a' w' [10] := hf
          clear hlt
          clear hag
          go_wp2_with fail
          exact hK _ _ _ (hI.pure (insS_ne (by decide)) (by decide)) (oR_refl _ _ _) (congrArg Value.string HX3.out)
        refine gsteps_cons (fun D γ a' w' hI hD0 hdep hcl hag hlt hf K hK => ?_) ?_
        · obtain ⟨⟨v0, h0, e0⟩, ⟨_, h11, rfl⟩, -⟩ : SFacts _ _ a' w' [0, 11] := hf
          clear hlt
          clear hag
          obtain ⟨b1, rfl, hb1⟩ := e0
          have h00 := hdep 0 (by decide)
          obtain ⟨b1x, hb1x, hm⟩ := hI.m1 h00
          rw [hb1] at hb1x
          cases hb1x
          have hlen : (selD D (insS 4 8 12 16 T)).length ≤ 4 := selD_len _ _
          refine wpList_insert_lit rfl _ _ _ 39 (.inl rfl) 9 2 Tryz.underlying9 Tryz.underlying39 _ _ _ (by simp [Act.eval, h0]) hm (by unfold maxLen; omega) (thenS T) (by simp [Act.eval, h11]) (by unfold maxLen; simp [thenS, brS]; omega) (.int .i64 7) rfl ?_
          intro w9 hm9 hg9
          go_wp2_with fail
          exact hK undef _ _ (hI.ins (insS_nd1 T) (insS_nodup _ _ _ _ T) (by simp [insS]) (by decide) h00 hD0 hb1 hm9) (oR_refl _ _ _) rfl
        refine gsteps_cons (fun D γ a' w' hI hD0 hdep hcl hag hlt hf K hK => ?_) ?_
        · have s0 := hag.same 0 (by decide)
          clear hlt
          clear hag
          go_wp2_with fail
          exact hK _ _ _ (hI.pure (insS_ne (by decide)) (by decide)) (oR_refl _ _ _) rfl
        refine gsteps_cons (fun D γ a' w' hI hD0 hdep hcl hag hlt hf K hK => ?_) ?_
        · obtain ⟨⟨_, h13, rfl⟩, -⟩ : SFacts _ _ a' w' [13] := hf
          clear hlt
          clear hag
          go_wp2_with fail
          exact hK _ _ _ (hI.pure (insS_ne (by decide)) (by decide)) (oR_refl _ _ _) (congrArg Value.string HU4.out)
        refine gsteps_cons (fun D γ a' w' hI hD0 hdep hcl hag hlt hf K hK => ?_) ?_
        · obtain ⟨⟨_, h14, rfl⟩, -⟩ : SFacts _ _ a' w' [14] := hf
          clear hlt
          clear hag
          go_wp2_with fail
          exact hK _ _ _ (hI.pure (insS_ne (by decide)) (by decide)) (oR_refl _ _ _) (congrArg Value.string HX4.out)
        refine gsteps_cons (fun D γ a' w' hI hD0 hdep hcl hag hlt hf K hK => ?_) ?_
        · obtain ⟨⟨v0, h0, e0⟩, ⟨_, h15, rfl⟩, -⟩ : SFacts _ _ a' w' [0, 15] := hf
          clear hlt
          clear hag
          obtain ⟨b1, rfl, hb1⟩ := e0
          have h00 := hdep 0 (by decide)
          obtain ⟨b1x, hb1x, hm⟩ := hI.m1 h00
          rw [hb1] at hb1x
          cases hb1x
          have hlen : (selD D (insS 4 8 12 16 T)).length ≤ 4 := selD_len _ _
          refine wpList_insert_lit rfl _ _ _ 39 (.inl rfl) 9 2 Tryz.underlying9 Tryz.underlying39 _ _ _ (by simp [Act.eval, h0]) hm (by unfold maxLen; omega) (elseS T) (by simp [Act.eval, h15]) (by unfold maxLen; simp [elseS, brS]; omega) (.int .i64 8) rfl ?_
          intro w9 hm9 hg9
          go_wp2_with fail
          exact hK undef _ _ (hI.ins (insS_nd1 T) (insS_nodup _ _ _ _ T) (by simp [insS]) (by decide) h00 hD0 hb1 hm9) (oR_refl _ _ _) rfl
        exact trivial
      · intro vs γ w' hI hvs
        have q0 := hvs 0 _ _ rfl rfl
        have q1 : vs 1 = (.string (BA T)) := hvs 1 _ _ rfl rfl
        have q2 : vs 2 = (.string (BA U1)) := hvs 2 _ _ rfl rfl
        have q3 : vs 3 = (.string (BA (andS T))) := hvs 3 _ _ rfl rfl
        have q5 : vs 5 = (.string (BA T)) := hvs 5 _ _ rfl rfl
        have q6 : vs 6 = (.string (BA U2)) := hvs 6 _ _ rfl rfl
        have q7 : vs 7 = (.string (BA (orS T))) := hvs 7 _ _ rfl rfl
        have q9 : vs 9 = (.string (BA T)) := hvs 9 _ _ rfl rfl
        have q10 : vs 10 = (.string (BA U3)) := hvs 10 _ _ rfl rfl
        have q11 : vs 11 = (.string (BA (thenS T))) := hvs 11 _ _ rfl rfl
        have q13 : vs 13 = (.string (BA T)) := hvs 13 _ _ rfl rfl
        have q14 : vs 14 = (.string (BA U4)) := hvs 14 _ _ rfl rfl
        have q15 : vs 15 = (.string (BA (elseS T))) := hvs 15 _ _ rfl rfl
        clear hvs
        simp only [List.take_succ_cons, List.take_zero, List.drop_succ_cons, List.drop_zero, putAll, Act.put, List.setIfInBounds_toArray, List.set_cons_zero, List.set_cons_succ, Nat.reduceAdd, q1, q2, q3, q5, q6, q7, q9, q10, q11, q13, q14, q15]
        clear q1 q2 q3 q5 q6 q7 q9 q10 q11 q13 q14 q15
        generalize vs 0 = x0 at *
        obtain ⟨c1, rfl, hb1⟩ := q0
        obtain ⟨c1x, hb1x, hm9⟩ := hI.m1 rfl
        rw [hb1] at hb1x
        cases hb1x
        have KX2 := Lw.hid hI.kept
        have HM9 := Lw.hid hm9
        clear hI hm9 hb1
        rw [selS_all, show (twS T).length = 4 from rfl] at HM9
        go_wp2_with (at_range; refine wpList_range_lit rfl _ _ rfl 9 2 Tryz.underlying9 Tryz.underlying39 _ _ _ rfl HM9.out ?_; clear HM9; intro wb cnt2 hr2 hk2)
        have HSR := Lw.hid hr2
        obtain ⟨r2, hr2e⟩ : ∃ r, w'.heap.size = r := ⟨_, rfl⟩
        rw [hr2e] at HSR ⊢
        clear hr2 hk2 hr2e KX2
        (try go_frame)
        go_loopg [] cnt2 (fun gk wx => SRange w4 wx Tryz.prog 9 c1 r2 4 (twS T) gk)
        case atStart => exact HSR.out
        case round =>
          have HR := Lw.hid hrel
          clear hrel HSR
          have KX := Lw.hid HR.out.kept
          go_wp2_with (at_next; refine wpList_next_lit rfl _ rfl 9 Tryz.underlying9 _ _ _ _ _ rfl HR.out ?_ ?_)
          case refine_2 =>
            intro ks v wc cnt3 hmem hr2 hlt2 hkk2 hen
            have HR2 := Lw.hid hr2
            obtain ⟨want, rfl, hev, hkl⟩ := twS_mem HXX.out env hT hmem.out
            have K5 := Lw.hid (K4.out.trans hr2.kept (fun _ _ h => h))
            have HL5 := Lw.hid (HL4.out.kept hr2.kept (fun _ _ h => h))
            have HEV := Lw.hid hev
            have HRT := Lw.hid (right_any B wc ks (HE.out wc K5.out).ae (by omega))
            obtain ⟨er3, her3⟩ : ∃ e, errT ks = e := ⟨_, rfl⟩
            rw [her3] at HRT HEV
            clear hr2 hkk2 hmem HR hev KX her3
            go_wp2_with fail
            refine HRT.out.mono ?_
            rintro e wd ⟨rfl, kd⟩
            have HR6 := Lw.hid (HR2.out.keep kd)
            have K6 := Lw.hid (K5.out.trans kd (fun _ _ h => h))
            have HL6 := Lw.hid (HL5.out.kept kd (fun _ _ h => h))
            clear kd HRT HL5
            by_cases h12 : er3 = 12
            case pos =>
              subst h12
              go_wp2_with fail
              go_roundg cnt3
              case measure => exact hlt2
              case rel => exact HR6.out
            case neg =>
              have hne3 : ((er3 : Int) == 12) = false := by rw [beq_eq_false_iff_ne]; omega
              have hev := HEV.out.resolve_left h12
              have HC := Lw.hid (lawE_any B wd ks (some bv) dv env (HE.out wd K6.out) (by omega) HVL.out HL6.out)
              rw [hev] at HC
              clear hev HEV h12
              go_wp2_with fail
              refine HC.out.mono ?_
              rintro e we ⟨⟨sl, rfl, ⟨ad3, cap3, rfl, ho3, hb3⟩⟩, ke⟩
              have HR7 := Lw.hid (HR6.out.keep ke)
              clear ke ho3 hb3 HC
              go_wp2_with fail
              go_roundg cnt3
              case measure => exact hlt2
              case rel => exact HR7.out
          have K5 := Lw.hid (K4.out.trans KX.out (fun _ _ h => h))
          have HL5 := Lw.hid (HL4.out.kept KX.out (fun _ _ h => h))
          clear HR KX HL4
          go_wp2_with fail
          refine (new_any _ _ (by rw [pairs_eq]; exact Rd.lit wr [.string (BA [40]), .string (BA [32, 40, 32]), .string (BA [41]), .string (BA [32, 41, 32]), .string (BA [43]), .string (BA [43, 32]), .string (BA [42]), .string (BA [32, 42, 32])] 9 1 wr.heap.size 8 rfl rfl (by decide))).mono ?_
          rintro x w6 ⟨rb, rfl, hrb, hRN, k6⟩
          have HRN := Lw.hid hRN
          have K6 := Lw.hid ((K5.out.alloc _).trans k6 (fun _ _ h => h))
          have HL6 := Lw.hid ((HL5.out.kept ((Kept.refl (fun _ => False) wr).alloc _) (fun _ _ h => h)).kept k6 (fun _ _ h => h))
          have hwr : w.heap.size ≤ wr.heap.size := K5.out.size
          have hlk : bv < wr.heap.size := HL5.out.lt bv rfl
          have hrb2 : wr.heap.size < rb := by simp at hrb; omega
          clear hrb hRN k6 HL5
          go_wp2_with fail
          refine (replace_any w6 rb T (by omega) HRN.out).mono ?_
          rintro x w7 ⟨rfl, k7⟩
          have K7 := Lw.hid (K6.out.trans k7 (fun i hi h => by omega))
          have HL7 := Lw.hid (HL6.out.kept k7 (fun b hb h => by cases hb; omega))
          clear k7 HL6 HRN
          go_wp2_with fail
          have HC := Lw.hid (lawE_any B w7 (repF T) (some bv) dv env (HE.out w7 K7.out) (by have := (repF_len T).2; omega) HVL.out HL7.out)
          rw [same_spaced, HA.out] at HC
          refine HC.out.mono ?_
          rintro x w8 ⟨⟨sl, rfl, ⟨ad4, cap4, rfl, ho4, hb4⟩⟩, k8⟩
          have K8 := Lw.hid (K7.out.trans k8 (fun _ _ h => h))
          clear k8 ho4 hb4 HC HL7
          go_wp2_with fail
          refine (wakes_any B w8 dv (HE.out w8 K8.out)).mono ?_
          rintro x w9 ⟨rfl, k9⟩
          have K9 := Lw.hid (K8.out.trans k9 (fun _ _ h => h))
          clear k9
          go_wp2_with fail
          go_ret
          exact ⟨rfl, K9.out⟩
theorem same_below (B : Nat) (w : World) (dv : Value) (hD : DEnv B dv w) (s : List UInt8) (hs : s.length ≤ maxLen) :
    Calls Tryz.prog 4 #[.string (BA s)] w fun e w' => e = .returned (.bool true) ∧ Below w.heap.size w w' :=
  (same_any B w dv hD s hs).mono fun _ _ h => ⟨h.1, Below.of_kept h.2⟩
theorem same_str (B : Nat) (w : World) (dv : Value) (hD : DEnv B dv w) (s : ByteArray) (hs : s.size ≤ maxLen) :
    Calls Tryz.prog 4 #[.string s] w fun e w' => e = .returned (.bool true) ∧ Below w.heap.size w w' := by
  have e := BA_of s
  have hl : s.data.toList.length ≤ maxLen := by rw [e, BA_size] at hs; exact hs
  rw [e]
  exact same_below B w dv hD _ hl
end Go.Proofs.YtoedopgjonhemaaGreatDoor
