/- WordTells: the walk of the law. -/
import Derived.Test.YtifcgeanippepaaDoorTellnM
import Derived.Test.YtifcgeanippepaaDoorTellmM
import Derived.Test.YtifcgeanippepaaDoorTelliM
import Derived.Test.YtifcgeanippepaaDoorM33
import Derived.Test.YtifcgeanippepaaDoorM45
namespace Go.Proofs.YtifcgeanippepaaDoor
open Go Go.RowKit Go.Lw
set_option maxRecDepth 100000
set_option linter.unusedVariables false
set_option linter.unusedSimpArgs false
attribute [local go_sem] BA_toList
theorem few3_any : CFewZ 3 := few_3 (Lw.hid (few_2 (Lw.hid (few_1 (Lw.hid few_0)))))
/-- What Bare tells: all there is of it. -/
theorem bare_cases (X : List Prt) : (∃ t o, X = [.mk 1 t o false] ∧ bareV X = .tuple #[.string (BA t), .bool true]) ∨ (∃ k t o q, X = [.mk k t o q] ∧ ((k = 1 ∧ q = true) ∨ k ≠ 1) ∧ bareV X = .tuple #[.string (BA []), .bool false]) ∨ (X.length ≠ 1 ∧ bareV X = .tuple #[.string (BA []), .bool false]) := by
  by_cases h : X.length = 1
  · obtain ⟨⟨k, t, o, q⟩, rfl⟩ := List.length_eq_one_iff.1 h
    by_cases hk : k = 1
    · subst hk
      cases q
      · exact .inl ⟨t, o, rfl, rfl⟩
      · exact .inr (.inl ⟨1, t, o, true, rfl, .inl ⟨rfl, rfl⟩, rfl⟩)
    · exact .inr (.inl ⟨k, t, o, q, rfl, .inr hk, by unfold bareV bareF; simp [hk]⟩)
  · refine .inr (.inr ⟨h, ?_⟩)
    match X, h with
    | [], _ => rfl
    | [_], h => exact absurd rfl h
    | _ :: _ :: _, _ => simp [bareV, bareF]
set_option maxHeartbeats 16000000 in
theorem wtells_any (w : World) (v0 v1 : Value) (l m : List Prt) (hE : WEnv w) (h0 : WIn w v0 l) (t0 : TxOk l) (h1 : WIn w v1 m) (t1 : TxOk m) :
    Calls Tryd.prog 7 #[v0, v1] w fun x w' => x = .returned (.bool true) ∧ Kept (fun _ => False) w w' := by
  have HE := Lw.hid hE; have H0 := Lw.hid h0; have H1 := Lw.hid h1; have T0 := Lw.hid t0; have T1 := Lw.hid t1
  clear hE h0 h1 t0 t1
  obtain ⟨X, hX⟩ : ∃ X, fewF 3 l = X := ⟨_, rfl⟩
  obtain ⟨Y, hY⟩ : ∃ Y, fewF 3 m = Y := ⟨_, rfl⟩
  have hxt : (textW X).length ≤ 1000000 := by rw [← hX]; exact few3_le l
  have hxs : szL X ≤ 1000000 := by rw [← hX]; exact few3_sz l
  have hys : szL Y ≤ 1000000 := by rw [← hY]; exact few3_sz m
  have HXT := Lw.hid hxt; have HXS := Lw.hid hxs; have HYS := Lw.hid hys
  have FX := Lw.hid (few3_any w v0 l H0.out T0.out)
  rw [hX] at FX
  have FY := Lw.hid (fun w1 (k : Kept (fun _ => False) w w1) => few3_any w1 v1 m (H1.out.kept k) T1.out)
  rw [hY] at FY
  clear hX hY hxt hxs hys
  go_enter Tryd.func7, Tryd.ntmps7
  go_wp2_with fail
  refine FX.out.mono ?_
  rintro x w1 ⟨va, rfl, ha, k1⟩
  have HA := Lw.hid ha; have K1 := Lw.hid k1
  clear ha k1
  go_wp2_with fail
  refine (FY.out w1 K1.out).mono ?_
  rintro x w2 ⟨vb, rfl, hb, k2⟩
  have HA2 := Lw.hid (HA.out.kept k2 (fun _ _ h => h)); have HB2 := Lw.hid hb; have K2 := Lw.hid (K1.out.trans k2 (fun _ _ h => h))
  clear hb k2 HA K1
  obtain ⟨aa, an, ac, rfl⟩ := HA2.out.slice
  obtain ⟨ba, bn, bc, rfl⟩ := HB2.out.slice
  have HAM := Lw.hid HA2.out.max
  have ham := HA2.out.max
  have HAN := Lw.hid HA2.out.elem.1
  go_wp2_with fail
  refine (bare_any w2 _ _ X HA2.out).mono ?_
  rintro x w3 ⟨rfl, hw3⟩
  obtain rfl := hw3.symm
  have HBE : Hid ((BA (textW X) == BA (textW X)) = true) := Lw.hid (by rw [BA_beq]; exact beq_self_eq_true _)
  have HSR := Lw.hid (sameW_refl X)
  rcases bare_cases X with ⟨t, o, hXe, hbv⟩ | ⟨k, t, o, q, hXe, hkq, hbv⟩ | ⟨hXe, hbv⟩
  · subst hXe
    obtain ⟨b9, off9, oa, on, oc, rfl, r0, r1, r2, r3, _⟩ := HA2.out.elem.2 0 _ rfl
    simp only [Nat.zero_mul, Nat.add_zero, Prt.kind, Prt.text, Prt.quoted] at r0 r1 r3
    have hn1 : an = 1 := HAN.out
    subst hn1
    rw [hbv]
    clear hbv r2
    have bt : (BA t == BA t) = true := by rw [BA_beq]; exact beq_self_eq_true _
    have bt' : (t == t) = true := beq_self_eq_true _
    generalize hXX : [Prt.mk 1 t o false] = X at *
    clear hXX
    go_wp2_with fail
    refine (text_any (by have := HXT.out; omega) HA2.out).mono ?_
    rintro x w10 ⟨rfl, k10⟩
    have K10 := Lw.hid (K2.out.trans k10 (fun _ _ h => h)); have HA10 := Lw.hid (HA2.out.kept k10 (fun _ _ h => h)); have HB10 := Lw.hid (HB2.out.kept k10 (fun _ _ h => h))
    clear k10
    go_wp2_with fail
    refine (of_any HXS.out HA10.out).mono ?_
    rintro x w11 ⟨vo11, rfl, ho11, k11⟩
    have HO11 := Lw.hid ho11
    have K11 := Lw.hid (K10.out.trans k11 (fun _ _ h => h)); have HA11 := Lw.hid (HA10.out.kept k11 (fun _ _ h => h)); have HB11 := Lw.hid (HB10.out.kept k11 (fun _ _ h => h))
    clear k11 ho11
    go_wp2_with fail
    refine (z_text HXT.out HO11.out).mono ?_
    rintro x w12 ⟨rfl, k12⟩
    have K12 := Lw.hid (K11.out.trans k12 (fun _ _ h => h)); have HA12 := Lw.hid (HA11.out.kept k12 (fun _ _ h => h)); have HB12 := Lw.hid (HB11.out.kept k12 (fun _ _ h => h))
    clear k12
    go_wp2_with fail
    refine (may_any _ _ _ X (HE.out.kept K12.out (fun h => h) (fun h => h) (fun h => h)) HA12.out HXT.out).mono ?_
    rintro x w13 ⟨rfl, k13⟩
    have K13 := Lw.hid (K12.out.trans k13 (fun _ _ h => h)); have HA13 := Lw.hid (HA12.out.kept k13 (fun _ _ h => h)); have HB13 := Lw.hid (HB12.out.kept k13 (fun _ _ h => h))
    clear k13
    go_wp2_with fail
    refine (of_any HXS.out HA13.out).mono ?_
    rintro x w14 ⟨vo14, rfl, ho14, k14⟩
    have HO14 := Lw.hid ho14
    have K14 := Lw.hid (K13.out.trans k14 (fun _ _ h => h)); have HA14 := Lw.hid (HA13.out.kept k14 (fun _ _ h => h)); have HB14 := Lw.hid (HB13.out.kept k14 (fun _ _ h => h))
    clear k14 ho14
    go_wp2_with fail
    refine (z_may _ _ _ X HO14.out HXT.out).mono ?_
    rintro x w15 ⟨rfl, k15⟩
    have K15 := Lw.hid (K14.out.trans k15 (fun _ _ h => h)); have HA15 := Lw.hid (HA14.out.kept k15 (fun _ _ h => h)); have HB15 := Lw.hid (HB14.out.kept k15 (fun _ _ h => h))
    clear k15
    go_wp2_with fail
    refine (same_any HA15.out HB15.out).mono ?_
    rintro x w16 ⟨rfl, k16⟩
    have K16 := Lw.hid (K15.out.trans k16 (fun _ _ h => h)); have HA16 := Lw.hid (HA15.out.kept k16 (fun _ _ h => h)); have HB16 := Lw.hid (HB15.out.kept k16 (fun _ _ h => h))
    clear k16
    go_wp2_with fail
    refine (of_any HXS.out HA16.out).mono ?_
    rintro x w17 ⟨vo17, rfl, ho17, k17⟩
    have HO17 := Lw.hid ho17
    have K17 := Lw.hid (K16.out.trans k17 (fun _ _ h => h)); have HA17 := Lw.hid (HA16.out.kept k17 (fun _ _ h => h)); have HB17 := Lw.hid (HB16.out.kept k17 (fun _ _ h => h))
    clear k17 ho17
    go_wp2_with fail
    refine (of_any HYS.out HB17.out).mono ?_
    rintro x w18 ⟨vo18, rfl, ho18, k18⟩
    have HO18 := Lw.hid ho18
    have K18 := Lw.hid (K17.out.trans k18 (fun _ _ h => h)); have HA18 := Lw.hid (HA17.out.kept k18 (fun _ _ h => h)); have HB18 := Lw.hid (HB17.out.kept k18 (fun _ _ h => h))
    have HP17 := Lw.hid (HO17.out.kept k18 (fun _ _ h => h))
    clear k18 ho18
    go_wp2_with fail
    refine (z_same HP17.out HO18.out).mono ?_
    rintro x w19 ⟨rfl, k19⟩
    have K19 := Lw.hid (K18.out.trans k19 (fun _ _ h => h)); have HA19 := Lw.hid (HA18.out.kept k19 (fun _ _ h => h)); have HB19 := Lw.hid (HB18.out.kept k19 (fun _ _ h => h))
    clear k19
    go_wp2_with fail
    refine (same_any HA19.out HA19.out).mono ?_
    rintro x w20 ⟨rfl, k20⟩
    have K20 := Lw.hid (K19.out.trans k20 (fun _ _ h => h)); have HA20 := Lw.hid (HA19.out.kept k20 (fun _ _ h => h)); have HB20 := Lw.hid (HB19.out.kept k20 (fun _ _ h => h))
    clear k20
    go_wp2_with fail
    refine (wakes17_any _ (HE.out.kept K20.out (fun h => h) (fun h => h) (fun h => h))).mono ?_
    rintro x w99 ⟨rfl, k99⟩
    have K99 := Lw.hid (K20.out.trans k99 (fun _ _ h => h))
    clear k99
    go_wp2_with fail
    go_ret
    exact ⟨rfl, K99.out⟩
  · subst hXe
    obtain ⟨b9, off9, oa, on, oc, rfl, r0, r1, r2, r3, _⟩ := HA2.out.elem.2 0 _ rfl
    simp only [Nat.zero_mul, Nat.add_zero, Prt.kind, Prt.text, Prt.quoted] at r0 r1 r3
    have hn1 : an = 1 := HAN.out
    subst hn1
    rw [hbv]
    clear hbv r2
    have bk : (k == 1) = true ∧ q = true ∨ (k == 1) = false := by
      rcases hkq with ⟨h1, h2⟩ | h
      · exact .inl ⟨by rw [h1]; rfl, h2⟩
      · exact .inr (by simpa using h)
    generalize hXX : [Prt.mk k t o q] = X at *
    clear hXX hkq
    rcases bk with ⟨bk, rfl⟩ | bk
    · go_wp2_with fail
      refine (text_any (by have := HXT.out; omega) HA2.out).mono ?_
      rintro x w10 ⟨rfl, k10⟩
      have K10 := Lw.hid (K2.out.trans k10 (fun _ _ h => h)); have HA10 := Lw.hid (HA2.out.kept k10 (fun _ _ h => h)); have HB10 := Lw.hid (HB2.out.kept k10 (fun _ _ h => h))
      clear k10
      go_wp2_with fail
      refine (of_any HXS.out HA10.out).mono ?_
      rintro x w11 ⟨vo11, rfl, ho11, k11⟩
      have HO11 := Lw.hid ho11
      have K11 := Lw.hid (K10.out.trans k11 (fun _ _ h => h)); have HA11 := Lw.hid (HA10.out.kept k11 (fun _ _ h => h)); have HB11 := Lw.hid (HB10.out.kept k11 (fun _ _ h => h))
      clear k11 ho11
      go_wp2_with fail
      refine (z_text HXT.out HO11.out).mono ?_
      rintro x w12 ⟨rfl, k12⟩
      have K12 := Lw.hid (K11.out.trans k12 (fun _ _ h => h)); have HA12 := Lw.hid (HA11.out.kept k12 (fun _ _ h => h)); have HB12 := Lw.hid (HB11.out.kept k12 (fun _ _ h => h))
      clear k12
      go_wp2_with fail
      refine (may_any _ _ _ X (HE.out.kept K12.out (fun h => h) (fun h => h) (fun h => h)) HA12.out HXT.out).mono ?_
      rintro x w13 ⟨rfl, k13⟩
      have K13 := Lw.hid (K12.out.trans k13 (fun _ _ h => h)); have HA13 := Lw.hid (HA12.out.kept k13 (fun _ _ h => h)); have HB13 := Lw.hid (HB12.out.kept k13 (fun _ _ h => h))
      clear k13
      go_wp2_with fail
      refine (of_any HXS.out HA13.out).mono ?_
      rintro x w14 ⟨vo14, rfl, ho14, k14⟩
      have HO14 := Lw.hid ho14
      have K14 := Lw.hid (K13.out.trans k14 (fun _ _ h => h)); have HA14 := Lw.hid (HA13.out.kept k14 (fun _ _ h => h)); have HB14 := Lw.hid (HB13.out.kept k14 (fun _ _ h => h))
      clear k14 ho14
      go_wp2_with fail
      refine (z_may _ _ _ X HO14.out HXT.out).mono ?_
      rintro x w15 ⟨rfl, k15⟩
      have K15 := Lw.hid (K14.out.trans k15 (fun _ _ h => h)); have HA15 := Lw.hid (HA14.out.kept k15 (fun _ _ h => h)); have HB15 := Lw.hid (HB14.out.kept k15 (fun _ _ h => h))
      clear k15
      go_wp2_with fail
      refine (same_any HA15.out HB15.out).mono ?_
      rintro x w16 ⟨rfl, k16⟩
      have K16 := Lw.hid (K15.out.trans k16 (fun _ _ h => h)); have HA16 := Lw.hid (HA15.out.kept k16 (fun _ _ h => h)); have HB16 := Lw.hid (HB15.out.kept k16 (fun _ _ h => h))
      clear k16
      go_wp2_with fail
      refine (of_any HXS.out HA16.out).mono ?_
      rintro x w17 ⟨vo17, rfl, ho17, k17⟩
      have HO17 := Lw.hid ho17
      have K17 := Lw.hid (K16.out.trans k17 (fun _ _ h => h)); have HA17 := Lw.hid (HA16.out.kept k17 (fun _ _ h => h)); have HB17 := Lw.hid (HB16.out.kept k17 (fun _ _ h => h))
      clear k17 ho17
      go_wp2_with fail
      refine (of_any HYS.out HB17.out).mono ?_
      rintro x w18 ⟨vo18, rfl, ho18, k18⟩
      have HO18 := Lw.hid ho18
      have K18 := Lw.hid (K17.out.trans k18 (fun _ _ h => h)); have HA18 := Lw.hid (HA17.out.kept k18 (fun _ _ h => h)); have HB18 := Lw.hid (HB17.out.kept k18 (fun _ _ h => h))
      have HP17 := Lw.hid (HO17.out.kept k18 (fun _ _ h => h))
      clear k18 ho18
      go_wp2_with fail
      refine (z_same HP17.out HO18.out).mono ?_
      rintro x w19 ⟨rfl, k19⟩
      have K19 := Lw.hid (K18.out.trans k19 (fun _ _ h => h)); have HA19 := Lw.hid (HA18.out.kept k19 (fun _ _ h => h)); have HB19 := Lw.hid (HB18.out.kept k19 (fun _ _ h => h))
      clear k19
      go_wp2_with fail
      refine (same_any HA19.out HA19.out).mono ?_
      rintro x w20 ⟨rfl, k20⟩
      have K20 := Lw.hid (K19.out.trans k20 (fun _ _ h => h)); have HA20 := Lw.hid (HA19.out.kept k20 (fun _ _ h => h)); have HB20 := Lw.hid (HB19.out.kept k20 (fun _ _ h => h))
      clear k20
      go_wp2_with fail
      refine (wakes17_any _ (HE.out.kept K20.out (fun h => h) (fun h => h) (fun h => h))).mono ?_
      rintro x w99 ⟨rfl, k99⟩
      have K99 := Lw.hid (K20.out.trans k99 (fun _ _ h => h))
      clear k99
      go_wp2_with fail
      go_ret
      exact ⟨rfl, K99.out⟩
    · go_wp2_with fail
      refine (text_any (by have := HXT.out; omega) HA2.out).mono ?_
      rintro x w10 ⟨rfl, k10⟩
      have K10 := Lw.hid (K2.out.trans k10 (fun _ _ h => h)); have HA10 := Lw.hid (HA2.out.kept k10 (fun _ _ h => h)); have HB10 := Lw.hid (HB2.out.kept k10 (fun _ _ h => h))
      clear k10
      go_wp2_with fail
      refine (of_any HXS.out HA10.out).mono ?_
      rintro x w11 ⟨vo11, rfl, ho11, k11⟩
      have HO11 := Lw.hid ho11
      have K11 := Lw.hid (K10.out.trans k11 (fun _ _ h => h)); have HA11 := Lw.hid (HA10.out.kept k11 (fun _ _ h => h)); have HB11 := Lw.hid (HB10.out.kept k11 (fun _ _ h => h))
      clear k11 ho11
      go_wp2_with fail
      refine (z_text HXT.out HO11.out).mono ?_
      rintro x w12 ⟨rfl, k12⟩
      have K12 := Lw.hid (K11.out.trans k12 (fun _ _ h => h)); have HA12 := Lw.hid (HA11.out.kept k12 (fun _ _ h => h)); have HB12 := Lw.hid (HB11.out.kept k12 (fun _ _ h => h))
      clear k12
      go_wp2_with fail
      refine (may_any _ _ _ X (HE.out.kept K12.out (fun h => h) (fun h => h) (fun h => h)) HA12.out HXT.out).mono ?_
      rintro x w13 ⟨rfl, k13⟩
      have K13 := Lw.hid (K12.out.trans k13 (fun _ _ h => h)); have HA13 := Lw.hid (HA12.out.kept k13 (fun _ _ h => h)); have HB13 := Lw.hid (HB12.out.kept k13 (fun _ _ h => h))
      clear k13
      go_wp2_with fail
      refine (of_any HXS.out HA13.out).mono ?_
      rintro x w14 ⟨vo14, rfl, ho14, k14⟩
      have HO14 := Lw.hid ho14
      have K14 := Lw.hid (K13.out.trans k14 (fun _ _ h => h)); have HA14 := Lw.hid (HA13.out.kept k14 (fun _ _ h => h)); have HB14 := Lw.hid (HB13.out.kept k14 (fun _ _ h => h))
      clear k14 ho14
      go_wp2_with fail
      refine (z_may _ _ _ X HO14.out HXT.out).mono ?_
      rintro x w15 ⟨rfl, k15⟩
      have K15 := Lw.hid (K14.out.trans k15 (fun _ _ h => h)); have HA15 := Lw.hid (HA14.out.kept k15 (fun _ _ h => h)); have HB15 := Lw.hid (HB14.out.kept k15 (fun _ _ h => h))
      clear k15
      go_wp2_with fail
      refine (same_any HA15.out HB15.out).mono ?_
      rintro x w16 ⟨rfl, k16⟩
      have K16 := Lw.hid (K15.out.trans k16 (fun _ _ h => h)); have HA16 := Lw.hid (HA15.out.kept k16 (fun _ _ h => h)); have HB16 := Lw.hid (HB15.out.kept k16 (fun _ _ h => h))
      clear k16
      go_wp2_with fail
      refine (of_any HXS.out HA16.out).mono ?_
      rintro x w17 ⟨vo17, rfl, ho17, k17⟩
      have HO17 := Lw.hid ho17
      have K17 := Lw.hid (K16.out.trans k17 (fun _ _ h => h)); have HA17 := Lw.hid (HA16.out.kept k17 (fun _ _ h => h)); have HB17 := Lw.hid (HB16.out.kept k17 (fun _ _ h => h))
      clear k17 ho17
      go_wp2_with fail
      refine (of_any HYS.out HB17.out).mono ?_
      rintro x w18 ⟨vo18, rfl, ho18, k18⟩
      have HO18 := Lw.hid ho18
      have K18 := Lw.hid (K17.out.trans k18 (fun _ _ h => h)); have HA18 := Lw.hid (HA17.out.kept k18 (fun _ _ h => h)); have HB18 := Lw.hid (HB17.out.kept k18 (fun _ _ h => h))
      have HP17 := Lw.hid (HO17.out.kept k18 (fun _ _ h => h))
      clear k18 ho18
      go_wp2_with fail
      refine (z_same HP17.out HO18.out).mono ?_
      rintro x w19 ⟨rfl, k19⟩
      have K19 := Lw.hid (K18.out.trans k19 (fun _ _ h => h)); have HA19 := Lw.hid (HA18.out.kept k19 (fun _ _ h => h)); have HB19 := Lw.hid (HB18.out.kept k19 (fun _ _ h => h))
      clear k19
      go_wp2_with fail
      refine (same_any HA19.out HA19.out).mono ?_
      rintro x w20 ⟨rfl, k20⟩
      have K20 := Lw.hid (K19.out.trans k20 (fun _ _ h => h)); have HA20 := Lw.hid (HA19.out.kept k20 (fun _ _ h => h)); have HB20 := Lw.hid (HB19.out.kept k20 (fun _ _ h => h))
      clear k20
      go_wp2_with fail
      refine (wakes17_any _ (HE.out.kept K20.out (fun h => h) (fun h => h) (fun h => h))).mono ?_
      rintro x w99 ⟨rfl, k99⟩
      have K99 := Lw.hid (K20.out.trans k99 (fun _ _ h => h))
      clear k99
      go_wp2_with fail
      go_ret
      exact ⟨rfl, K99.out⟩
  · rw [hbv]
    have hn1 : ((an : Int) == 1) = false := by
      have h := HAN.out
      apply beq_eq_false_iff_ne.2
      omega
    clear hbv hXe
    go_wp2_with fail
    refine (text_any (by have := HXT.out; omega) HA2.out).mono ?_
    rintro x w10 ⟨rfl, k10⟩
    have K10 := Lw.hid (K2.out.trans k10 (fun _ _ h => h)); have HA10 := Lw.hid (HA2.out.kept k10 (fun _ _ h => h)); have HB10 := Lw.hid (HB2.out.kept k10 (fun _ _ h => h))
    clear k10
    go_wp2_with fail
    refine (of_any HXS.out HA10.out).mono ?_
    rintro x w11 ⟨vo11, rfl, ho11, k11⟩
    have HO11 := Lw.hid ho11
    have K11 := Lw.hid (K10.out.trans k11 (fun _ _ h => h)); have HA11 := Lw.hid (HA10.out.kept k11 (fun _ _ h => h)); have HB11 := Lw.hid (HB10.out.kept k11 (fun _ _ h => h))
    clear k11 ho11
    go_wp2_with fail
    refine (z_text HXT.out HO11.out).mono ?_
    rintro x w12 ⟨rfl, k12⟩
    have K12 := Lw.hid (K11.out.trans k12 (fun _ _ h => h)); have HA12 := Lw.hid (HA11.out.kept k12 (fun _ _ h => h)); have HB12 := Lw.hid (HB11.out.kept k12 (fun _ _ h => h))
    clear k12
    go_wp2_with fail
    refine (may_any _ _ _ X (HE.out.kept K12.out (fun h => h) (fun h => h) (fun h => h)) HA12.out HXT.out).mono ?_
    rintro x w13 ⟨rfl, k13⟩
    have K13 := Lw.hid (K12.out.trans k13 (fun _ _ h => h)); have HA13 := Lw.hid (HA12.out.kept k13 (fun _ _ h => h)); have HB13 := Lw.hid (HB12.out.kept k13 (fun _ _ h => h))
    clear k13
    go_wp2_with fail
    refine (of_any HXS.out HA13.out).mono ?_
    rintro x w14 ⟨vo14, rfl, ho14, k14⟩
    have HO14 := Lw.hid ho14
    have K14 := Lw.hid (K13.out.trans k14 (fun _ _ h => h)); have HA14 := Lw.hid (HA13.out.kept k14 (fun _ _ h => h)); have HB14 := Lw.hid (HB13.out.kept k14 (fun _ _ h => h))
    clear k14 ho14
    go_wp2_with fail
    refine (z_may _ _ _ X HO14.out HXT.out).mono ?_
    rintro x w15 ⟨rfl, k15⟩
    have K15 := Lw.hid (K14.out.trans k15 (fun _ _ h => h)); have HA15 := Lw.hid (HA14.out.kept k15 (fun _ _ h => h)); have HB15 := Lw.hid (HB14.out.kept k15 (fun _ _ h => h))
    clear k15
    go_wp2_with fail
    refine (same_any HA15.out HB15.out).mono ?_
    rintro x w16 ⟨rfl, k16⟩
    have K16 := Lw.hid (K15.out.trans k16 (fun _ _ h => h)); have HA16 := Lw.hid (HA15.out.kept k16 (fun _ _ h => h)); have HB16 := Lw.hid (HB15.out.kept k16 (fun _ _ h => h))
    clear k16
    go_wp2_with fail
    refine (of_any HXS.out HA16.out).mono ?_
    rintro x w17 ⟨vo17, rfl, ho17, k17⟩
    have HO17 := Lw.hid ho17
    have K17 := Lw.hid (K16.out.trans k17 (fun _ _ h => h)); have HA17 := Lw.hid (HA16.out.kept k17 (fun _ _ h => h)); have HB17 := Lw.hid (HB16.out.kept k17 (fun _ _ h => h))
    clear k17 ho17
    go_wp2_with fail
    refine (of_any HYS.out HB17.out).mono ?_
    rintro x w18 ⟨vo18, rfl, ho18, k18⟩
    have HO18 := Lw.hid ho18
    have K18 := Lw.hid (K17.out.trans k18 (fun _ _ h => h)); have HA18 := Lw.hid (HA17.out.kept k18 (fun _ _ h => h)); have HB18 := Lw.hid (HB17.out.kept k18 (fun _ _ h => h))
    have HP17 := Lw.hid (HO17.out.kept k18 (fun _ _ h => h))
    clear k18 ho18
    go_wp2_with fail
    refine (z_same HP17.out HO18.out).mono ?_
    rintro x w19 ⟨rfl, k19⟩
    have K19 := Lw.hid (K18.out.trans k19 (fun _ _ h => h)); have HA19 := Lw.hid (HA18.out.kept k19 (fun _ _ h => h)); have HB19 := Lw.hid (HB18.out.kept k19 (fun _ _ h => h))
    clear k19
    go_wp2_with fail
    refine (same_any HA19.out HA19.out).mono ?_
    rintro x w20 ⟨rfl, k20⟩
    have K20 := Lw.hid (K19.out.trans k20 (fun _ _ h => h)); have HA20 := Lw.hid (HA19.out.kept k20 (fun _ _ h => h)); have HB20 := Lw.hid (HB19.out.kept k20 (fun _ _ h => h))
    clear k20
    go_wp2_with fail
    refine (wakes17_any _ (HE.out.kept K20.out (fun h => h) (fun h => h) (fun h => h))).mono ?_
    rintro x w99 ⟨rfl, k99⟩
    have K99 := Lw.hid (K20.out.trans k99 (fun _ _ h => h))
    clear k99
    go_wp2_with fail
    go_ret
    exact ⟨rfl, K99.out⟩
theorem wtells_below (w : World) (v0 v1 : Value) (l m : List Prt) (hE : WEnv w) (h0 : WIn w v0 l) (t0 : TxOk l) (h1 : WIn w v1 m) (t1 : TxOk m) :
    Calls Tryd.prog 7 #[v0, v1] w fun e w' => e = .returned (.bool true) ∧ Below w.heap.size w w' :=
  (wtells_any w v0 v1 l m hE h0 t0 h1 t1).mono fun _ _ ⟨e, k⟩ => ⟨e, Below.of_kept k⟩
end Go.Proofs.YtifcgeanippepaaDoor
