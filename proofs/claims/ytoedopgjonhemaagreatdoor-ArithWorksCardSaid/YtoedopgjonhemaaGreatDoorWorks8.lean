/- ArithWorks: the machine's all, and the recursion. -/
import Derived.Test.YtoedopgjonhemaaGreatDoorWorks7
namespace Go.Proofs.YtoedopgjonhemaaGreatDoor
open Go Go.RowKit Go.Lw
set_option maxRecDepth 100000
set_option linter.unusedVariables false
set_option linter.unusedSimpArgs false
attribute [local go_sem] BA_toList
section
variable {L : List Tok} {env : List UInt8 → List UInt8} {d sk wr : Nat} {lq : List (List UInt8)} {s : List UInt8} {R0 : Rx} {v at' d' sk' b' : Int} {wr' : Nat} {lq' : List (List UInt8)}
theorem cond_tern {x y : Ex} {b c sk4 : Int} {sk1 sk2 wr1 wr2 : Nat} {lq1 lq2 : List (List UInt8)} {S3 : List UInt8} (hx : EvP env x sk wr lq v wr1 lq1) (h1 : sk1 = if v = 0 then sk + 1 else sk) (hy : EvP env y sk1 wr1 lq1 b wr2 lq2) (h2 : sk2 = if v ≠ 0 then sk + 1 else sk)
    (hc : MCond L env (d + 1) sk2 wr2 lq2 S3 (rdA .all (d + 1) S3) c at' d' sk' b' wr' lq') (hsk : sk' = (sk2 : Int) → sk4 = (sk : Int)) (hd : d ≤ 16) (hl : lq2.length + S3.length ≤ lq.length + s.length) (hs : S3.length ≤ s.length) :
    MCond L env d sk wr lq s (colR x y (rdA .all (d + 1) S3)) (if v ≠ 0 then b else c) at' (wrap64 (d' - 1)) sk4 b' wr' lq' := by
  rcases hc with ⟨er, he, k1, k2⟩ | ⟨z, a, hz, k1, k2, k3, k4, k5, k6, k7, k8, k9⟩
  · exact .inl ⟨er, by rw [he]; rfl, k1, k2⟩
  · exact .inr ⟨(.cond x y z.1, z.2), a, by rw [hz]; rfl, k1, by rw [k2]; unfold wrap64; omega, hsk k3, k4, ev_cond hx h1 hy h2 k5, k6, k7, by simp only; omega, by simp only; omega⟩
theorem isT_end (L : List Tok) (g : List UInt8) : isT L L.length g = false := by unfold isT; rw [List.getElem?_eq_none (Nat.le_refl _)]
end
set_option maxHeartbeats 16000000 in
theorem all_stepW (mb : Nat) (L : List Tok) (vL : Value) (V : List (List UInt8 × List UInt8)) (vV : Value) (n : Nat) (HF0 : CFrom mb L vL V vV n) (HA0 : ∀ m, m < n → CAll mb L vL V vV m) : CAll mb L vL V vV n := by
  intro H w at_ d sk wn lq s hE hS hat hdr hsn hd hsk hlq
  rw [rdA_allR]
  obtain ⟨adL, capL, hvL, hcapL, _⟩ := hE.tok
  subst hvL
  obtain ⟨nl, hnl⟩ : ∃ nl, L.length = nl := ⟨_, rfl⟩
  have HNL := Lw.hid hnl
  have hnl9 := hE.nL
  rw [hnl] at hE hS HF0 HA0 hcapL hnl9 ⊢
  have hc1 : Calls Tryz.prog 25 #[.pointer (some ⟨mb, 0, none⟩), .int .i64 1] w fun e w' => MPost mb H L (.slice adL nl capL) vV (envV V) d sk wn lq s (rdA (.row 0) d s) e w' ∧ KM mb H w w' := HF0 0 (by decide) H w at_ d sk wn lq s hE hS hat hdr hsn hd hsk hlq
  obtain ⟨R1, hR1⟩ : ∃ R, rdA (.row 0) d s = R := ⟨_, rfl⟩
  have HR1 := Lw.hid hR1
  rw [hR1] at hc1 ⊢
  obtain ⟨R0, hR0⟩ : ∃ R, allR d R1 = R := ⟨_, rfl⟩
  have HR0 := Lw.hid hR0
  rw [hR0]
  have HC1 := Lw.hid hc1; have HE := Lw.hid hE; have HA := Lw.hid HA0
  have hlt := hE.lt
  clear hc1 hE hS hR1 hR0 HF0 HA0 hdr hat hnl
  go_enter Tryz.func15, Tryz.ntmps15
  go_wp2_with fail
  refine HC1.out.mono ?_
  rintro x w1 ⟨⟨v, at1, d1, sk1, b1, wr1, lq1, rfl, hv, h1, hcond⟩, k1⟩
  have HV := Lw.hid hv; have H1 := Lw.hid h1; have K1 := Lw.hid k1
  have HE1 := Lw.hid (HE.out.kept k1)
  obtain ⟨ad1, cap1, hm1, ho1, hb1⟩ := h1.st
  have HM1 := Lw.hid hm1
  clear hv h1 k1 hm1 ho1 hb1 HC1
  rcases hcond with ⟨er, hRe, hat1, hb1⟩ | ⟨y0, a, hRo, hat1, hd1, hsk1, hb1, hev, hal, hdy, hq1, hq2⟩
  · subst hb1
    subst hat1
    have HR2 : Hid (R0 = .error er) := Lw.hid (by rw [← HR0.out, hRe]; rfl)
    have HIS := Lw.hid (is_any w1 mb H L (.slice adL nl capL) V vV _ _ _ _ _ L.length [63] HE1.out HM1.out (Nat.le_refl _))
    rw [isT_end] at HIS
    clear hRe
    go_wp2_with fail
    refine HIS.out.mono ?_
    rintro x w2 ⟨rfl, k2⟩
    go_wp2_with fail
    go_ret
    exact ⟨mp_of HV.out (H1.out.keep k2) (by rw [HR2.out]; exact inv_err rfl), K1.out.tr (KM.of k2)⟩
  · subst hb1
    subst hat1
    subst hd1
    subst hsk1
    obtain ⟨x0, r0⟩ := y0
    simp only at hev hdy hq1 hq2
    have HEV := Lw.hid hev; have HDY := Lw.hid hdy
    have HIS := Lw.hid (is_any w1 mb H L (.slice adL nl capL) V vV _ _ _ _ _ a [63] HE1.out HM1.out hal)
    rw [isT_sign hdy (by decide)] at HIS
    by_cases hqm : signF (trimA r0) = [63]
    · obtain ⟨hdy2, hal2, hly⟩ := drop_sign hdy (by decide) hqm
      obtain ⟨S2, hS2⟩ : ∃ S, (trimA r0).drop ([63] : List UInt8).length = S := ⟨_, rfl⟩
      rw [hS2] at hdy2 hly
      have HRA : Hid (R0 = dpR d (ynR x0 d (rdA .all (d + 1) S2))) := Lw.hid (by rw [← HR0.out, hRo, ← hS2]; exact if_pos hqm)
      have HDY2 := Lw.hid hdy2
      have hal3 : a + 1 ≤ nl := by have := HNL.out; omega
      rw [decide_eq_true hqm] at HIS
      clear hRo hev hdy hqm hdy2 hS2
      go_wp2_with fail
      refine HIS.out.mono ?_
      rintro x w2 ⟨rfl, k2⟩
      obtain ⟨ad2, cap2, hm2, ho2, hb2⟩ := (H1.out.keep k2).st
      obtain ⟨⟨c0, c1, c2, c3, c4, c5, c6, c7⟩, f1, f2, f3, f4, f5, f7⟩ := hm2.cells
      obtain ⟨w3, hw3⟩ : ∃ w3, w2.setCell ⟨mb, 1, none⟩ (.int .i64 ((a : Int) + 1)) = w3 := ⟨_, rfl⟩
      have HM3 : Hid (MC w3 mb (.slice adL nl capL) vV (.slice ad2 lq1.length cap2) ((a + 1 : Nat) : Int) (d : Int) (sk : Int) 0 (wr1 : Int)) := Lw.hid (by rw [← hw3]; exact hm2.setAt _)
      have K3 : Hid (KM mb H w w3) := Lw.hid (by rw [← hw3]; exact (K1.out.tr (KM.of k2)).set 1 _)
      have HE3 : Hid (MEnv w3 mb H L (.slice adL nl capL) V vV) := Lw.hid (HE.out.kept K3.out)
      have HO2 := Lw.hid ho2; have HB2 := Lw.hid hb2
      have HTURN : Hid (∀ w' at1 d1 s1 b1 wr2, MC w' mb (.slice adL nl capL) vV (.slice ad2 lq1.length cap2) at1 d1 s1 b1 ((wr2 : Nat) : Int) → KB mb w3 w' → MS w' mb H (.slice adL nl capL) vV at1 d1 s1 b1 wr2 lq1) := Lw.hid (fun w' at1 d1 s1 b1 wr2 h k => MS.turn h HO2.out HB2.out (KB.tr (by rw [← hw3]; exact (KB.refl mb w2).set 1 _) k) hlt.1)
      have HD := Lw.hid (deeper_any w3 mb H adL nl capL vV (.slice ad2 lq1.length cap2) ((a + 1 : Nat) : Int) (sk : Int) (wr1 : Int) d hd HM3.out)
      clear hm2 ho2 hb2 k2 HIS
      by_cases hd16 : d + 1 ≤ 16
      · rw [decide_eq_true hd16, show dpA d ((a + 1 : Nat) : Int) nl = ((a + 1 : Nat) : Int) from if_pos hd16, show dpB d = 0 from if_pos hd16] at HD
        have HRB : Hid (R0 = ynR x0 d (rdA .all (d + 1) S2)) := Lw.hid (by rw [HRA.out, dpR_ok hd16])
        by_cases hvz : v = 0
        · have hz0 : (v == 0) = true := by simp [hvz]
          have hz1 : (v != 0) = false := by simp [hvz]
          have HVZ := Lw.hid hvz
          clear hvz
          go_wp2_with fail
          refine HD.out.mono ?_
          rintro x w5 ⟨rfl, k5, h5⟩
          have K5 := Lw.hid (K3.out.tr (KB.km k5))
          have KB5 := Lw.hid k5
          have h5' : MC w5 mb (.slice adL nl capL) vV (.slice ad2 lq1.length cap2) ((a + 1 : Nat) : Int) ((d + 1 : Nat) : Int) (sk : Int) 0 (wr1 : Int) := h5
          have HM5 := Lw.hid h5'
          clear h5 k5 HD
          obtain ⟨⟨e0, e1, e2, e3, e4, e5, e6, e7⟩, j1, j2, j3, j4, j5, j7⟩ := h5'.cells
          obtain ⟨w6, hw6⟩ : ∃ w6, w5.setCell ⟨mb, 3, none⟩ (.int .i64 ((sk : Int) + 1)) = w6 := ⟨_, rfl⟩
          have HS6 : Hid (MS w6 mb H (.slice adL nl capL) vV ((a + 1 : Nat) : Int) ((d + 1 : Nat) : Int) ((sk + 1 : Nat) : Int) 0 wr1 lq1) := Lw.hid (HTURN.out w6 _ _ _ _ wr1 (by rw [← hw6]; exact HM5.out.setS _) (by rw [← hw6]; exact KB5.out.set 3 _))
          have K6 : Hid (KM mb H w w6) := Lw.hid (by rw [← hw6]; exact K5.out.set 3 _)
          clear h5'
          have HE6 := Lw.hid (HE.out.kept K6.out)
          have HC6 := Lw.hid (HA.out (n - 1) (by omega) H w6 (a + 1) (d + 1) (sk + 1) wr1 lq1 S2 HE6.out HS6.out (by rw [HNL.out]; exact hal3) HDY2.out (by omega) hd16 (by omega) (by omega))
          obtain ⟨RY, hRY⟩ : ∃ R, rdA .all (d + 1) S2 = R := ⟨_, rfl⟩
          have HRY := Lw.hid hRY
          rw [hRY] at HC6 HRB
          clear hRY
          go_wp2_with fail
          refine HC6.out.mono ?_
          rintro x w8 ⟨⟨b, at3, d3, sk3, b3, wr3, lq3, rfl, hvb, h8, hcond⟩, k8⟩
          have HVB := Lw.hid hvb
          have K8 := Lw.hid (K6.out.tr k8)
          obtain ⟨ad8, cap8, hm8, ho8, hb8⟩ := h8.st
          have HO8 := Lw.hid ho8; have HB8 := Lw.hid hb8
          obtain ⟨⟨p0, p1, p2, p3, p4, p5, p6, p7⟩, r1, r2, r3, r4, r5, r7⟩ := hm8.cells
          obtain ⟨w9, hw9⟩ : ∃ w9, w8.setCell ⟨mb, 3, none⟩ (.int .i64 (wrap64 (sk3 - 1))) = w9 := ⟨_, rfl⟩
          have HM9 : Hid (MC w9 mb (.slice adL nl capL) vV (.slice ad8 lq3.length cap8) at3 d3 (wrap64 (sk3 - 1)) b3 (wr3 : Int)) := Lw.hid (by rw [← hw9]; exact hm8.setS _)
          have HS9 : Hid (MS w9 mb H (.slice adL nl capL) vV at3 d3 (wrap64 (sk3 - 1)) b3 wr3 lq3) := Lw.hid (MS.turn HM9.out ho8 hb8 (by rw [← hw9]; exact (KB.refl mb w8).set 3 _) hlt.1)
          have K9 : Hid (KM mb H w w9) := Lw.hid (by rw [← hw9]; exact K8.out.set 3 _)
          clear hvb h8 k8 hm8 ho8 hb8 HC6
          have HE9 := Lw.hid (HE.out.kept K9.out)
          rcases hcond with ⟨er, hRe, hat3, hb3⟩ | ⟨y1, a1, hRo, hat3, hd3, hsk3, hb3, hev1, hal1, hdy1, hq3, hq4⟩
          · subst hb3
            subst hat3
            have her := rdA_ne (HRY.out.trans hRe)
            have HR2 : Hid (R0 = .error er) := Lw.hid (by rw [HRB.out, hRe]; rfl)
            have HIS := Lw.hid (is_any w9 mb H L (.slice adL nl capL) V vV _ _ _ _ _ L.length [58] HE9.out HM9.out (Nat.le_refl _))
            rw [isT_end] at HIS
            clear hRe
            go_wp2_with fail
            refine HIS.out.mono ?_
            rintro x wa ⟨rfl, ka⟩
            obtain ⟨ada, capa, hma, hoa, hba⟩ := (HS9.out.keep ka).st
            have HBD := Lw.hid (bad_any wa mb H adL nl capL vV _ _ _ _ _ er 5 hma)
            have HOA := Lw.hid hoa; have HBA := Lw.hid hba
            have KA := Lw.hid (K9.out.tr (KM.of ka))
            rw [show errN er 5 = er from if_neg her] at HBD
            clear hma hoa hba ka HIS
            go_wp2_with fail
            refine HBD.out.mono ?_
            rintro x wb ⟨rfl, hb, kb⟩
            have HB9 := Lw.hid (MS.turn hb HOA.out HBA.out kb hlt.1); have KBB := Lw.hid (KA.out.tr (KB.km kb))
            clear hb kb
            go_wp2_with fail
            go_ret
            exact ⟨mp_err HR2.out zero_in (by rw [HNL.out]; exact HB9.out), KBB.out⟩
          · subst hb3
            subst hat3
            obtain ⟨y1x, r1⟩ := y1
            simp only at hev1 hdy1 hq3 hq4
            have HIS := Lw.hid (is_any w9 mb H L (.slice adL nl capL) V vV _ _ _ _ _ a1 [58] HE9.out HM9.out hal1)
            rw [isT_sign hdy1 (by decide)] at HIS
            have HD3 : Hid (d3 = ((d + 1 : Nat) : Int)) := Lw.hid hd3
            have HSK3 : Hid (wrap64 (sk3 - 1) = (sk : Int)) := Lw.hid (skip_back (by omega) hsk3)
            have HEV1 := Lw.hid hev1
            by_cases hcl : signF (trimA r1) = [58]
            · obtain ⟨hdy2, hal4, hly1⟩ := drop_sign hdy1 (by decide) hcl
              obtain ⟨S3, hS3⟩ : ∃ S, (trimA r1).drop ([58] : List UInt8).length = S := ⟨_, rfl⟩
              rw [hS3] at hdy2 hly1
              have HRC : Hid (R0 = colR x0 y1x (rdA .all (d + 1) S3)) := Lw.hid (by rw [HRB.out, hRo, ← hS3]; exact if_pos hcl)
              have HDY3 := Lw.hid hdy2
              have hal5 : a1 + 1 ≤ nl := by have := HNL.out; omega
              rw [decide_eq_true hcl] at HIS
              clear hRo hev1 hdy1 hcl hdy2 hS3 hd3 hsk3
              go_wp2_with fail
              refine HIS.out.mono ?_
              rintro x wa ⟨rfl, ka⟩
              obtain ⟨ada, capa, hma, hoa, hba⟩ := (HS9.out.keep ka).st
              have KA := Lw.hid (K9.out.tr (KM.of ka))
              rw [HD3.out, HSK3.out] at hma
              obtain ⟨⟨g0, g1, g2, g3, g4, g5, g6, g7⟩, i1, i2, i3, i4, i5, i7⟩ := hma.cells
              obtain ⟨wb, hwb⟩ : ∃ wb, wa.setCell ⟨mb, 1, none⟩ (.int .i64 ((a1 : Int) + 1)) = wb := ⟨_, rfl⟩
              have HMB : Hid (MC wb mb (.slice adL nl capL) vV (.slice ada lq3.length capa) ((a1 + 1 : Nat) : Int) ((d + 1 : Nat) : Int) (sk : Int) 0 (wr3 : Int)) := Lw.hid (by rw [← hwb]; exact hma.setAt _)
              have KBB : Hid (KM mb H w wb) := Lw.hid (by rw [← hwb]; exact KA.out.set 1 _)
              have KAB : Hid (KB mb wa wb) := Lw.hid (by rw [← hwb]; exact (KB.refl mb wa).set 1 _)
              have HOA := Lw.hid hoa; have HBA := Lw.hid hba
              clear hma hoa hba ka HIS
              have HSC := Lw.hid (MS.turn HMB.out HOA.out HBA.out KAB.out hlt.1)
              have KC := KBB
              have HEC := Lw.hid (HE.out.kept KC.out)
              have HCC := Lw.hid (HA.out (n - 1) (by omega) H wb (a1 + 1) (d + 1) sk wr3 lq3 S3 HEC.out HSC.out (by rw [HNL.out]; exact hal5) HDY3.out (by omega) hd16 (by omega) (by omega))
              go_wp2_with fail
              refine HCC.out.mono ?_
              rintro x wd ⟨⟨c, at4, d4, sk4, b4, wr4, lq4, rfl, hvc, h4, hcond4⟩, k4⟩
              have HVC := Lw.hid hvc; have HCO := Lw.hid hcond4
              have KD := Lw.hid (KC.out.tr k4)
              obtain ⟨add, capd, hmd, hod, hbd⟩ := h4.st
              have HMD := Lw.hid hmd; have HOD := Lw.hid hod; have HBDD := Lw.hid hbd
              obtain ⟨⟨q0, q1, q2, q3, q4, q5, q6, q7⟩, l1, l2, l3, l4, l5, l7⟩ := hmd.cells
              clear hvc hcond4 h4 k4 hmd hod hbd HCC
              have HSE := Lw.hid (MS.turn (HMD.out.setD (wrap64 (d4 - 1))) HOD.out HBDD.out ((KB.refl mb wd).set 2 _) hlt.1)
              have KE := Lw.hid (KD.out.set 2 (.int .i64 (wrap64 (d4 - 1))))
              go_wp2_with fail
              go_ret
              refine ⟨?_, KE.out⟩
              have hfin := cond_tern (s := s) (d := d) HEV.out (by rw [if_pos HVZ.out]) HEV1.out (by rw [if_neg (fun h => h HVZ.out)]) HCO.out (fun e => e) hd (by omega) (by omega)
              rw [if_neg (fun h => h HVZ.out)] at hfin
              rw [← HRC.out] at hfin
              exact mp_of HVC.out HSE.out hfin
            · have HR2 : Hid (R0 = .error 5) := Lw.hid (by rw [HRB.out, hRo]; exact if_neg hcl)
              rw [decide_eq_false hcl] at HIS
              clear hRo hev1 hdy1 hcl hd3 hsk3
              go_wp2_with fail
              refine HIS.out.mono ?_
              rintro x wa ⟨rfl, ka⟩
              obtain ⟨ada, capa, hma, hoa, hba⟩ := (HS9.out.keep ka).st
              have HBD := Lw.hid (bad_any wa mb H adL nl capL vV _ _ _ _ _ 0 5 hma)
              have HOA := Lw.hid hoa; have HBA := Lw.hid hba
              have KA := Lw.hid (K9.out.tr (KM.of ka))
              clear hma hoa hba ka HIS
              go_wp2_with fail
              refine HBD.out.mono ?_
              rintro x wb ⟨rfl, hb, kb⟩
              have HB9 := Lw.hid (MS.turn hb HOA.out HBA.out kb hlt.1); have KBB := Lw.hid (KA.out.tr (KB.km kb))
              clear hb kb
              go_wp2_with fail
              go_ret
              exact ⟨mp_err HR2.out zero_in (by rw [HNL.out]; exact HB9.out), KBB.out⟩
        · have hz0 : (v == 0) = false := by simp [hvz]
          have hz1 : (v != 0) = true := by simp [hvz]
          have HVZ := Lw.hid hvz
          clear hvz
          go_wp2_with fail
          refine HD.out.mono ?_
          rintro x w5 ⟨rfl, k5, h5⟩
          have K5 := Lw.hid (K3.out.tr (KB.km k5))
          have KB5 := Lw.hid k5
          have h5' : MC w5 mb (.slice adL nl capL) vV (.slice ad2 lq1.length cap2) ((a + 1 : Nat) : Int) ((d + 1 : Nat) : Int) (sk : Int) 0 (wr1 : Int) := h5
          have HM5 := Lw.hid h5'
          clear h5 k5 HD
          obtain ⟨w6, hw6⟩ : ∃ w6, w5 = w6 := ⟨_, rfl⟩
          subst hw6
          have HS6 := Lw.hid (HTURN.out w5 _ _ _ _ wr1 HM5.out KB5.out)
          have K6 := K5
          clear h5'
          have HE6 := Lw.hid (HE.out.kept K6.out)
          have HC6 := Lw.hid (HA.out (n - 1) (by omega) H w5 (a + 1) (d + 1) sk wr1 lq1 S2 HE6.out HS6.out (by rw [HNL.out]; exact hal3) HDY2.out (by omega) hd16 (by omega) (by omega))
          obtain ⟨RY, hRY⟩ : ∃ R, rdA .all (d + 1) S2 = R := ⟨_, rfl⟩
          have HRY := Lw.hid hRY
          rw [hRY] at HC6 HRB
          clear hRY
          go_wp2_with fail
          refine HC6.out.mono ?_
          rintro x w8 ⟨⟨b, at3, d3, sk3, b3, wr3, lq3, rfl, hvb, h8, hcond⟩, k8⟩
          have HVB := Lw.hid hvb
          have K8 := Lw.hid (K6.out.tr k8)
          obtain ⟨ad8, cap8, hm8, ho8, hb8⟩ := h8.st
          have HO8 := Lw.hid ho8; have HB8 := Lw.hid hb8
          have HM9 := Lw.hid hm8; have HS9 := Lw.hid h8
          have K9 := K8
          clear hvb h8 k8 hm8 ho8 hb8 HC6
          have HE9 := Lw.hid (HE.out.kept K9.out)
          rcases hcond with ⟨er, hRe, hat3, hb3⟩ | ⟨y1, a1, hRo, hat3, hd3, hsk3, hb3, hev1, hal1, hdy1, hq3, hq4⟩
          · subst hb3
            subst hat3
            have her := rdA_ne (HRY.out.trans hRe)
            have HR2 : Hid (R0 = .error er) := Lw.hid (by rw [HRB.out, hRe]; rfl)
            have HIS := Lw.hid (is_any w8 mb H L (.slice adL nl capL) V vV _ _ _ _ _ L.length [58] HE9.out HM9.out (Nat.le_refl _))
            rw [isT_end] at HIS
            clear hRe
            go_wp2_with fail
            refine HIS.out.mono ?_
            rintro x wa ⟨rfl, ka⟩
            obtain ⟨ada, capa, hma, hoa, hba⟩ := (HS9.out.keep ka).st
            have HBD := Lw.hid (bad_any wa mb H adL nl capL vV _ _ _ _ _ er 5 hma)
            have HOA := Lw.hid hoa; have HBA := Lw.hid hba
            have KA := Lw.hid (K9.out.tr (KM.of ka))
            rw [show errN er 5 = er from if_neg her] at HBD
            clear hma hoa hba ka HIS
            go_wp2_with fail
            refine HBD.out.mono ?_
            rintro x wb ⟨rfl, hb, kb⟩
            have HB9 := Lw.hid (MS.turn hb HOA.out HBA.out kb hlt.1); have KBB := Lw.hid (KA.out.tr (KB.km kb))
            clear hb kb
            go_wp2_with fail
            go_ret
            exact ⟨mp_err HR2.out zero_in (by rw [HNL.out]; exact HB9.out), KBB.out⟩
          · subst hb3
            subst hat3
            obtain ⟨y1x, r1⟩ := y1
            simp only at hev1 hdy1 hq3 hq4
            have HIS := Lw.hid (is_any w8 mb H L (.slice adL nl capL) V vV _ _ _ _ _ a1 [58] HE9.out HM9.out hal1)
            rw [isT_sign hdy1 (by decide)] at HIS
            have HD3 : Hid (d3 = ((d + 1 : Nat) : Int)) := Lw.hid hd3
            have HSK3 : Hid (sk3 = (sk : Int)) := Lw.hid (hsk3)
            have HEV1 := Lw.hid hev1
            by_cases hcl : signF (trimA r1) = [58]
            · obtain ⟨hdy2, hal4, hly1⟩ := drop_sign hdy1 (by decide) hcl
              obtain ⟨S3, hS3⟩ : ∃ S, (trimA r1).drop ([58] : List UInt8).length = S := ⟨_, rfl⟩
              rw [hS3] at hdy2 hly1
              have HRC : Hid (R0 = colR x0 y1x (rdA .all (d + 1) S3)) := Lw.hid (by rw [HRB.out, hRo, ← hS3]; exact if_pos hcl)
              have HDY3 := Lw.hid hdy2
              have hal5 : a1 + 1 ≤ nl := by have := HNL.out; omega
              rw [decide_eq_true hcl] at HIS
              clear hRo hev1 hdy1 hcl hdy2 hS3 hd3 hsk3
              go_wp2_with fail
              refine HIS.out.mono ?_
              rintro x wa ⟨rfl, ka⟩
              obtain ⟨ada, capa, hma, hoa, hba⟩ := (HS9.out.keep ka).st
              have KA := Lw.hid (K9.out.tr (KM.of ka))
              rw [HD3.out, HSK3.out] at hma
              obtain ⟨⟨g0, g1, g2, g3, g4, g5, g6, g7⟩, i1, i2, i3, i4, i5, i7⟩ := hma.cells
              obtain ⟨wb, hwb⟩ : ∃ wb, wa.setCell ⟨mb, 1, none⟩ (.int .i64 ((a1 : Int) + 1)) = wb := ⟨_, rfl⟩
              have HMB : Hid (MC wb mb (.slice adL nl capL) vV (.slice ada lq3.length capa) ((a1 + 1 : Nat) : Int) ((d + 1 : Nat) : Int) (sk : Int) 0 (wr3 : Int)) := Lw.hid (by rw [← hwb]; exact hma.setAt _)
              have KBB : Hid (KM mb H w wb) := Lw.hid (by rw [← hwb]; exact KA.out.set 1 _)
              have KAB : Hid (KB mb wa wb) := Lw.hid (by rw [← hwb]; exact (KB.refl mb wa).set 1 _)
              have HOA := Lw.hid hoa; have HBA := Lw.hid hba
              clear hma hoa hba ka HIS
              obtain ⟨⟨l0, l1, l2, l3, l4, l5, l6, l7⟩, o1, o2, o3, o4, o5, o7⟩ := HMB.out.cells
              obtain ⟨wc, hwc⟩ : ∃ wc, wb.setCell ⟨mb, 3, none⟩ (.int .i64 ((sk : Int) + 1)) = wc := ⟨_, rfl⟩
              have HSC : Hid (MS wc mb H (.slice adL nl capL) vV ((a1 + 1 : Nat) : Int) ((d + 1 : Nat) : Int) ((sk + 1 : Nat) : Int) 0 wr3 lq3) := Lw.hid (MS.turn (by rw [← hwc]; exact HMB.out.setS _) HOA.out HBA.out (by rw [← hwc]; exact KAB.out.set 3 _) hlt.1)
              have KC : Hid (KM mb H w wc) := Lw.hid (by rw [← hwc]; exact KBB.out.set 3 _)
              have HEC := Lw.hid (HE.out.kept KC.out)
              have HCC := Lw.hid (HA.out (n - 1) (by omega) H wc (a1 + 1) (d + 1) (sk + 1) wr3 lq3 S3 HEC.out HSC.out (by rw [HNL.out]; exact hal5) HDY3.out (by omega) hd16 (by omega) (by omega))
              go_wp2_with fail
              refine HCC.out.mono ?_
              rintro x wd ⟨⟨c, at4, d4, sk4, b4, wr4, lq4, rfl, hvc, h4, hcond4⟩, k4⟩
              have HVC := Lw.hid hvc; have HCO := Lw.hid hcond4
              have KD := Lw.hid (KC.out.tr k4)
              obtain ⟨add, capd, hmd, hod, hbd⟩ := h4.st
              have HMD := Lw.hid hmd; have HOD := Lw.hid hod; have HBDD := Lw.hid hbd
              obtain ⟨⟨q0, q1, q2, q3, q4, q5, q6, q7⟩, l1, l2, l3, l4, l5, l7⟩ := hmd.cells
              clear hvc hcond4 h4 k4 hmd hod hbd HCC
              obtain ⟨we, hwe⟩ : ∃ we, wd.setCell ⟨mb, 3, none⟩ (.int .i64 (wrap64 (sk4 - 1))) = we := ⟨_, rfl⟩
              have HME : Hid (MC we mb (.slice adL nl capL) vV (.slice add lq4.length capd) at4 d4 (wrap64 (sk4 - 1)) b4 (wr4 : Int)) := Lw.hid (by rw [← hwe]; exact HMD.out.setS _)
              have KDE : Hid (KB mb wd we) := Lw.hid (by rw [← hwe]; exact (KB.refl mb wd).set 3 _)
              obtain ⟨⟨m0, m1, m2, m3, m4, m5, m6, m7⟩, n1, n2, n3, n4, n5, n7⟩ := HME.out.cells
              have HSE := Lw.hid (MS.turn (HME.out.setD (wrap64 (d4 - 1))) HOD.out HBDD.out (KDE.out.set 2 _) hlt.1)
              have KE := Lw.hid ((KD.out.tr (KB.km KDE.out)).set 2 (.int .i64 (wrap64 (d4 - 1))))
              go_wp2_with fail
              go_ret
              refine ⟨?_, KE.out⟩
              have hfin := cond_tern (s := s) (d := d) (sk4 := wrap64 (sk4 - 1)) HEV.out (by rw [if_neg HVZ.out]) HEV1.out (by rw [if_pos HVZ.out]) HCO.out (fun e => skip_back (by omega) e) hd (by omega) (by omega)
              rw [if_pos HVZ.out] at hfin
              rw [← HRC.out] at hfin
              exact mp_of HVB.out HSE.out hfin
            · have HR2 : Hid (R0 = .error 5) := Lw.hid (by rw [HRB.out, hRo]; exact if_neg hcl)
              rw [decide_eq_false hcl] at HIS
              clear hRo hev1 hdy1 hcl hd3 hsk3
              go_wp2_with fail
              refine HIS.out.mono ?_
              rintro x wa ⟨rfl, ka⟩
              obtain ⟨ada, capa, hma, hoa, hba⟩ := (HS9.out.keep ka).st
              have HBD := Lw.hid (bad_any wa mb H adL nl capL vV _ _ _ _ _ 0 5 hma)
              have HOA := Lw.hid hoa; have HBA := Lw.hid hba
              have KA := Lw.hid (K9.out.tr (KM.of ka))
              clear hma hoa hba ka HIS
              go_wp2_with fail
              refine HBD.out.mono ?_
              rintro x wb ⟨rfl, hb, kb⟩
              have HB9 := Lw.hid (MS.turn hb HOA.out HBA.out kb hlt.1); have KBB := Lw.hid (KA.out.tr (KB.km kb))
              clear hb kb
              go_wp2_with fail
              go_ret
              exact ⟨mp_err HR2.out zero_in (by rw [HNL.out]; exact HB9.out), KBB.out⟩
      · rw [decide_eq_false hd16, show dpA d ((a + 1 : Nat) : Int) nl = nl from if_neg hd16, show dpB d = 12 from if_neg hd16] at HD
        have HR2 : Hid (R0 = .error 12) := Lw.hid (by rw [HRA.out, dpR_no hd16])
        clear hd16
        go_wp2_with fail
        refine HD.out.mono ?_
        rintro x w5 ⟨rfl, k5, h5⟩
        have H5 := Lw.hid (HTURN.out w5 _ _ _ _ wr1 h5 k5); have K5 := Lw.hid (K3.out.tr (KB.km k5))
        clear h5 k5
        go_wp2_with fail
        go_ret
        exact ⟨mp_err HR2.out zero_in (by rw [HNL.out]; exact H5.out), K5.out⟩
    · have HCN : Hid (MCond L (envV V) d sk wn lq s R0 v (a : Int) (d : Int) (sk : Int) 0 wr1 lq1) := Lw.hid (.inr ⟨(x0, trimA r0), a, by rw [← HR0.out, hRo]; exact if_neg hqm, rfl, rfl, rfl, rfl, hev, hal, by rw [hdy, tokF_trim], by have := trimA_len r0; simp only; omega, by have := trimA_len r0; simp only; omega⟩)
      rw [decide_eq_false hqm] at HIS
      clear hRo hev hdy hqm
      go_wp2_with fail
      refine HIS.out.mono ?_
      rintro x w2 ⟨rfl, k2⟩
      go_wp2_with fail
      go_ret
      exact ⟨mp_of HV.out (H1.out.keep k2) HCN.out, K1.out.tr (KM.of k2)⟩
/-- THE MACHINE: one, from, all, at every text. -/
theorem machine_all (mb : Nat) (L : List Tok) (vL : Value) (V : List (List UInt8 × List UInt8)) (vV : Value) : ∀ n, COne mb L vL V vV n ∧ CFrom mb L vL V vV n ∧ CAll mb L vL V vV n := by
  intro n
  induction n using Nat.strongRecOn with
  | ind n ih =>
    have h1 := one_step mb L vL V vV n (fun m hm => (ih m hm).1) (fun m hm => (ih m hm).2.2)
    have h2 := from_step mb L vL V vV n h1 (fun m hm => (ih m hm).2.1)
    exact ⟨h1, h2, all_stepW mb L vL V vV n h2 (fun m hm => (ih m hm).2.2)⟩
end Go.Proofs.YtoedopgjonhemaaGreatDoor
