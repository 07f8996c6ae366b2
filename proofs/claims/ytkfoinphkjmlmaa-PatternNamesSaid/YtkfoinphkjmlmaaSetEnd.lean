/- longwireref21.setEnd. -/
import Derived.Test.YtkfoinphkjmlmaaRef21
import Derived.Deep.LoopGhost
namespace Go.Proofs.Ytkfoinphkjmlmaa
open Go Go.RowKit Go.Lw
set_option maxRecDepth 100000
set_option linter.unusedVariables false
attribute [local go_sem] BA_toList
/-- Where the set behind a bracket ends. -/
def endF (l cs : List UInt8) : Int := match closedF cs with
  | some (_, r) => (l.length : Int) - (r.length : Int)
  | none => -1
set_option maxHeartbeats 4000000 in
theorem setEnd_any (w : World) (l : List UInt8) (k : Nat) (c0 : UInt8) (cs : List UInt8) (h : l.drop k = c0 :: cs) (hl : l.length ≤ 1000000) :
    Calls Try.prog 16 #[.string (BA l), .int .i64 (k : Int)] w fun e w' => e = .returned (.int .i64 (endF l cs)) ∧ w = w' := by
  obtain ⟨h1, h2, h3⟩ := drop_at h
  have hs := BA_size l
  obtain ⟨r0, nt, hr0⟩ : ∃ r0 nt, cutpF cs [33] = (r0, nt) := ⟨_, _, rfl⟩
  obtain ⟨fE, rE, hE⟩ : ∃ fE rE, setF r0.length true r0 noneF = (fE, rE) := ⟨_, _, rfl⟩
  have HCF : Hid ((rE = [] → closedF cs = none) ∧ ∀ c r, rE = c :: r → closedF cs = some ((fun i => nt != fE i), r)) := Lw.hid (by
    unfold closedF
    simp only [hr0, hE]
    exact ⟨fun h => by rw [h], fun c r h => by rw [h]⟩)
  have HE := Lw.hid hE; have H2 := Lw.hid h2
  have hcs : Hid ((cs = [] ∧ r0 = [] ) ∨ (∃ c t, cs = c :: t ∧ (c.toNat = 33 ∧ r0 = t ∨ ¬ c.toNat = 33 ∧ r0 = c :: t))) := Lw.hid (by
    cases cs with
    | nil => left; refine ⟨rfl, ?_⟩; unfold cutpF at hr0; simp at hr0; first | exact hr0.1 | exact hr0.1.symm
    | cons c t =>
      right
      refine ⟨c, t, rfl, ?_⟩
      by_cases hc : c.toNat = 33
      · left
        refine ⟨hc, ?_⟩
        have hc' : c = 33 := UInt8.toNat_inj.1 hc
        subst hc'
        unfold cutpF at hr0
        simp at hr0
        exact hr0.1.symm
      · right
        refine ⟨hc, ?_⟩
        have hc' : ¬ c = 33 := fun e => hc (by rw [e]; rfl)
        unfold cutpF at hr0
        simp [hc'] at hr0
        exact hr0.1.symm)
  obtain ⟨n, hn⟩ : ∃ n, l.length = n := ⟨_, rfl⟩
  have HN := Lw.hid hn
  rw [hn] at hs h3 hl
  have hk1 : k + 1 ≤ n := by omega
  clear hn h h1 h2 hE hr0
  go_enter Try.func16, Try.ntmps16
  go_upto_region 2 with fail
  go_cut [19] (fun s19 wx => ∃ t : Bool, s19 = .bool t ∧ wx = w ∧ (t = true → k + 2 ≤ n ∧ l.drop (k + 2) = r0) ∧ (t = false → l.drop (k + 1) = r0))
  case first =>
    rcases hcs.out with ⟨rfl, rfl⟩ | ⟨c, t, rfl, hc⟩
    · have hkn : n ≤ k + 1 := by simp at h3; omega
      go_wp2_with fail
      go_meet
      case rel => exact ⟨false, rfl, rfl, fun h => (by cases h), fun _ => H2.out⟩
    · have g1 := BA_get (drop_at H2.out).1
      have hkn : k + 2 ≤ n := by simp at h3; omega
      have HD2 := Lw.hid (drop_at H2.out).2.1
      rcases hc with ⟨hc, rfl⟩ | ⟨hc, rfl⟩
      · have hb : ((c.toNat : Int) == 33) = true := by rw [hc]; rfl
        clear hc h3
        go_wp2_with fail
        go_meet
        case rel => exact ⟨true, rfl, rfl, fun _ => ⟨hkn, HD2.out⟩, fun h => (by cases h)⟩
      · have hb : ((c.toNat : Int) == 33) = false := by simp; omega
        clear hc h3
        go_wp2_with fail
        go_meet
        case rel => exact ⟨false, rfl, rfl, fun h => (by cases h), fun _ => H2.out⟩
  case rest =>
    obtain ⟨t, rfl, rfl, ht1, ht2⟩ := hcut
    have HT := Lw.hid (And.intro ht1 ht2)
    clear ht1 ht2 hcs
    go_upto_if 19 with fail
    go_cut [1] (fun s1 wx => ∃ a : Nat, s1 = .int .i64 (a : Int) ∧ wx = wc ∧ a ≤ n ∧ l.drop a = r0)
    case first =>
      cases t with
      | true =>
        obtain ⟨q1, q2⟩ := HT.out.1 rfl
        have HQ := Lw.hid q2
        clear q2
        go_wp2_with fail
        go_meet
        case rel => exact ⟨k + 2, by go_num, rfl, q1, HQ.out⟩
      | false =>
        have HQ := Lw.hid (HT.out.2 rfl)
        go_wp2_with fail
        go_meet
        case rel => exact ⟨k + 1, by go_num, rfl, hk1, HQ.out⟩
    case rest =>
      obtain ⟨a0, rfl, rfl, ha0, hd0⟩ := hcut
      have HD0 := Lw.hid hd0
      clear hd0 HT H2
      go_wp2_with fail
      go_loopg [1, 5] r0.length (fun gk s1 s5 wx => ∃ (a : Nat) (r : List UInt8) (b : Bool) (f : Nat → Bool), gk = r.length ∧ s1 = .int .i64 (a : Int) ∧ s5 = .bool b ∧ a ≤ n ∧ l.drop a = r ∧ setF r.length b r f = (fE, rE) ∧ wx = wc)
      case atStart => exact ⟨a0, r0, true, noneF, rfl, rfl, rfl, ha0, HD0.out, HE.out, rfl⟩
      case round =>
        obtain ⟨a, r, b, f, rfl, rfl, rfl, ha, hd, he, rfl⟩ := hrel
        have HD := Lw.hid hd; have HE1 := Lw.hid he
        clear hd he HE HD0
        have hnl := HN.out
        cases r with
        | nil =>
          have hna : n ≤ a := by
            rcases Nat.lt_or_ge a n with h | h
            · have := HD.out; rw [List.drop_eq_nil_iff] at this; omega
            · exact h
          clear hnl
          have HR : Hid (endF l cs = -1) := Lw.hid (by
            have h := HE1.out
            unfold setF at h
            unfold endF
            rw [HCF.out.1 (Prod.mk.inj h).2.symm])
          go_wp2_with fail
          go_ret
          exact ⟨by rw [HR.out]; rfl, rfl⟩
        | cons c t =>
          obtain ⟨ga, hdt, hlt⟩ := drop_at HD.out
          have g0 := BA_get ga
          have HDT := Lw.hid hdt
          rw [hnl] at hlt
          have HLT := Lw.hid hlt
          have hlt2 : a + 1 ≤ n := by omega
          clear hnl ga hdt hlt
          by_cases hcl : b = false ∧ c.toNat = 93
          · obtain ⟨rfl, hc⟩ := hcl
            have hcb : ((c.toNat : Int) == 93) = true := by rw [hc]; rfl
            have hcn : ((c.toNat : Int) != 93) = false := by rw [hc]; rfl
            have HR : Hid (endF l cs = (a : Int) + 1) := Lw.hid (by
              have h := HE1.out
              unfold setF at h
              simp only [List.length_cons] at h
              rw [if_pos (by simp [hc])] at h
              obtain ⟨rfl, rfl⟩ := Prod.mk.inj h
              unfold endF
              rw [HCF.out.2 c t rfl]
              have h1 := HLT.out; have h2 := HN.out
              simp only
              omega)
            clear hc
            go_wp2_with fail
            go_ret
            exact ⟨by rw [HR.out]; rfl, rfl⟩
          · have hcn : b = false → ((c.toNat : Int) != 93) = true := fun h => by
              have : ¬ c.toNat = 93 := fun e => hcl ⟨h, e⟩
              simp; omega
            have HSTEP : Hid (setF (itemF c t).2.2.length false (itemF c t).2.2 (addR f (itemF c t).1.toNat (itemF c t).2.1.toNat) = (fE, rE)) := Lw.hid (by
              have h := HE1.out
              unfold setF at h
              simp only [List.length_cons] at h
              rw [if_neg hcl] at h
              rw [← h]
              exact (setF_fuel _ _ _ _ _ (Nat.le_refl _) (itemF_len c t)).symm)
            obtain ⟨⟨a1, r1⟩, har⟩ : ∃ x, takenF c t = x := ⟨_, rfl⟩
            obtain ⟨N1, hN1⟩ : ∃ N1, takenN c t = N1 := ⟨_, rfl⟩
            have hT := takenN_drop HD.out
            rw [har, hN1] at hT
            simp only at hT
            have HAR := Lw.hid har; have HN1 := Lw.hid hN1
            have HD1 := Lw.hid hT.1
            have hn1 : a + N1 + r1.length = n := by have := HLT.out; omega
            have HLR : Hid (r1.length < (c :: t).length) := Lw.hid (by simp; omega)
            have hil := itemF_len c t
            obtain ⟨⟨a', b2, r2⟩, hit⟩ : ∃ x, itemF c t = x := ⟨_, rfl⟩
            obtain rfl : a1 = a' := by
              have : (itemF c t).1 = (takenF c t).1 := by unfold itemF; split <;> (try split) <;> rfl
              rw [hit, har] at this; exact this.symm
            have HIT := Lw.hid hit
            rw [hit] at HSTEP hil
            simp only at HSTEP hil
            have HIL := Lw.hid hil
            clear har hN1 hT hit hcl HE1 hil
            have hna9 : a + N1 ≤ n := by omega
            obtain ⟨tt, ht⟩ : ∃ tt, tstF r1 = tt := ⟨_, rfl⟩
            have HTS := Lw.hid ht
            have htf : Hid ((tt = true → ∃ d e r', r1 = d :: e :: r' ∧ takenF e r' = (b2, r2)) ∧ (tt = false → b2 = a1 ∧ r2 = r1)) := Lw.hid (item_tst HAR.out HIT.out ht)
            clear ht
            have HN1L := Lw.hid hn1
            clear hn1
            cases b with
            | true =>
              clear hcn
              go_wp2_with fail
              refine (byteAt_any _ l a c t HD.out (by rw [HN.out]; exact hl)).mono ?_
              rw [HAR.out, HN1.out]
              rintro e1 _ ⟨rfl, rfl⟩
              go_upto_region 9 with fail
              go_cut [61] (fun s61 wx => s61 = .bool tt ∧ wx = wr)
              case first =>
                have hq : (r1 = [] ∧ tt = false) ∨ (∃ d, r1 = [d] ∧ tt = false) ∨ ∃ d e r', r1 = d :: e :: r' ∧ tt = (decide (d.toNat = 45) && !decide (e.toNat = 93)) := by
                  rcases r1 with _ | ⟨d, _ | ⟨e, r'⟩⟩
                  · exact .inl ⟨rfl, HTS.out.symm⟩
                  · exact .inr (.inl ⟨d, rfl, HTS.out.symm⟩)
                  · exact .inr (.inr ⟨d, e, r', rfl, HTS.out.symm⟩)
                clear g0
                rcases hq with ⟨rfl, rfl⟩ | ⟨d, rfl, rfl⟩ | ⟨d, e, r', rfl, rfl⟩
                · have hz : n ≤ a + N1 := by have := HN1L.out; simp at this; omega
                  go_wp2_with fail
                  go_meet
                  case rel => exact ⟨rfl, rfl⟩
                · have hz : n ≤ a + N1 + 1 := by have := HN1L.out; simp at this; omega
                  go_wp2_with fail
                  go_meet
                  case rel => exact ⟨rfl, rfl⟩
                · have hz : a + N1 + 2 ≤ n := by have := HN1L.out; simp at this; omega
                  have k0 := BA_get (drop_at HD1.out).1
                  have k1 := BA_get (drop_at (drop_at HD1.out).2.1).1
                  by_cases hd : d.toNat = 45
                  · have hdb : ((d.toNat : Int) == 45) = true := by rw [hd]; rfl
                    by_cases he : e.toNat = 93
                    · have heb : ((e.toNat : Int) != 93) = false := by rw [he]; rfl
                      have HT : Hid ((decide (d.toNat = 45) && !decide (e.toNat = 93)) = false) := Lw.hid (by simp [he])
                      clear hd he
                      go_wp2_with fail
                      go_meet
                      case rel => exact ⟨by rw [HT.out], rfl⟩
                    · have heb : ((e.toNat : Int) != 93) = true := by simp; omega
                      have HT : Hid ((decide (d.toNat = 45) && !decide (e.toNat = 93)) = true) := Lw.hid (by simp [hd, he])
                      clear hd he
                      go_wp2_with fail
                      go_meet
                      case rel => exact ⟨by rw [HT.out], rfl⟩
                  · have hdb : ((d.toNat : Int) == 45) = false := by simp; omega
                    have HT : Hid ((decide (d.toNat = 45) && !decide (e.toNat = 93)) = false) := Lw.hid (by simp [hd])
                    clear hd
                    go_wp2_with fail
                    go_meet
                    case rel => exact ⟨by rw [HT.out], rfl⟩
              case rest =>
                obtain ⟨rfl, rfl⟩ := hcut
                cases tt with
                | false =>
                  obtain ⟨rfl, rfl⟩ := htf.out.2 rfl
                  go_wp2_with fail
                  go_roundg r2.length
                  case measure =>
                    have h1 := HLT.out; have h2 := HIL.out
                    have h3 : (c :: t).length = t.length + 1 := rfl
                    omega
                  case rel => exact ⟨a + N1, r2, false, _, rfl, by go_num, rfl, hna9, HD1.out, HSTEP.out, rfl⟩
                | true =>
                  obtain ⟨d, e, r', rfl, htk⟩ := htf.out.1 rfl
                  have hT := takenN_drop (drop_at HD1.out).2.1
                  rw [htk] at hT
                  obtain ⟨N2, hN2⟩ : ∃ N2, takenN e r' = N2 := ⟨_, rfl⟩
                  rw [hN2] at hT
                  simp only at hT
                  have HTK := Lw.hid htk; have HN2 := Lw.hid hN2
                  have hz : a + N1 + 1 + N2 ≤ n := by have := HN1L.out; simp at this; omega
                  have HD2 := Lw.hid hT.1
                  clear htk hN2 hT g0
                  go_wp2_with fail
                  refine (byteAt_any _ l (a + N1 + 1) e r' (drop_at HD1.out).2.1 (by rw [HN.out]; exact hl)).mono ?_
                  rw [HTK.out, HN2.out]
                  rintro e2 _ ⟨rfl, rfl⟩
                  go_wp2_with fail
                  go_roundg r2.length
                  case measure =>
                    have h1 := HLT.out; have h2 := HIL.out
                    have h3 : (c :: t).length = t.length + 1 := rfl
                    omega
                  case rel => exact ⟨a + N1 + 1 + N2, r2, false, _, rfl, by go_num, rfl, hz, HD2.out, HSTEP.out, rfl⟩
            | false =>
              have hcn := hcn rfl
              go_wp2_with fail
              refine (byteAt_any _ l a c t HD.out (by rw [HN.out]; exact hl)).mono ?_
              rw [HAR.out, HN1.out]
              rintro e1 _ ⟨rfl, rfl⟩
              go_upto_region 9 with fail
              go_cut [61] (fun s61 wx => s61 = .bool tt ∧ wx = wr)
              case first =>
                have hq : (r1 = [] ∧ tt = false) ∨ (∃ d, r1 = [d] ∧ tt = false) ∨ ∃ d e r', r1 = d :: e :: r' ∧ tt = (decide (d.toNat = 45) && !decide (e.toNat = 93)) := by
                  rcases r1 with _ | ⟨d, _ | ⟨e, r'⟩⟩
                  · exact .inl ⟨rfl, HTS.out.symm⟩
                  · exact .inr (.inl ⟨d, rfl, HTS.out.symm⟩)
                  · exact .inr (.inr ⟨d, e, r', rfl, HTS.out.symm⟩)
                clear g0
                rcases hq with ⟨rfl, rfl⟩ | ⟨d, rfl, rfl⟩ | ⟨d, e, r', rfl, rfl⟩
                · have hz : n ≤ a + N1 := by have := HN1L.out; simp at this; omega
                  go_wp2_with fail
                  go_meet
                  case rel => exact ⟨rfl, rfl⟩
                · have hz : n ≤ a + N1 + 1 := by have := HN1L.out; simp at this; omega
                  go_wp2_with fail
                  go_meet
                  case rel => exact ⟨rfl, rfl⟩
                · have hz : a + N1 + 2 ≤ n := by have := HN1L.out; simp at this; omega
                  have k0 := BA_get (drop_at HD1.out).1
                  have k1 := BA_get (drop_at (drop_at HD1.out).2.1).1
                  by_cases hd : d.toNat = 45
                  · have hdb : ((d.toNat : Int) == 45) = true := by rw [hd]; rfl
                    by_cases he : e.toNat = 93
                    · have heb : ((e.toNat : Int) != 93) = false := by rw [he]; rfl
                      have HT : Hid ((decide (d.toNat = 45) && !decide (e.toNat = 93)) = false) := Lw.hid (by simp [he])
                      clear hd he
                      go_wp2_with fail
                      go_meet
                      case rel => exact ⟨by rw [HT.out], rfl⟩
                    · have heb : ((e.toNat : Int) != 93) = true := by simp; omega
                      have HT : Hid ((decide (d.toNat = 45) && !decide (e.toNat = 93)) = true) := Lw.hid (by simp [hd, he])
                      clear hd he
                      go_wp2_with fail
                      go_meet
                      case rel => exact ⟨by rw [HT.out], rfl⟩
                  · have hdb : ((d.toNat : Int) == 45) = false := by simp; omega
                    have HT : Hid ((decide (d.toNat = 45) && !decide (e.toNat = 93)) = false) := Lw.hid (by simp [hd])
                    clear hd
                    go_wp2_with fail
                    go_meet
                    case rel => exact ⟨by rw [HT.out], rfl⟩
              case rest =>
                obtain ⟨rfl, rfl⟩ := hcut
                cases tt with
                | false =>
                  obtain ⟨rfl, rfl⟩ := htf.out.2 rfl
                  go_wp2_with fail
                  go_roundg r2.length
                  case measure =>
                    have h1 := HLT.out; have h2 := HIL.out
                    have h3 : (c :: t).length = t.length + 1 := rfl
                    omega
                  case rel => exact ⟨a + N1, r2, false, _, rfl, by go_num, rfl, hna9, HD1.out, HSTEP.out, rfl⟩
                | true =>
                  obtain ⟨d, e, r', rfl, htk⟩ := htf.out.1 rfl
                  have hT := takenN_drop (drop_at HD1.out).2.1
                  rw [htk] at hT
                  obtain ⟨N2, hN2⟩ : ∃ N2, takenN e r' = N2 := ⟨_, rfl⟩
                  rw [hN2] at hT
                  simp only at hT
                  have HTK := Lw.hid htk; have HN2 := Lw.hid hN2
                  have hz : a + N1 + 1 + N2 ≤ n := by have := HN1L.out; simp at this; omega
                  have HD2 := Lw.hid hT.1
                  clear htk hN2 hT g0
                  go_wp2_with fail
                  refine (byteAt_any _ l (a + N1 + 1) e r' (drop_at HD1.out).2.1 (by rw [HN.out]; exact hl)).mono ?_
                  rw [HTK.out, HN2.out]
                  rintro e2 _ ⟨rfl, rfl⟩
                  go_wp2_with fail
                  go_roundg r2.length
                  case measure =>
                    have h1 := HLT.out; have h2 := HIL.out
                    have h3 : (c :: t).length = t.length + 1 := rfl
                    omega
                  case rel => exact ⟨a + N1 + 1 + N2, r2, false, _, rfl, by go_num, rfl, hz, HD2.out, HSTEP.out, rfl⟩
end Go.Proofs.Ytkfoinphkjmlmaa
