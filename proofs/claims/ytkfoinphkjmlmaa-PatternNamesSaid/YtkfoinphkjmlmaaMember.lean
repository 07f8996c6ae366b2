/- longwireref21.member. -/
import Derived.Test.YtkfoinphkjmlmaaSetEnd
namespace Go.Proofs.Ytkfoinphkjmlmaa
open Go Go.RowKit Go.Lw
set_option maxRecDepth 100000
set_option linter.unusedVariables false
attribute [local go_sem] BA_toList
/-- One step of a set. -/
theorem setF_step {c : UInt8} {l : List UInt8} {b : Bool} {f fE : Nat → Bool} {rE : List UInt8} (h : setF (c :: l).length b (c :: l) f = (fE, rE)) (hc : ¬ (b = false ∧ c.toNat = 93)) :
    setF (itemF c l).2.2.length false (itemF c l).2.2 (addR f (itemF c l).1.toNat (itemF c l).2.1.toNat) = (fE, rE) := by
  unfold setF at h
  simp only [List.length_cons] at h
  rw [if_neg hc] at h
  rw [← h]
  exact (setF_fuel _ _ _ _ _ (Nat.le_refl _) (itemF_len c l)).symm
theorem setF_le {b : Bool} {r : List UInt8} {f fE : Nat → Bool} {rE : List UInt8} (h : setF r.length b r f = (fE, rE)) : rE.length ≤ r.length := by
  have := setF_len r.length b r f
  rw [h] at this; exact this
/-- At the end: nothing is left to add. -/
theorem setF_done {b : Bool} {r : List UInt8} {f fE : Nat → Bool} {rE : List UInt8} (h : setF r.length b r f = (fE, rE)) (he : rE ≠ []) (hl : r.length ≤ rE.length) : fE = f := by
  cases r with
  | nil => exact absurd (List.eq_nil_of_length_eq_zero (by have := setF_le h; simpa using this)) he
  | cons c l =>
    by_cases hc : b = false ∧ c.toNat = 93
    · unfold setF at h
      simp only [List.length_cons] at h
      rw [if_pos hc] at h
      exact (Prod.mk.inj h).1.symm
    · have h1 := setF_le (setF_step h hc)
      have h2 := itemF_len c l
      simp at hl; omega
theorem setF_open {b : Bool} {c : UInt8} {l : List UInt8} {f fE : Nat → Bool} {rE : List UInt8} (h : setF (c :: l).length b (c :: l) f = (fE, rE)) (hl : rE.length < (c :: l).length) : ¬ (b = false ∧ c.toNat = 93) := fun hc => by
  unfold setF at h
  simp only [List.length_cons] at h
  rw [if_pos hc] at h
  rw [← (Prod.mk.inj h).2] at hl
  simp at hl
/-- A dash ahead of the bracket stands for itself: the set ends there. -/
theorem tst_far {c : UInt8} {l : List UInt8} {f fE : Nat → Bool} {rE : List UInt8} (h : setF (itemF c l).2.2.length false (itemF c l).2.2 f = (fE, rE)) (d e : UInt8) (r' : List UInt8) (h1 : (takenF c l).2 = d :: e :: r') (hd : d.toNat = 45) :
    (¬ e.toNat = 93 → rE.length ≤ r'.length) ∧ (e.toNat = 93 → rE.length = r'.length + 1) := by
  constructor
  · intro he
    have hi : (itemF c l).2.2 = (takenF e r').2 := by
      unfold itemF
      rw [h1]
      simp only
      rw [if_pos ⟨hd, he⟩]
    have := setF_le h
    rw [hi] at this
    exact Nat.le_trans this (takenF_len e r')
  · intro he
    have hi : (itemF c l).2.2 = d :: e :: r' := by
      unfold itemF
      rw [h1]
      simp only
      rw [if_neg (fun x => x.2 he)]
    rw [hi] at h
    have h2 := setF_step h (fun x => by omega)
    have ht : takenF d (e :: r') = (d, e :: r') := if_neg (by omega)
    have hj : (itemF d (e :: r')).2.2 = e :: r' := by
      unfold itemF
      rw [ht]
      cases r' with
      | nil => rfl
      | cons x y => simp only; rw [if_neg (fun x => by omega)]
    rw [hj] at h2
    unfold setF at h2
    simp only [List.length_cons] at h2
    rw [if_pos (by simp [he])] at h2
    rw [← (Prod.mk.inj h2).2]
    rfl
set_option maxHeartbeats 4000000 in
theorem member_any (w : World) (l : List UInt8) (k : Nat) (c0 : UInt8) (cs : List UInt8) (h : l.drop k = c0 :: cs) (hl : l.length ≤ 1000000) (g : Nat → Bool) (r : List UInt8) (hcf : closedF cs = some (g, r)) (E : Nat) (hEr : E + r.length = l.length) (x : UInt8) :
    Calls Try.prog 17 #[.string (BA l), .int .i64 (k : Int), .int .i64 (E : Int), .int .u8 (x.toNat : Int)] w fun e w' => e = .returned (.bool (g x.toNat)) ∧ w = w' := by
  obtain ⟨h1, h2, h3⟩ := drop_at h
  have hs := BA_size l
  obtain ⟨r0, nt, hr0⟩ : ∃ r0 nt, cutpF cs [33] = (r0, nt) := ⟨_, _, rfl⟩
  obtain ⟨fE, rE, hE⟩ : ∃ fE rE, setF r0.length true r0 noneF = (fE, rE) := ⟨_, _, rfl⟩
  obtain ⟨y, rfl, rfl⟩ : ∃ y, rE = y :: r ∧ (fun i => nt != fE i) = g := by
    unfold closedF at hcf
    simp only [hr0, hE] at hcf
    cases rE with
    | nil => cases hcf
    | cons y r' => simp only [Option.some.injEq, Prod.mk.injEq] at hcf; obtain ⟨rfl, rfl⟩ := hcf; exact ⟨y, rfl, rfl⟩
  have hcs : Hid (∃ c t, cs = c :: t ∧ (c.toNat = 33 ∧ r0 = t ∧ nt = true ∨ ¬ c.toNat = 33 ∧ r0 = c :: t ∧ nt = false)) := Lw.hid (by
    cases cs with
    | nil =>
      unfold cutpF at hr0; simp at hr0
      obtain ⟨hr0, _⟩ := hr0
      rw [hr0] at hE
      have := setF_le hE
      simp at this
    | cons c t =>
      refine ⟨c, t, rfl, ?_⟩
      by_cases hc : c.toNat = 33
      · left
        have hc' : c = 33 := UInt8.toNat_inj.1 hc
        subst hc'
        unfold cutpF at hr0
        simp at hr0
        exact ⟨rfl, hr0.1.symm, hr0.2⟩
      · right
        have hc' : ¬ c = 33 := fun e => hc (by rw [e]; rfl)
        unfold cutpF at hr0
        simp [hc'] at hr0
        exact ⟨hc, hr0.1.symm, hr0.2⟩)
  have HE := Lw.hid hE; have H2 := Lw.hid h2
  obtain ⟨n, hn⟩ : ∃ n, l.length = n := ⟨_, rfl⟩
  have HN := Lw.hid hn
  rw [hn] at hs h3 hl hEr
  have HER := Lw.hid hEr
  have HM : Hid ((y :: r).length = r.length + 1) := Lw.hid rfl
  have hE9 : E ≤ n := by omega
  have hE1 : 1 ≤ E := by
    obtain ⟨c, t, e1, e2⟩ := hcs.out
    have h5 := setF_le HE.out
    rw [e1, List.length_cons] at h3
    have h6 := HM.out
    rcases e2 with ⟨_, e, _⟩ | ⟨_, e, _⟩
    · rw [e] at h5; omega
    · have h7 : (c :: t).length = t.length + 1 := rfl
      rw [e] at h5; omega
  clear hn h h1 h2 hE hr0 hcf hEr
  have HH3 := Lw.hid h3
  have hk9 : k + 1 ≤ n := by omega
  clear h3
  go_enter Try.func17, Try.ntmps17
  go_upto_region 2 with fail
  go_cut [9] (fun s9 wx => s9 = .bool nt ∧ wx = w)
  case first =>
    obtain ⟨c, t, rfl, hc⟩ := hcs.out
    have g1 := BA_get (drop_at H2.out).1
    have hkn : k + 2 ≤ n := by have := HH3.out; simp at this; omega
    rcases hc with ⟨hc, rfl, rfl⟩ | ⟨hc, rfl, rfl⟩
    · have hb : ((c.toNat : Int) == 33) = true := by rw [hc]; rfl
      clear hc
      go_wp2_with fail
      go_meet
      case rel => exact ⟨rfl, rfl⟩
    · have hb : ((c.toNat : Int) == 33) = false := by simp; omega
      clear hc
      go_wp2_with fail
      go_meet
      case rel => exact ⟨rfl, rfl⟩
  case rest =>
    obtain ⟨rfl, rfl⟩ := hcut
    have hdr : Hid (∃ a : Nat, a + r0.length = n ∧ l.drop a = r0 ∧ (nt = true → a = k + 2) ∧ (nt = false → a = k + 1)) := Lw.hid (by
      obtain ⟨c, t, rfl, hc⟩ := hcs.out
      have h5 := HH3.out
      rw [List.length_cons] at h5
      rcases hc with ⟨hc, rfl, rfl⟩ | ⟨hc, rfl, rfl⟩
      · exact ⟨k + 2, by omega, (drop_at H2.out).2.1, fun _ => rfl, fun h => by cases h⟩
      · exact ⟨k + 1, by rw [List.length_cons]; omega, H2.out, fun h => (by cases h), fun _ => rfl⟩)
    obtain ⟨a0, q1, q2, q3, q4⟩ := hdr.out
    have HA0 := Lw.hid q1; have HD0 := Lw.hid q2; have HQ := Lw.hid (And.intro q3 q4)
    clear q1 q2 q3 q4 hdr hcs
    go_upto_if 20 with fail
    go_cut [1] (fun s1 wx => s1 = .int .i64 (a0 : Int) ∧ wx = wc)
    case first =>
      cases nt with
      | true =>
        obtain rfl := HQ.out.1 rfl
        go_wp2_with fail
        go_meet
        case rel => exact ⟨by go_num, rfl⟩
      | false =>
        obtain rfl := HQ.out.2 rfl
        go_wp2_with fail
        go_meet
        case rel => exact ⟨by go_num, rfl⟩
    case rest =>
      obtain ⟨rfl, rfl⟩ := hcut
      go_wp2_with fail
      go_loopg [1, 10] r0.length (fun gk s1 s10 wx => ∃ (a : Nat) (rr : List UInt8) (b : Bool) (f : Nat → Bool), gk = rr.length ∧ s1 = .int .i64 (a : Int) ∧ s10 = .bool (f x.toNat) ∧ a + rr.length = n ∧ l.drop a = rr ∧ setF rr.length b rr f = (fE, y :: r) ∧ wx = wc)
      case atStart => exact ⟨a0, r0, true, noneF, rfl, rfl, rfl, HA0.out, HD0.out, HE.out, rfl⟩
      case round =>
        obtain ⟨a, rr, b, f, rfl, rfl, rfl, ha, hd, he, rfl⟩ := hrel
        have HA := Lw.hid ha; have HD := Lw.hid hd; have HE1 := Lw.hid he
        have ha9 : a ≤ n := by omega
        clear ha hd he HE HD0 HA0 HQ
        by_cases hlen : rr.length ≤ (y :: r).length
        · have HF := Lw.hid (setF_done HE1.out (by simp) hlen)
          have hge : E ≤ a + 1 := by have := HA.out; have := HER.out; have := HM.out; omega
          clear hlen
          go_wp2_with fail
          go_ret
          exact ⟨by rw [HF.out]; cases nt <;> cases f x.toNat <;> rfl, rfl⟩
        · have hlt : a + 2 ≤ E := by have := HA.out; have := HER.out; have := HM.out; omega
          obtain ⟨c, t, rfl⟩ : ∃ c t, rr = c :: t := by
            cases rr with
            | nil => simp at hlen
            | cons c t => exact ⟨c, t, rfl⟩
          have hcl := setF_open HE1.out (by omega)
          have HSTEP := Lw.hid (setF_step HE1.out hcl)
          clear hlen hcl
          have hlt2 : a + 1 ≤ n := by omega
          have g0 := BA_get (drop_at HD.out).1
          obtain ⟨⟨a1, r1⟩, har⟩ : ∃ x, takenF c t = x := ⟨_, rfl⟩
          obtain ⟨N1, hN1⟩ : ∃ N1, takenN c t = N1 := ⟨_, rfl⟩
          have hT := takenN_drop HD.out
          rw [har, hN1] at hT
          simp only at hT
          have HAR := Lw.hid har; have HN1 := Lw.hid hN1
          have HD1 := Lw.hid hT.1
          have hn1 : a + N1 + r1.length = n := by have := HA.out; rw [List.length_cons] at this; omega
          have hil := itemF_len c t
          have hfar := fun d e r' => tst_far HSTEP.out d e r'
          rw [har] at hfar
          simp only at hfar
          have HFAR := Lw.hid hfar
          obtain ⟨⟨a', b2, r2⟩, hit⟩ : ∃ x, itemF c t = x := ⟨_, rfl⟩
          obtain rfl : a1 = a' := by
            have : (itemF c t).1 = (takenF c t).1 := by unfold itemF; split <;> (try split) <;> rfl
            rw [hit, har] at this; exact this.symm
          have HIT := Lw.hid hit
          rw [hit] at HSTEP hil
          simp only at HSTEP hil
          have HIL := Lw.hid hil
          have HLN : Hid ((c :: t).length = t.length + 1) := Lw.hid rfl
          have hna9 : a + N1 ≤ n := by omega
          obtain ⟨tt, ht⟩ : ∃ tt, tstF r1 = tt := ⟨_, rfl⟩
          have HTS := Lw.hid ht
          have htf : Hid ((tt = true → ∃ d e r', r1 = d :: e :: r' ∧ takenF e r' = (b2, r2)) ∧ (tt = false → b2 = a1 ∧ r2 = r1)) := Lw.hid (item_tst HAR.out HIT.out ht)
          have HN1L := Lw.hid hn1
          clear har hN1 hT hit HE1 hil hfar ht hn1
          go_wp2_with fail
          refine (byteAt_any _ l a c t HD.out (by rw [HN.out]; exact hl)).mono ?_
          rw [HAR.out, HN1.out]
          rintro e1 _ ⟨rfl, rfl⟩
          go_upto_region 10 with fail
          go_cut [47] (fun s47 wx => s47 = .bool tt ∧ wx = wr)
          case first =>
            have hq : (r1 = [] ∧ tt = false) ∨ (∃ d, r1 = [d] ∧ tt = false) ∨ ∃ d e r', r1 = d :: e :: r' ∧ tt = (decide (d.toNat = 45) && !decide (e.toNat = 93)) := by
              rcases r1 with _ | ⟨d, _ | ⟨e, r'⟩⟩
              · exact .inl ⟨rfl, HTS.out.symm⟩
              · exact .inr (.inl ⟨d, rfl, HTS.out.symm⟩)
              · exact .inr (.inr ⟨d, e, r', rfl, HTS.out.symm⟩)
            clear g0
            rcases hq with ⟨rfl, rfl⟩ | ⟨d, rfl, rfl⟩ | ⟨d, e, r', rfl, rfl⟩
            · have hz : E ≤ a + N1 + 2 := by have := HN1L.out; simp at this; omega
              go_wp2_with fail
              go_meet
              case rel => exact ⟨rfl, rfl⟩
            · have hz : E ≤ a + N1 + 2 := by have := HN1L.out; simp at this; omega
              go_wp2_with fail
              go_meet
              case rel => exact ⟨rfl, rfl⟩
            · have hz1 : a + N1 + 2 ≤ n := by have := HN1L.out; simp at this; omega
              have k0 := BA_get (drop_at HD1.out).1
              by_cases hd : d.toNat = 45
              · have hdb : ((d.toNat : Int) == 45) = true := by rw [hd]; rfl
                have hF := HFAR.out d e r' rfl hd
                by_cases he : e.toNat = 93
                · have hz : E ≤ a + N1 + 2 := by
                    have h1 := HN1L.out; have h2 := hF.2 he; have h3 := HER.out
                    simp only [List.length_cons] at h1 h2; omega
                  have HT : Hid ((decide (d.toNat = 45) && !decide (e.toNat = 93)) = false) := Lw.hid (by simp [he])
                  clear hd he hF
                  go_wp2_with fail
                  go_meet
                  case rel => exact ⟨by rw [HT.out], rfl⟩
                · have hz : a + N1 + 3 ≤ E := by
                    have h1 := HN1L.out; have h2 := hF.1 he; have h3 := HER.out
                    simp only [List.length_cons] at h1 h2; omega
                  have HT : Hid ((decide (d.toNat = 45) && !decide (e.toNat = 93)) = true) := Lw.hid (by simp [hd, he])
                  clear hd he hF
                  go_wp2_with fail
                  go_meet
                  case rel => exact ⟨by rw [HT.out], rfl⟩
              · have hdb : ((d.toNat : Int) == 45) = false := by simp; omega
                have HT : Hid ((decide (d.toNat = 45) && !decide (e.toNat = 93)) = false) := Lw.hid (by simp [hd])
                clear hd
                by_cases hz : a + N1 + 3 ≤ E
                · go_wp2_with fail
                  go_meet
                  case rel => exact ⟨by rw [HT.out], rfl⟩
                · have hz : E ≤ a + N1 + 2 := by omega
                  go_wp2_with fail
                  go_meet
                  case rel => exact ⟨by rw [HT.out], rfl⟩
          case rest =>
            obtain ⟨rfl, rfl⟩ := hcut
            go_upto_if 47 with fail
            go_cut [1, 13] (fun s1 s13 wx => ∃ a2 : Nat, s1 = .int .i64 (a2 : Int) ∧ s13 = .int .u8 (b2.toNat : Int) ∧ a2 + r2.length = n ∧ l.drop a2 = r2 ∧ wx = wc)
            case first =>
              cases tt with
              | false =>
                obtain ⟨rfl, rfl⟩ := htf.out.2 rfl
                go_wp2_with fail
                go_meet
                case rel => exact ⟨a + N1, by go_num, rfl, HN1L.out, HD1.out, rfl⟩
              | true =>
                obtain ⟨d, e, r', rfl, htk⟩ := htf.out.1 rfl
                have hT := takenN_drop (drop_at HD1.out).2.1
                rw [htk] at hT
                obtain ⟨N2, hN2⟩ : ∃ N2, takenN e r' = N2 := ⟨_, rfl⟩
                rw [hN2] at hT
                simp only at hT
                have HTK := Lw.hid htk; have HN2 := Lw.hid hN2
                have hz : a + N1 + 1 + N2 ≤ n := by have := HN1L.out; simp at this; omega
                have HZ : Hid (a + N1 + 1 + N2 + r2.length = n) := Lw.hid (by have := HN1L.out; simp at this; omega)
                have HD2 := Lw.hid hT.1
                clear htk hN2 hT g0
                go_wp2_with fail
                refine (byteAt_any _ l (a + N1 + 1) e r' (drop_at HD1.out).2.1 (by rw [HN.out]; exact hl)).mono ?_
                rw [HTK.out, HN2.out]
                rintro e2 _ ⟨rfl, rfl⟩
                go_wp2_with fail
                go_meet
                case rel => exact ⟨a + N1 + 1 + N2, by go_num, rfl, HZ.out, HD2.out, rfl⟩
            case rest =>
              obtain ⟨a2, rfl, rfl, ha2, hd2, rfl⟩ := hcut
              have HD2 := Lw.hid hd2; have HA2 := Lw.hid ha2
              have hx1 := a1.toNat_lt; have hx2 := b2.toNat_lt; have hx3 := x.toNat_lt
              clear hd2 ha2 g0
              by_cases hin : a1.toNat ≤ x.toNat ∧ x.toNat ≤ b2.toNat
              · obtain ⟨hi1, hi2⟩ := hin
                have HF : Hid (addR f a1.toNat b2.toNat x.toNat = true) := Lw.hid (by simp [addR, hi1, hi2])
                go_wp2_with fail
                go_roundg r2.length
                case measure => have h1 := HLN.out; have h2 := HIL.out; omega
                case rel => exact ⟨a2, r2, false, addR f a1.toNat b2.toNat, rfl, rfl, by rw [HF.out], HA2.out, HD2.out, HSTEP.out, rfl⟩
              · have HF : Hid (addR f a1.toNat b2.toNat x.toNat = f x.toNat) := Lw.hid (by
                  unfold addR
                  rw [← Bool.decide_and, decide_eq_false hin, Bool.or_false])
                by_cases hi1 : a1.toNat ≤ x.toNat
                · have hi2 : ¬ x.toNat ≤ b2.toNat := fun h => hin ⟨hi1, h⟩
                  clear hin
                  go_wp2_with fail
                  go_roundg r2.length
                  case measure => have h1 := HLN.out; have h2 := HIL.out; omega
                  case rel => exact ⟨a2, r2, false, addR f a1.toNat b2.toNat, rfl, rfl, by rw [HF.out], HA2.out, HD2.out, HSTEP.out, rfl⟩
                · clear hin
                  go_wp2_with fail
                  go_roundg r2.length
                  case measure => have h1 := HLN.out; have h2 := HIL.out; omega
                  case rel => exact ⟨a2, r2, false, addR f a1.toNat b2.toNat, rfl, rfl, by rw [HF.out], HA2.out, HD2.out, HSTEP.out, rfl⟩
end Go.Proofs.Ytkfoinphkjmlmaa
