/- ArithWorks: the machine's from and all. -/
import Derived.Test.YtoedopgjonhemaaGreatDoorWorks6
namespace Go.Proofs.YtoedopgjonhemaaGreatDoor
open Go Go.RowKit Go.Lw
set_option maxRecDepth 100000
set_option linter.unusedVariables false
set_option linter.unusedSimpArgs false
attribute [local go_sem] BA_toList
theorem lpD_len : ∀ (n k : Nat) (x : Ex) (d : Nat) (s : List UInt8) {y : Ex × List UInt8}, lpD n k x d s = .ok y → y.2.length ≤ s.length
  | 0, k, x, d, s, y, h => by cases h; exact Nat.le_refl _
  | n + 1, k, x, d, s, y, h => by
    unfold lpD at h
    split at h
    · cases h
    · rename_i z hz
      have h1 := rdA_len hz
      have h2 := lpD_len n k z.1 d z.2 h
      omega
/-- What stands at the front of what is left. -/
inductive FrontC (cur : List UInt8) (kk : Nat) (t r : List UInt8) : Prop where
  | sign (hk : kk = 3) (ht : tokSg t) (h0 : rk cur = rankF t) (h : rankF t ≠ 0 → t = signF (trimA cur) ∧ r = (trimA cur).drop (signF (trimA cur)).length)
  | other (hk : kk ≠ 3) (h0 : rk cur = 0)
theorem front_cases {cur : List UInt8} (h : trimA cur ≠ []) : ∃ kk t r, tokF cur = (kk, t) :: tokF r ∧ r.length < cur.length ∧ FrontC cur kk t r := by
  have hT := trimA_len cur
  have hpos : 1 ≤ (trimA cur).length := by
    cases hx : trimA cur with
    | nil => exact absurd hx h
    | cons _ _ => simp
  by_cases h3 : signF (trimA cur) = []
  · have h0 : rk cur = 0 := by unfold rk; rw [h3]; exact rank_nil
    by_cases h1 : (trimA cur).head?.any digitB = true
    · refine ⟨1, _, _, tok_num h1, ?_, .other (by decide) h0⟩
      cases hx : trimA cur with
      | nil => rw [hx] at h1; cases h1
      | cons c l =>
        rw [hx] at h1 hT
        have hd : digitB c = true := by simpa using h1
        rw [List.dropWhile_cons, if_pos hd]
        have := (List.dropWhile_sublist digitB (l := l)).length_le
        simp only [List.length_cons] at hT
        omega
    · have h1' : (trimA cur).head?.any digitB = false := by simpa using h1
      by_cases h2 : nameA (trimA cur) = []
      · exact ⟨3, _, _, tok_odd h h1' h2 h3, by rw [List.length_drop]; omega, .sign rfl (.inr rfl) (by rw [h0]; exact rank_odd.symm) (fun e => absurd rank_odd e)⟩
      · have hn := nameA_len (trimA cur)
        have hn1 : 1 ≤ (nameA (trimA cur)).length := by
          cases hx : nameA (trimA cur) with
          | nil => exact absurd hx h2
          | cons _ _ => simp
        exact ⟨2, _, _, tok_name h1' h2, by rw [List.length_drop]; omega, .other (by decide) h0⟩
  · have hl := signF_len h3
    refine ⟨3, _, _, tok_sign h3, by rw [List.length_drop]; omega, .sign rfl (.inl ?_) rfl (fun _ => ⟨rfl, rfl⟩)⟩
    rcases signF_in (trimA cur) with h' | h'
    · exact absurd h' h3
    · exact h'.1
theorem rk_end {cur : List UInt8} (h : trimA cur = []) : rk cur = 0 := by
  unfold rk
  rw [h, show signF [] = [] by decide +kernel]
  exact rank_nil
/-- The loop under way. -/
def LInv (L : List Tok) (env : List UInt8 → List UInt8) (k d sk wr : Nat) (lq : List (List UInt8)) (s : List UInt8) (R0 : Rx) (gk : Nat) (v at' d' sk' b' : Int) (wr' : Nat) (lq' : List (List UInt8)) : Prop :=
  (∃ er : Nat, R0 = .error er ∧ at' = (L.length : Int) ∧ b' = (er : Int)) ∨
  (∃ (x : Ex) (cur : List UInt8) (a : Nat), cur.length + 1 ≤ gk ∧ R0 = lpD (10 - k) k x d cur ∧ at' = (a : Int) ∧ d' = (d : Int) ∧ sk' = (sk : Int) ∧ b' = 0 ∧ EvP env x sk wr lq v wr' lq' ∧ a ≤ L.length ∧ L.drop a = tokF cur ∧ lq'.length + cur.length ≤ lq.length + s.length ∧ cur.length ≤ s.length)
section
variable {L : List Tok} {env : List UInt8 → List UInt8} {k d sk wr : Nat} {lq : List (List UInt8)} {s : List UInt8} {R0 : Rx} {v at' d' sk' b' : Int} {wr' : Nat} {lq' : List (List UInt8)}
theorem inv_start {R1 : Rx} (h : MCond L env d sk wr lq s R1 v at' d' sk' b' wr' lq') : LInv L env k d sk wr lq s (lpR k d R1) (s.length + 1) v at' d' sk' b' wr' lq' := by
  rcases h with ⟨er, rfl, h1, h2⟩ | ⟨y, a, rfl, h1, h2, h3, h4, h5, h6, h7, h8, h9⟩
  · exact .inl ⟨er, rfl, h1, h2⟩
  · exact .inr ⟨y.1, y.2, a, by omega, rfl, h1, h2, h3, h4, h5, h6, h7, h8, h9⟩
theorem inv_end {x : Ex} {cur : List UInt8} {a : Nat} (hk : k ≤ 10) (hr : rk cur ≤ k) (hR : R0 = lpD (10 - k) k x d cur) (h5 : EvP env x sk wr lq v wr' lq') (h6 : a ≤ L.length) (h7 : L.drop a = tokF cur) (h8 : lq'.length + cur.length ≤ lq.length + s.length) (h9 : cur.length ≤ s.length) : MCond L env d sk wr lq s R0 v (a : Int) (d : Int) (sk : Int) 0 wr' lq' := by
  obtain ⟨r, e1, e2⟩ := climb_end (x := x) (d := d) hk hr
  have hl := lpD_len _ _ _ _ _ e1
  simp only at hl
  exact .inr ⟨(x, r), a, hR.trans e1, rfl, rfl, rfl, rfl, h5, h6, by rw [h7, e2], by simp only; omega, by simp only; omega⟩
theorem inv_err {er : Nat} (hR : R0 = .error er) : MCond L env d sk wr lq s R0 v (L.length : Int) d' sk' (er : Int) wr' lq' := .inl ⟨er, hR, rfl, rfl⟩
/-- One more sign. -/
theorem inv_next {x : Ex} {cur r t : List UInt8} {sk2 wr1 wr3 : Nat} {lq1 : List (List UInt8)} {v1 v3 sk3 : Int} (hrk : k < rk cur) (ht : t = signF (trimA cur)) (hr : r = (trimA cur).drop (signF (trimA cur)).length) (hrl : r.length < cur.length)
    (hR : R0 = lpD (10 - k) k x d cur) (hev : EvP env x sk wr lq v1 wr1 lq1) (hs2 : sk2 = if notF t v1 = true then sk + 1 else sk)
    (hc : MCond L env d sk2 wr1 lq1 r (rdA (.row (rankF t)) d r) v at' d' sk' b' wr' lq') (hsk3 : sk' = (sk2 : Int) → sk3 = (sk : Int)) (hv3 : sk3 = (sk : Int) → v3 = (doR t sk v1 v wr').1 ∧ wr3 = (doR t sk v1 v wr').2)
    (h8 : lq1.length + cur.length ≤ lq.length + s.length) (h9 : cur.length ≤ s.length) : LInv L env k d sk wr lq s R0 cur.length v3 at' d' sk3 b' wr3 lq' := by
  have hcl := climb2 (x := x) (d := d) hrk
  rw [show rk cur = rankF t by rw [ht], ← ht] at hcl
  subst hr
  rw [← ht] at hc hrl
  rw [hcl] at hR
  rcases hc with ⟨er, he, h1, h2⟩ | ⟨y, a, hy, h1, h2, h3, h4, h5, h6, h7, h10, h11⟩
  · rw [he] at hR
    exact .inl ⟨er, hR, h1, h2⟩
  · rw [hy] at hR
    have e3 := hsk3 h3
    obtain ⟨e4, e5⟩ := hv3 e3
    refine .inr ⟨.bin t x y.1, y.2, a, by omega, hR, h1, h2, e3, h4, ?_, h6, h7, by omega, by omega⟩
    rw [e4, e5]
    exact ev_bin hev hs2 h5
end
theorem rank_quiet (w : World) (t : List UInt8) (ht : tokSg t) (n : Nat) : Calls Tryz.prog 40 #[.string (BA t)] (w.drewN n) fun e w'' => e = .returned (.int .i64 (rankF t : Int)) ∧ ∃ j, w'' = w.drewN j :=
  (rank_any _ t ht).mono (by rintro e _ ⟨rfl, rfl⟩; exact ⟨rfl, n, rfl⟩)
theorem dos_of {t : List UInt8} (h : tokSg t) (hr : rankF t ≠ 0) (h1 : t ≠ [38, 38]) (h2 : t ≠ [124, 124]) : t ∈ dosL := by
  unfold tokSg signsL at h
  simp only [List.mem_cons, List.not_mem_nil, or_false] at h
  rcases h with (rfl | rfl | rfl | rfl | rfl | rfl | rfl | rfl | rfl | rfl | rfl | rfl | rfl | rfl | rfl | rfl | rfl | rfl | rfl | rfl | rfl | rfl | rfl | rfl) | rfl <;> first | exact absurd rfl h1 | exact absurd rfl h2 | decide | exact absurd (by decide) hr
theorem doR_does {t : List UInt8} {sk : Nat} {sk3 : Int} (h1 : t ≠ [38, 38]) (h2 : t ≠ [124, 124]) (a b : Int) (wn : Nat) (e : sk3 = (sk : Int)) : (binF t a b).1 = (doR t sk a b wn).1 ∧ wrF sk3 wn (binF t a b).2 = (doR t sk a b wn).2 := by
  subst e
  unfold doR
  rw [if_neg h1, if_neg h2]
  refine ⟨rfl, ?_⟩
  unfold wrF
  by_cases h : sk = 0 ∧ wn = 0
  · rw [if_pos h, if_pos ⟨by omega, h.2⟩]
  · rw [if_neg h, if_neg (fun h' => h ⟨by omega, h'.2⟩)]
theorem skip_back {sk : Nat} {sk3 : Int} (h9 : sk ≤ 1000) (h : sk3 = ((sk + 1 : Nat) : Int)) : wrap64 (sk3 - 1) = (sk : Int) := by subst h; unfold wrap64; omega
set_option maxHeartbeats 16000000 in
theorem from_step (mb : Nat) (L : List Tok) (vL : Value) (V : List (List UInt8 × List UInt8)) (vV : Value) (n : Nat) (HO0 : COne mb L vL V vV n) (HF0 : ∀ m, m < n → CFrom mb L vL V vV m) : CFrom mb L vL V vV n := by
  intro k hk H w at_ d sk wn lq s hE hS hat hdr hsn hd hsk hlq
  rw [row_lp hk]
  obtain ⟨adL, capL, hvL, hcapL, _⟩ := hE.tok
  subst hvL
  obtain ⟨nl, hnl⟩ : ∃ nl, L.length = nl := ⟨_, rfl⟩
  have HNL := Lw.hid hnl
  have hnl9 := hE.nL
  rw [hnl] at hE hS HO0 HF0 hcapL hnl9 ⊢
  have hc1 := HO0 H w at_ d sk wn lq s hE hS hat hdr hsn hd hsk hlq
  obtain ⟨R1, hR1⟩ : ∃ R, rdA .one d s = R := ⟨_, rfl⟩
  rw [hR1] at hc1 ⊢
  obtain ⟨R0, hR0⟩ : ∃ R, lpR k d R1 = R := ⟨_, rfl⟩
  have HR0 := Lw.hid hR0
  rw [hR0]
  have HC1 := Lw.hid hc1; have HE := Lw.hid hE; have HF := Lw.hid HF0
  have hlt := hE.lt
  clear hc1 hE hS hR1 hR0 HO0 HF0 hdr hat hnl
  go_enter Tryz.func25, Tryz.ntmps25
  go_wp2_with fail
  refine HC1.out.mono ?_
  rintro x w1 ⟨⟨v, at1, d1, sk1, b1, wr1, lq1, rfl, hv, h1, hcond⟩, k1⟩
  have HI := Lw.hid (inv_start (k := k) hcond)
  rw [HR0.out] at HI
  have HV := Lw.hid hv; have H1 := Lw.hid h1; have K1 := Lw.hid k1
  clear hcond hv h1 k1 HC1
  go_wp2_with fail
  go_loopg [5] (s.length + 1) (fun gk s5 wx => ∃ (v at' d' sk' b' : Int) (wr' : Nat) (lq' : List (List UInt8)), s5 = .int .i64 v ∧ I64 v ∧ MS wx mb H (.slice adL nl capL) vV at' d' sk' b' wr' lq' ∧ KM mb H w wx ∧ LInv L (envV V) k d sk wn lq s R0 gk v at' d' sk' b' wr' lq')
  case atStart => exact ⟨v, at1, d1, sk1, b1, wr1, lq1, rfl, HV.out, H1.out, K1.out, HI.out⟩
  case round =>
    clear HV H1 K1 HI
    obtain ⟨v2, at2, d2, sk2, b2, wr2, lq2, rfl, hv, hS, hK, hinv⟩ := hrel
    have HE2 := Lw.hid (HE.out.kept hK)
    obtain ⟨ad, cap, hmc, hown, hblk⟩ := hS.st
    obtain ⟨ad0, cap0, hvL, _, htok⟩ := HE2.out.tok
    obtain rfl : ad0 = adL := by cases hvL; rfl
    clear hvL
    have hnl := HNL.out
    obtain ⟨⟨c0, c1, c2, c3, c4, c5, c6, c7⟩, f1, f2, f3, f4, f5, f7⟩ := hmc.cells
    have HS := Lw.hid hS; have HK := Lw.hid hK; have HV := Lw.hid hv; have HMC := Lw.hid hmc; have HOWN := Lw.hid hown; have HBLK := Lw.hid hblk
    have HFH := HF
    clear hS hK hv hmc hown hblk
    rcases hinv with ⟨er, hRe, hat2, hb2⟩ | ⟨x, cur, a, hgk, hRx, hat2, hd2, hsk2, hb2, hev, hal, hdr, hq1, hq2⟩
    · subst hb2
      have hat3 : at2 = (nl : Int) := by rw [hat2, hnl]
      have HR := Lw.hid hRe
      have hge : decide (at2 < (nl : Int)) = false := decide_eq_false (by omega)
      subst hat3
      have hge2 : decide ((nl : Int) < (nl : Int)) = false := decide_eq_false (by omega)
      clear htok hnl hRe
      go_wp2_with fail
      go_quiet (fail)
      go_wp2_with fail
      go_ret
      exact ⟨mp_of HV.out (HS.out.keep (kept_drewN' _ _)) (by rw [HR.out]; have := inv_err (L := L) (env := envV V) (d := d) (sk := sk) (wr := wn) (lq := lq) (s := s) (R0 := .error er) (er := er) (v := v2) (d' := d2) (sk' := sk2) (wr' := wr2) (lq' := lq2) rfl; rw [HNL.out] at this; exact this), HK.out.trans (kept_drewN' _ _) (fun _ _ h => h.elim)⟩
    · subst hat2
      subst hd2
      subst hsk2
      subst hb2
      rw [hnl] at hal
      have HEV := Lw.hid hev; have HRX := Lw.hid hRx
      by_cases hend : a = nl
      · subst hend
        have hnt : tokF cur = [] := by rw [← hdr]; exact List.drop_eq_nil_of_le (by rw [hnl]; exact Nat.le_refl _)
        have HCN := Lw.hid (inv_end (L := L) hk (by rw [rk_end (trim_ne_tok hnt)]; exact Nat.zero_le _) hRx hev (by rw [hnl]; exact Nat.le_refl _) hdr hq1 hq2)
        have hge : decide ((a : Int) < (a : Int)) = false := decide_eq_false (by omega)
        clear htok hnl hRx hev hdr hnt
        go_wp2_with fail
        go_quiet (fail)
        go_wp2_with fail
        go_ret
        exact ⟨mp_of HV.out (HS.out.keep (kept_drewN' _ _)) HCN.out, HK.out.trans (kept_drewN' _ _) (fun _ _ h => h.elim)⟩
      · have hT : trimA cur ≠ [] := fun e => hend (by
          have := drop_nil (hdr.trans (tok_end e)) (by rw [hnl]; exact hal)
          rw [hnl] at this; exact this)
        obtain ⟨kk, t, r, htk, hrl, hfr⟩ := front_cases hT
        obtain ⟨hLk, hdr2, hlt2⟩ := drop_cons (hdr.trans htk)
        rw [hnl] at hlt2
        obtain ⟨g0, off, hadL, t0, t1⟩ := htok a _ hLk
        subst hadL
        simp only at t0 t1
        have HDR := Lw.hid hdr2
        have hge : decide ((a : Int) < (nl : Int)) = true := decide_eq_true (by omega)
        rcases hfr with ⟨hk3, hsg, h0, hh⟩ | ⟨hk3, h0⟩
        · subst hk3
          by_cases hrk : k + 1 ≤ rankF t
          · have HSG := Lw.hid hsg
            have HT := Lw.hid (hh (by omega))
            have HRK : Hid (k < rk cur) := Lw.hid (by rw [h0]; omega)
            have HDN : Hid (rankF t ≠ 0) := Lw.hid (by omega)
            have hrk2 : ((k + 1 : Nat) : Int) ≤ (rankF t : Int) := by omega
            have hrk3 : (k : Int) + 1 ≤ (rankF t : Int) := by omega
            have HQ := Lw.hid (rank_quiet wr t hsg)
            clear htok hnl hRx hev hdr hT htk hLk hdr2 hh h0 hsg
            go_wp2_with fail
            go_quiet (first | (go_at_call 40; exact HQ.out _))
            obtain ⟨wq, hwq⟩ : ∃ wq, wr.drewN nq = wq := ⟨_, rfl⟩
            have KQ : Hid (Kept (fun _ => False) wr wq) := Lw.hid (by rw [← hwq]; exact kept_drewN' _ _)
            rw [hwq]
            clear hwq
            obtain ⟨⟨e0, e1, e2, e3, e4, e5, e6, e7⟩, j1, j2, j3, j4, j5, j7⟩ := (HMC.out.kept KQ.out (fun h => h)).cells
            have t0q := KQ.out.cell t0 (fun h => h); have t1q := KQ.out.cell t1 (fun h => h)
            go_wp2_with fail
            go_quiet (fail)
            obtain ⟨w4, hw4⟩ : ∃ w4, wq.drewN nq = w4 := ⟨_, rfl⟩
            have K4 : Hid (Kept (fun _ => False) wr w4) := Lw.hid (by rw [← hw4]; exact KQ.out.trans (kept_drewN' _ _) (fun _ _ h => h))
            rw [hw4]
            obtain ⟨w5, hw5⟩ : ∃ w5, w4.setCell ⟨mb, 1, none⟩ (.int .i64 ((a : Int) + 1)) = w5 := ⟨_, rfl⟩
            have hm5 : MC w5 mb (.slice (some ⟨g0, off, none⟩) nl capL) vV (.slice ad lq2.length cap) ((a + 1 : Nat) : Int) (d : Int) (sk : Int) 0 (wr2 : Int) := by rw [← hw5]; exact (HMC.out.kept K4.out (fun h => h)).setAt _
            have K5 : Hid (KB mb wr w5) := Lw.hid (by rw [← hw5]; exact KB.set (mb := mb) (K4.out.mono (fun _ _ h => h.elim)) 1 _)
            clear e0 e1 e2 e3 e4 e5 e6 e7 j1 j2 j3 j4 j5 j7 t0q t1q t0 t1 c0 c1 c2 c3 c4 c5 c6 c7 f1 f2 f3 f4 f5 f7 HQ hge hw4
            obtain ⟨⟨e0, e1, e2, e3, e4, e5, e6, e7⟩, j1, j2, j3, j4, j5, j7⟩ := (HMC.out.kept K4.out (fun h => h)).cells
            obtain ⟨rkN, hrkN⟩ : ∃ z, rankF t = z := ⟨_, rfl⟩
            have HRN := Lw.hid hrkN
            have hrk10 : rkN ≤ 10 := by rw [← hrkN]; exact rank_le t
            clear hrk hrk2 hrk3 hrkN
            by_cases hta : t = [38, 38]
            · subst hta
              by_cases hvz : v2 = 0
              · have hz0 : (v2 == 0) = true := by simp [hvz]
                have hz1 : (v2 != 0) = false := by simp [hvz]
                clear hvz
                have HM5 : Hid (MC w5 mb (.slice (some ⟨g0, off, none⟩) nl capL) vV (.slice ad lq2.length cap) ((a + 1 : Nat) : Int) (d : Int) (sk : Int) 0 (wr2 : Int)) := Lw.hid hm5
                obtain ⟨⟨u0, u1, u2, u3, u4, u5, u6, u7⟩, i1, i2, i3, i4, i5, i7⟩ := hm5.cells
                obtain ⟨w6, hw6⟩ : ∃ w6, w5.setCell ⟨mb, 3, none⟩ (.int .i64 ((sk : Int) + 1)) = w6 := ⟨_, rfl⟩
                have HM6 : Hid (MC w6 mb (.slice (some ⟨g0, off, none⟩) nl capL) vV (.slice ad lq2.length cap) ((a + 1 : Nat) : Int) (d : Int) ((sk + 1 : Nat) : Int) 0 (wr2 : Int)) := Lw.hid (by rw [← hw6]; exact HM5.out.setS _)
                have K6 : Hid (KB mb wr w6) := Lw.hid (by rw [← hw6]; exact K5.out.set 3 _)
                have HS6 := Lw.hid (MS.turn HM6.out HOWN.out HBLK.out K6.out hlt.1)
                have HE6 := Lw.hid (HE2.out.kept (KB.km K6.out))
                have HC6 : Hid (Calls Tryz.prog 25 #[.pointer (some ⟨mb, 0, none⟩), .int .i64 ((rkN : Int) + 1)] w6 fun e w' => MPost mb H L (.slice (some ⟨g0, off, none⟩) nl capL) vV (envV V) d (sk + 1) wr2 lq2 r (rdA (.row rkN) d r) e w' ∧ KM mb H w6 w') := Lw.hid (HFH.out (n - 1) (by omega) rkN hrk10 H w6 (a + 1) d (sk + 1) wr2 lq2 r HE6.out HS6.out (by rw [HNL.out]; exact hlt2) HDR.out (by omega) hd (by omega) (by omega))
                have HQK := Lw.hid (rank_any w6 [38, 38] HSG.out)
                rw [HRN.out] at HQK
                clear hm5
                go_wp2_with fail
                refine HQK.out.mono ?_
                rintro x w7 ⟨rfl, h7⟩
                subst h7
                go_wp2_with fail
                refine HC6.out.mono ?_
                rintro x w8 ⟨⟨b, at3, d3, sk3, b3, wr3, lq3, rfl, hvb, h8, hcond⟩, k8⟩
                have HVB := Lw.hid hvb; have HCO := Lw.hid hcond
                have K8 := Lw.hid (HK.out.tr ((KB.km K6.out).tr k8))
                obtain ⟨ad8, cap8, hm8, ho8, hb8⟩ := h8.st
                have HM8 := Lw.hid hm8; have HO8 := Lw.hid ho8; have HB8 := Lw.hid hb8
                obtain ⟨⟨p0, p1, p2, p3, p4, p5, p6, p7⟩, r1, r2, r3, r4, r5, r7⟩ := hm8.cells
                have HM9 := Lw.hid (hm8.setS (wrap64 (sk3 - 1)))
                have HS9 := Lw.hid (MS.turn HM9.out ho8 hb8 ((KB.refl mb w8).set 3 _) hlt.1)
                have K9 := Lw.hid (K8.out.set 3 (.int .i64 (wrap64 (sk3 - 1))))
                clear hvb hcond h8 k8 hm8 ho8 hb8
                go_wp2_with fail
                refine (so_any _ _).mono ?_
                rintro x w9 ⟨rfl, h9⟩
                subst h9
                go_wp2_with fail
                go_roundg cur.length
                case measure => omega
                case rel => exact ⟨_, at3, d3, (wrap64 (sk3 - 1)), b3, wr3, lq3, rfl, truthI_in _, HS9.out, K9.out, inv_next HRK.out HT.out.1 HT.out.2 hrl HRX.out HEV.out (by rw [show notF [38, 38] v2 = true by unfold notF; first | (rw [hz0]; rfl) | (rw [hz1]; rfl) | (rw [hz0, hz1]; rfl)]; rfl) (by have := HCO.out; rw [← HRN.out] at this; exact this) (fun e => skip_back (by omega) e) (fun _ => ⟨by show truthI _ = truthI _; rw [hz1]; rfl, rfl⟩) hq1 hq2⟩
              · have hz0 : (v2 == 0) = false := by simp [hvz]
                have hz1 : (v2 != 0) = true := by simp [hvz]
                clear hvz
                have HM5 : Hid (MC w5 mb (.slice (some ⟨g0, off, none⟩) nl capL) vV (.slice ad lq2.length cap) ((a + 1 : Nat) : Int) (d : Int) (sk : Int) 0 (wr2 : Int)) := Lw.hid hm5
                obtain ⟨⟨u0, u1, u2, u3, u4, u5, u6, u7⟩, i1, i2, i3, i4, i5, i7⟩ := hm5.cells
                obtain ⟨w6, hw6⟩ : ∃ w6, w5 = w6 := ⟨_, rfl⟩
                subst hw6
                have HM6 := HM5
                have K6 := K5
                have HS6 := Lw.hid (MS.turn HM6.out HOWN.out HBLK.out K6.out hlt.1)
                have HE6 := Lw.hid (HE2.out.kept (KB.km K6.out))
                have HC6 : Hid (Calls Tryz.prog 25 #[.pointer (some ⟨mb, 0, none⟩), .int .i64 ((rkN : Int) + 1)] w5 fun e w' => MPost mb H L (.slice (some ⟨g0, off, none⟩) nl capL) vV (envV V) d sk wr2 lq2 r (rdA (.row rkN) d r) e w' ∧ KM mb H w5 w') := Lw.hid (HFH.out (n - 1) (by omega) rkN hrk10 H w5 (a + 1) d sk wr2 lq2 r HE6.out HS6.out (by rw [HNL.out]; exact hlt2) HDR.out (by omega) hd (by omega) (by omega))
                have HQK := Lw.hid (rank_any w5 [38, 38] HSG.out)
                rw [HRN.out] at HQK
                clear hm5
                go_wp2_with fail
                refine HQK.out.mono ?_
                rintro x w7 ⟨rfl, h7⟩
                subst h7
                go_wp2_with fail
                refine HC6.out.mono ?_
                rintro x w8 ⟨⟨b, at3, d3, sk3, b3, wr3, lq3, rfl, hvb, h8, hcond⟩, k8⟩
                have HVB := Lw.hid hvb; have HCO := Lw.hid hcond
                have K8 := Lw.hid (HK.out.tr ((KB.km K6.out).tr k8))
                obtain ⟨ad8, cap8, hm8, ho8, hb8⟩ := h8.st
                have HM8 := Lw.hid hm8; have HO8 := Lw.hid ho8; have HB8 := Lw.hid hb8
                obtain ⟨⟨p0, p1, p2, p3, p4, p5, p6, p7⟩, r1, r2, r3, r4, r5, r7⟩ := hm8.cells
                have HS9 := Lw.hid h8
                have K9 := K8
                clear hvb hcond h8 k8 hm8 ho8 hb8
                go_wp2_with fail
                refine (so_any _ _).mono ?_
                rintro x w9 ⟨rfl, h9⟩
                subst h9
                go_wp2_with fail
                go_roundg cur.length
                case measure => omega
                case rel => exact ⟨_, at3, d3, sk3, b3, wr3, lq3, rfl, truthI_in _, HS9.out, K9.out, inv_next HRK.out HT.out.1 HT.out.2 hrl HRX.out HEV.out (by rw [show notF [38, 38] v2 = false by unfold notF; first | (rw [hz0]; rfl) | (rw [hz1]; rfl) | (rw [hz0, hz1]; rfl)]; rfl) (by have := HCO.out; rw [← HRN.out] at this; exact this) (fun e => e) (fun _ => ⟨by show truthI _ = truthI _; rw [hz1]; rfl, rfl⟩) hq1 hq2⟩
            · by_cases hto : t = [124, 124]
              · subst hto
                by_cases hvz : v2 = 0
                · have hz0 : (v2 == 0) = true := by simp [hvz]
                  have hz1 : (v2 != 0) = false := by simp [hvz]
                  clear hvz
                  have HM5 : Hid (MC w5 mb (.slice (some ⟨g0, off, none⟩) nl capL) vV (.slice ad lq2.length cap) ((a + 1 : Nat) : Int) (d : Int) (sk : Int) 0 (wr2 : Int)) := Lw.hid hm5
                  obtain ⟨⟨u0, u1, u2, u3, u4, u5, u6, u7⟩, i1, i2, i3, i4, i5, i7⟩ := hm5.cells
                  obtain ⟨w6, hw6⟩ : ∃ w6, w5 = w6 := ⟨_, rfl⟩
                  subst hw6
                  have HM6 := HM5
                  have K6 := K5
                  have HS6 := Lw.hid (MS.turn HM6.out HOWN.out HBLK.out K6.out hlt.1)
                  have HE6 := Lw.hid (HE2.out.kept (KB.km K6.out))
                  have HC6 : Hid (Calls Tryz.prog 25 #[.pointer (some ⟨mb, 0, none⟩), .int .i64 ((rkN : Int) + 1)] w5 fun e w' => MPost mb H L (.slice (some ⟨g0, off, none⟩) nl capL) vV (envV V) d sk wr2 lq2 r (rdA (.row rkN) d r) e w' ∧ KM mb H w5 w') := Lw.hid (HFH.out (n - 1) (by omega) rkN hrk10 H w5 (a + 1) d sk wr2 lq2 r HE6.out HS6.out (by rw [HNL.out]; exact hlt2) HDR.out (by omega) hd (by omega) (by omega))
                  have HQK := Lw.hid (rank_any w5 [124, 124] HSG.out)
                  rw [HRN.out] at HQK
                  clear hm5
                  go_wp2_with fail
                  refine HQK.out.mono ?_
                  rintro x w7 ⟨rfl, h7⟩
                  subst h7
                  go_wp2_with fail
                  refine HC6.out.mono ?_
                  rintro x w8 ⟨⟨b, at3, d3, sk3, b3, wr3, lq3, rfl, hvb, h8, hcond⟩, k8⟩
                  have HVB := Lw.hid hvb; have HCO := Lw.hid hcond
                  have K8 := Lw.hid (HK.out.tr ((KB.km K6.out).tr k8))
                  obtain ⟨ad8, cap8, hm8, ho8, hb8⟩ := h8.st
                  have HM8 := Lw.hid hm8; have HO8 := Lw.hid ho8; have HB8 := Lw.hid hb8
                  obtain ⟨⟨p0, p1, p2, p3, p4, p5, p6, p7⟩, r1, r2, r3, r4, r5, r7⟩ := hm8.cells
                  have HS9 := Lw.hid h8
                  have K9 := K8
                  clear hvb hcond h8 k8 hm8 ho8 hb8
                  go_wp2_with fail
                  refine (so_any _ _).mono ?_
                  rintro x w9 ⟨rfl, h9⟩
                  subst h9
                  go_wp2_with fail
                  go_roundg cur.length
                  case measure => omega
                  case rel => exact ⟨_, at3, d3, sk3, b3, wr3, lq3, rfl, truthI_in _, HS9.out, K9.out, inv_next HRK.out HT.out.1 HT.out.2 hrl HRX.out HEV.out (by rw [show notF [124, 124] v2 = false by unfold notF; first | (rw [hz0]; rfl) | (rw [hz1]; rfl) | (rw [hz0, hz1]; rfl)]; rfl) (by have := HCO.out; rw [← HRN.out] at this; exact this) (fun e => e) (fun _ => ⟨by show truthI _ = truthI _; rw [hz1]; rfl, rfl⟩) hq1 hq2⟩
                · have hz0 : (v2 == 0) = false := by simp [hvz]
                  have hz1 : (v2 != 0) = true := by simp [hvz]
                  clear hvz
                  have HM5 : Hid (MC w5 mb (.slice (some ⟨g0, off, none⟩) nl capL) vV (.slice ad lq2.length cap) ((a + 1 : Nat) : Int) (d : Int) (sk : Int) 0 (wr2 : Int)) := Lw.hid hm5
                  obtain ⟨⟨u0, u1, u2, u3, u4, u5, u6, u7⟩, i1, i2, i3, i4, i5, i7⟩ := hm5.cells
                  obtain ⟨w6, hw6⟩ : ∃ w6, w5.setCell ⟨mb, 3, none⟩ (.int .i64 ((sk : Int) + 1)) = w6 := ⟨_, rfl⟩
                  have HM6 : Hid (MC w6 mb (.slice (some ⟨g0, off, none⟩) nl capL) vV (.slice ad lq2.length cap) ((a + 1 : Nat) : Int) (d : Int) ((sk + 1 : Nat) : Int) 0 (wr2 : Int)) := Lw.hid (by rw [← hw6]; exact HM5.out.setS _)
                  have K6 : Hid (KB mb wr w6) := Lw.hid (by rw [← hw6]; exact K5.out.set 3 _)
                  have HS6 := Lw.hid (MS.turn HM6.out HOWN.out HBLK.out K6.out hlt.1)
                  have HE6 := Lw.hid (HE2.out.kept (KB.km K6.out))
                  have HC6 : Hid (Calls Tryz.prog 25 #[.pointer (some ⟨mb, 0, none⟩), .int .i64 ((rkN : Int) + 1)] w6 fun e w' => MPost mb H L (.slice (some ⟨g0, off, none⟩) nl capL) vV (envV V) d (sk + 1) wr2 lq2 r (rdA (.row rkN) d r) e w' ∧ KM mb H w6 w') := Lw.hid (HFH.out (n - 1) (by omega) rkN hrk10 H w6 (a + 1) d (sk + 1) wr2 lq2 r HE6.out HS6.out (by rw [HNL.out]; exact hlt2) HDR.out (by omega) hd (by omega) (by omega))
                  have HQK := Lw.hid (rank_any w6 [124, 124] HSG.out)
                  rw [HRN.out] at HQK
                  clear hm5
                  go_wp2_with fail
                  refine HQK.out.mono ?_
                  rintro x w7 ⟨rfl, h7⟩
                  subst h7
                  go_wp2_with fail
                  refine HC6.out.mono ?_
                  rintro x w8 ⟨⟨b, at3, d3, sk3, b3, wr3, lq3, rfl, hvb, h8, hcond⟩, k8⟩
                  have HVB := Lw.hid hvb; have HCO := Lw.hid hcond
                  have K8 := Lw.hid (HK.out.tr ((KB.km K6.out).tr k8))
                  obtain ⟨ad8, cap8, hm8, ho8, hb8⟩ := h8.st
                  have HM8 := Lw.hid hm8; have HO8 := Lw.hid ho8; have HB8 := Lw.hid hb8
                  obtain ⟨⟨p0, p1, p2, p3, p4, p5, p6, p7⟩, r1, r2, r3, r4, r5, r7⟩ := hm8.cells
                  have HM9 := Lw.hid (hm8.setS (wrap64 (sk3 - 1)))
                  have HS9 := Lw.hid (MS.turn HM9.out ho8 hb8 ((KB.refl mb w8).set 3 _) hlt.1)
                  have K9 := Lw.hid (K8.out.set 3 (.int .i64 (wrap64 (sk3 - 1))))
                  clear hvb hcond h8 k8 hm8 ho8 hb8
                  go_wp2_with fail
                  refine (so_any _ _).mono ?_
                  rintro x w9 ⟨rfl, h9⟩
                  subst h9
                  go_wp2_with fail
                  go_roundg cur.length
                  case measure => omega
                  case rel => exact ⟨_, at3, d3, (wrap64 (sk3 - 1)), b3, wr3, lq3, rfl, truthI_in _, HS9.out, K9.out, inv_next HRK.out HT.out.1 HT.out.2 hrl HRX.out HEV.out (by rw [show notF [124, 124] v2 = true by unfold notF; first | (rw [hz0]; rfl) | (rw [hz1]; rfl) | (rw [hz0, hz1]; rfl)]; rfl) (by have := HCO.out; rw [← HRN.out] at this; exact this) (fun e => skip_back (by omega) e) (fun _ => ⟨by show truthI _ = truthI _; rw [hz1]; rfl, rfl⟩) hq1 hq2⟩
              · have HN : Hid (t ≠ [38, 38] ∧ t ≠ [124, 124]) := Lw.hid ⟨hta, hto⟩
                have HDOS := Lw.hid (dos_of HSG.out HDN.out hta hto)
                replace hta : (t == [38, 38]) = false := beq_eq_false_iff_ne.2 hta
                replace hto : (t == [124, 124]) = false := beq_eq_false_iff_ne.2 hto
                have HM5 : Hid (MC w5 mb (.slice (some ⟨g0, off, none⟩) nl capL) vV (.slice ad lq2.length cap) ((a + 1 : Nat) : Int) (d : Int) (sk : Int) 0 (wr2 : Int)) := Lw.hid hm5
                obtain ⟨⟨u0, u1, u2, u3, u4, u5, u6, u7⟩, i1, i2, i3, i4, i5, i7⟩ := hm5.cells
                obtain ⟨w6, hw6⟩ : ∃ w6, w5 = w6 := ⟨_, rfl⟩
                subst hw6
                have HM6 := HM5
                have K6 := K5
                have HS6 := Lw.hid (MS.turn HM6.out HOWN.out HBLK.out K6.out hlt.1)
                have HE6 := Lw.hid (HE2.out.kept (KB.km K6.out))
                have HC6 : Hid (Calls Tryz.prog 25 #[.pointer (some ⟨mb, 0, none⟩), .int .i64 ((rkN : Int) + 1)] w5 fun e w' => MPost mb H L (.slice (some ⟨g0, off, none⟩) nl capL) vV (envV V) d sk wr2 lq2 r (rdA (.row rkN) d r) e w' ∧ KM mb H w5 w') := Lw.hid (HFH.out (n - 1) (by omega) rkN hrk10 H w5 (a + 1) d sk wr2 lq2 r HE6.out HS6.out (by rw [HNL.out]; exact hlt2) HDR.out (by omega) hd (by omega) (by omega))
                have HQK := Lw.hid (rank_any w5 t HSG.out)
                rw [HRN.out] at HQK
                clear hm5
                go_wp2_with fail
                refine HQK.out.mono ?_
                rintro x w7 ⟨rfl, h7⟩
                subst h7
                go_wp2_with fail
                refine HC6.out.mono ?_
                rintro x w8 ⟨⟨b, at3, d3, sk3, b3, wr3, lq3, rfl, hvb, h8, hcond⟩, k8⟩
                have HVB := Lw.hid hvb; have HCO := Lw.hid hcond
                have K8 := Lw.hid (HK.out.tr ((KB.km K6.out).tr k8))
                obtain ⟨ad8, cap8, hm8, ho8, hb8⟩ := h8.st
                have HM8 := Lw.hid hm8; have HO8 := Lw.hid ho8; have HB8 := Lw.hid hb8
                obtain ⟨⟨p0, p1, p2, p3, p4, p5, p6, p7⟩, r1, r2, r3, r4, r5, r7⟩ := hm8.cells
                have HS9 := Lw.hid h8
                have K9 := K8
                clear hvb hcond h8 k8 hm8 ho8 hb8
                have HDO := Lw.hid (does_any w8 t HDOS.out mb H _ _ _ _ _ _ _ wr3 v2 b HM8.out HV.out HVB.out)
                go_wp2_with fail
                refine HDO.out.mono ?_
                rintro x w9 ⟨rfl, h9, k9⟩
                have HSA := Lw.hid (MS.turn h9 HO8.out HB8.out k9 hlt.1)
                have KA := Lw.hid (K9.out.tr (KB.km k9))
                clear h9 k9
                go_wp2_with fail
                go_roundg cur.length
                case measure => omega
                case rel => exact ⟨_, at3, d3, sk3, b3, _, lq3, rfl, binF_in _ HV.out HVB.out, HSA.out, KA.out, inv_next HRK.out HT.out.1 HT.out.2 hrl HRX.out HEV.out (by rw [show notF t v2 = false by unfold notF; rw [hta, hto]; rfl]; rfl) (by have := HCO.out; rw [← HRN.out] at this; exact this) (fun e => e) (fun e => doR_does HN.out.1 HN.out.2 _ _ _ e) hq1 hq2⟩
          · have hrk2 : ¬ ((k + 1 : Nat) : Int) ≤ (rankF t : Int) := by omega
            have hrk3 : ¬ (k : Int) + 1 ≤ (rankF t : Int) := by omega
            have HQ := Lw.hid (rank_quiet wr t hsg)
            have HCN := Lw.hid (inv_end (L := L) hk (by rw [h0]; omega) hRx hev (by rw [hnl]; exact hal) hdr hq1 hq2)
            clear htok hnl hRx hev hdr hT htk hLk hdr2 hh h0 hsg
            go_wp2_with fail
            go_quiet (first | (go_at_call 40; exact HQ.out _))
            go_wp2_with fail
            go_ret
            exact ⟨mp_of HV.out (HS.out.keep (kept_drewN' _ _)) HCN.out, HK.out.trans (kept_drewN' _ _) (fun _ _ h => h.elim)⟩
        · have hb3 : ((kk : Int) == 3) = false := beq_eq_false_iff_ne.2 (by omega)
          have HCN := Lw.hid (inv_end (L := L) hk (by rw [h0]; exact Nat.zero_le _) hRx hev (by rw [hnl]; exact hal) hdr hq1 hq2)
          clear htok hnl hRx hev hdr hT htk hLk hdr2 h0
          go_wp2_with fail
          go_quiet (fail)
          go_wp2_with fail
          go_ret
          exact ⟨mp_of HV.out (HS.out.keep (kept_drewN' _ _)) HCN.out, HK.out.trans (kept_drewN' _ _) (fun _ _ h => h.elim)⟩
end Go.Proofs.YtoedopgjonhemaaGreatDoor
