/- pattern.Match, walked. -/
import Derived.Test.YtkfoinphkjmlmaaPiecesW
import Derived.Test.YtkfoinphkjmlmaaMatchP
import Derived.WalkMore
import Derived.Deep.DeepCutAuto
import Derived.Deep.LoopGhost
namespace Go.Proofs.Ytkfoinphkjmlmaa
open Go Go.RowKit Go.Lw
set_option maxRecDepth 100000
set_option linter.unusedVariables false
attribute [local go_sem] BA_toList
/-- A piece, where it lies. -/
theorem PRel.at {w wx : World} {a : Option Addr} {n c : Nat} {xs : List PcV} (h : PRel w wx (.slice a n c) xs) (k : Nat) (p : Pc) (hk : (xs.map PcV.p)[k]? = some p) :
    ∃ g x, a = some ⟨g, 0, none⟩ ∧ wx.cell? ⟨g, k * 3, none⟩ = some (.bool p.any) ∧ wx.cell? ⟨g, k * 3 + 1, none⟩ = some (.pointer x) ∧ wx.cell? ⟨g, k * 3 + 2, none⟩ = some (.bool p.own) ∧
      (p.any = false → ∃ gs, x = some ⟨gs, 0, none⟩ ∧ SetAt wx gs p.f) := by
  have hkl : k < xs.length := by
    rcases Nat.lt_or_ge k xs.length with h | h
    · exact h
    · rw [List.getElem?_eq_none (by simpa using h)] at hk; cases hk
  rw [List.getElem?_map, List.getElem?_eq_getElem hkl] at hk
  obtain rfl := Option.some.inj hk
  obtain ⟨a', c', e, _, _, hg⟩ := own_slice h.own
  obtain ⟨g, rfl⟩ := hg (by omega)
  have ea : a = some ⟨g, 0, none⟩ := by injection e
  have en : n = xs.length := by injection e
  subst ea; subst en
  have hc : ∀ j, j < 3 → wx.cell? ⟨g, k * 3 + j, none⟩ = (xs[k].cells)[j]? := fun j hj => by
    rw [h.own.cellAt (k * 3 + j) (by have := Nat.mul_le_mul_right 3 (show k + 1 ≤ xs.length from hkl); omega)]
    exact flatMap_get PcV.cells 3 xs (fun _ _ => rfl) k hkl j hj
  have h0 := hc 0 (by decide); have h1 := hc 1 (by decide); have h2 := hc 2 (by decide)
  exact ⟨g, xs[k].g, rfl, h0, h1, h2, fun ha => (h.ok xs[k] (List.getElem_mem hkl)).1 ha⟩
set_option maxHeartbeats 8000000 in
theorem match_any (w : World) (p s : List UInt8) (hp : p.length ≤ 100000) (hs : s.length ≤ 100000) :
    Calls Try.prog 15 #[.string (BA p), .string (BA s)] w fun e w' => e = .returned (.bool (matchF p s)) ∧ Kept (fun _ => False) w w' := by
  go_enter Try.func15, Try.ntmps15
  go_wp2_with fail
  go_step3
  go_wp2_with fail
  refine (pieces_any w p hp).mono ?_
  rintro e w1 ⟨v, xs, rfl, hpr, hxs⟩
  obtain ⟨a, c, rfl, hc1, hc2, _⟩ := own_slice hpr.own
  obtain ⟨L, hL⟩ : ∃ L, piecesF p.length p = L := ⟨_, rfl⟩
  rw [hL] at hxs
  obtain ⟨N, hN⟩ : ∃ N, xs.length = N := ⟨_, rfl⟩
  have hLN : L.length = N := by rw [← hxs, List.length_map, hN]
  have HL := Lw.hid hL; have HXS := Lw.hid hxs; have HN := Lw.hid hN; have HLN := Lw.hid hLN
  rw [hN] at hpr hc1 ⊢
  have HPR := Lw.hid hpr
  unfold maxLen at hc2
  clear hL hxs hN hLN hpr
  have hsz := BA_size s
  obtain ⟨n, hn⟩ : ∃ n, s.length = n := ⟨_, rfl⟩
  have HNS := Lw.hid hn
  rw [hn] at hsz hs
  clear hn
  obtain ⟨b, hb⟩ : ∃ b, (s.take [46].length == [46]) = b := ⟨_, rfl⟩
  have HB := Lw.hid hb
  clear hb
  obtain ⟨dt, hdt⟩ : ∃ dt, dotF L s = dt := ⟨_, rfl⟩
  have HDT := Lw.hid hdt
  clear hdt
  go_upto_region 2 with fail
  go_cut [35] (fun s35 wx => s35 = .bool (!dt) ∧ wx = w1)
  case first =>
    go_wp2_with fail
    refine (hasp_any w1 s [46] (by rw [HNS.out]; omega) (by decide) b HB.out).mono ?_
    rintro e _ ⟨rfl, rfl⟩
    have hbs : Hid ((b = true → ∃ c0 s', s = c0 :: s' ∧ c0.toNat = 46) ∧ (b = false → dotF L s = true)) := Lw.hid (by
      have hb := HB.out
      cases s with
      | nil => exact ⟨fun h => (by rw [h] at hb; simp at hb), fun _ => rfl⟩
      | cons c0 s' =>
        refine ⟨fun h => ⟨c0, s', rfl, ?_⟩, fun h => ?_⟩
        · rw [h] at hb
          simp at hb
          rw [hb]; rfl
        · unfold dotF
          simp only
          rw [if_neg (fun e => ?_)]
          rw [h] at hb
          simp at hb
          exact hb (UInt8.toNat_inj.1 (by rw [e]; rfl)))
    cases b with
    | true =>
      obtain ⟨c0, s', hs0, h46⟩ := hbs.out.1 rfl
      have HS0 := Lw.hid hs0; have H46 := Lw.hid h46
      clear hs0 h46 hbs
      cases hL0 : L with
      | nil =>
        have HF : Hid (dt = false) := Lw.hid (by
          rw [← HDT.out, HS0.out]
          unfold dotF
          simp only
          rw [if_pos H46.out, hL0])
        have hN0 : N = 0 := by have := HLN.out; rw [hL0] at this; simpa using this.symm
        subst hN0
        clear hL0
        go_wp2_with fail
        go_meet
        case rel => exact ⟨by rw [HF.out]; rfl, rfl⟩
      | cons p0 L' =>
        have HF : Hid (dt = (p0.own && p0.f 46)) := Lw.hid (by
          rw [← HDT.out, HS0.out]
          unfold dotF
          simp only
          rw [if_pos H46.out, hL0])
        have hN1 : 1 ≤ N := by have := HLN.out; rw [hL0] at this; simp at this; omega
        have hN2 : ((N : Int) == 0) = false := by simp; omega
        have hno : Hid (p0.own = true → p0.any = false) := Lw.hid (fun h => piecesF_own (n := p.length) (l := p) (by rw [HL.out, hL0]; rfl) h)
        obtain ⟨g, x, hax, c0, c1, c2, hset⟩ := HPR.out.at 0 p0 (by rw [HXS.out, hL0]; rfl)
        simp only [Nat.zero_mul, Nat.zero_add] at c0 c1 c2
        have hSET := Lw.hid hset
        subst hax
        clear hL0 hset c0
        cases hown : p0.own with
        | false =>
          rw [hown] at c2
          have HF2 : Hid (dt = false) := Lw.hid (by rw [HF.out, hown]; rfl)
          clear hown
          go_wp2_with fail
          go_meet
          case rel => exact ⟨by rw [HF2.out]; rfl, rfl⟩
        | true =>
          obtain ⟨gs, hxg, hsg⟩ := hSET.out (hno.out hown)
          rw [hown] at c2
          have HF2 : Hid (dt = p0.f 46) := Lw.hid (by rw [HF.out, hown]; rfl)
          have hcell := hsg.cell 46 (by decide)
          subst hxg
          clear hown hsg
          generalize p0.f 46 = pf at *
          cases pf with
          | false =>
            go_wp2_with fail
            go_meet
            case rel => exact ⟨by rw [HF2.out]; rfl, rfl⟩
          | true =>
            go_wp2_with fail
            go_meet
            case rel => exact ⟨by rw [HF2.out]; rfl, rfl⟩
    | false =>
      have HF : Hid (dt = true) := Lw.hid (by rw [← HDT.out]; exact hbs.out.2 rfl)
      clear hbs
      go_wp2_with fail
      go_meet
      case rel => exact ⟨by rw [HF.out]; rfl, rfl⟩
  case rest =>
    obtain ⟨rfl, rfl⟩ := hcut
    cases dt with
    | false =>
      have HF : Hid (matchF p s = false) := Lw.hid (by unfold matchF; rw [HL.out, HDT.out]; rfl)
      go_wp2_with fail
      rw [Exit.noGoto_ret]
      go_ret
      rw [HF.out]
      exact ⟨rfl, HPR.out.kept⟩
    | true =>
      obtain ⟨R, hR⟩ : ∃ R, matchR L s = R := ⟨_, rfl⟩
      have HF : Hid (matchF p s = R) := Lw.hid (by unfold matchF; rw [HL.out, HDT.out, hR]; rfl)
      have HR := Lw.hid hR
      clear hR
      go_wp2_with fail
      go_step3
      go_wp2_with fail
      go_loopg [6, 7, 8, 9] ((n + 1 - 0) * (N + n + 1) + (N - 0) + (n - 0)) (fun gk sk sa sst sf wx => ∃ (k aa f : Nat) (st : Option (Nat × Nat)), gk = (n + 1 - f) * (N + n + 1) + (N - k) + (n - aa) ∧ sk = .int .i64 (k : Int) ∧ sa = .int .i64 (aa : Int) ∧ k ≤ N ∧ aa ≤ n ∧ f ≤ aa ∧ (st = none ∧ sst = .int .i64 (-1) ∧ sf = .int .i64 0 ∧ f = 0 ∨ ∃ i : Nat, i < N ∧ st = some (i, f) ∧ sst = .int .i64 (i : Int) ∧ sf = .int .i64 (f : Int)) ∧ MInv L s k aa st ∧ Kept (fun _ => False) wc wx)
      case atStart => exact ⟨0, 0, 0, none, rfl, rfl, rfl, Nat.zero_le _, Nat.zero_le _, Nat.zero_le _, .inl ⟨rfl, rfl, rfl, rfl⟩, MInv.start L s, Kept.refl _ _⟩
      case round =>
        obtain ⟨k, aa, f, st, hgk, rfl, rfl, hk, ha, hf, hst, hinv, hkk⟩ := hrel
        have HGK := Lw.hid hgk; have HI := Lw.hid hinv; have HK := Lw.hid hkk
        have HP2 : Hid (PRel w wr (.slice a N c) xs) := Lw.hid (HPR.out.keep hkk)
        clear hgk hinv hkk
        by_cases hlt : aa < n
        · obtain ⟨ch, hch⟩ : ∃ ch, s[aa]? = some ch := ⟨_, List.getElem?_eq_getElem (by rw [HNS.out]; exact hlt)⟩
          have HCH := Lw.hid hch
          have gch := BA_get hch
          have hch9 := ch.toNat_lt
          have hch9' : ch.toNat < 256 := hch9
          have hc0 : (0 : Int) ≤ (ch.toNat : Int) := by omega
          have hc9 : (ch.toNat : Int) < 256 := by omega
          clear hch
          by_cases hkN : k < N
          · obtain ⟨q, hq⟩ : ∃ q, L[k]? = some q := ⟨_, List.getElem?_eq_getElem (by rw [HLN.out]; exact hkN)⟩
            have HQ := Lw.hid hq
            obtain ⟨g, x, hax, c0, c1, c2, hset⟩ := HP2.out.at k q (by rw [HXS.out]; exact hq)
            have hSET := Lw.hid hset
            subst hax
            clear hq hset c2
            cases hany : q.any with
            | true =>
              have HN1 := Lw.hid (HI.out.star HQ.out hany)
              have HM1 := Lw.hid (meas_star HGK.out hkN hf)
              rw [hany] at c0
              clear hany c1
              rcases hst with ⟨rfl, rfl, rfl, rfl⟩ | ⟨i, hi, rfl, rfl, rfl⟩
              all_goals
                go_wp2_with fail
                go_roundg ((n + 1 - aa) * (N + n + 1) + (N - (k + 1)) + (n - aa))
                case measure => exact HM1.out
                case rel => exact ⟨k + 1, aa, aa, some (k, aa), rfl, by go_num, rfl, by omega, by omega, Nat.le_refl _, .inr ⟨k, by omega, rfl, rfl, rfl⟩, HN1.out, HK.out⟩
            | false =>
              rw [hany] at c0
              obtain ⟨gs, hxg, hsg⟩ := hSET.out hany
              have hcell := hsg.cell ch.toNat hch9'
              subst hxg
              clear hsg
              have HANY := Lw.hid hany
              clear hany
              cases hfc : q.f ch.toNat with
              | true =>
                have HN1 := Lw.hid (HI.out.take HQ.out HANY.out HCH.out hfc)
                have HM1 := Lw.hid (meas_take HGK.out hkN)
                rw [hfc] at hcell
                clear hfc
                rcases hst with ⟨rfl, rfl, rfl, rfl⟩ | ⟨i, hi, rfl, rfl, rfl⟩
                · go_wp2_with fail
                  go_quiet (fail)
                  go_wp2_with fail
                  go_roundg ((n + 1 - 0) * (N + n + 1) + (N - (k + 1)) + (n - (aa + 1)))
                  case measure => exact HM1.out
                  case rel => exact ⟨k + 1, aa + 1, 0, none, rfl, by go_num, by go_num, by omega, by omega, by omega, .inl ⟨rfl, rfl, rfl, rfl⟩, HN1.out, HK.out.trans (kept_drewN' _ _) (fun _ _ h => h)⟩
                · go_wp2_with fail
                  go_quiet (fail)
                  go_wp2_with fail
                  go_roundg ((n + 1 - f) * (N + n + 1) + (N - (k + 1)) + (n - (aa + 1)))
                  case measure => exact HM1.out
                  case rel => exact ⟨k + 1, aa + 1, f, some (i, f), rfl, by go_num, by go_num, by omega, by omega, by omega, .inr ⟨i, hi, rfl, rfl, rfl⟩, HN1.out, HK.out.trans (kept_drewN' _ _) (fun _ _ h => h)⟩
              | false =>
                have HST : Hid (stuckF L s k aa) := Lw.hid ⟨by rw [HNS.out]; exact hlt, .inr ⟨q, ch, HQ.out, HCH.out, HANY.out, hfc⟩⟩
                rw [hfc] at hcell
                clear hfc
                rcases hst with ⟨rfl, rfl, rfl, rfl⟩ | ⟨i, hi, rfl, rfl, rfl⟩
                · have HRF : Hid (R = false) := Lw.hid (by rw [← HR.out]; exact HI.out.fails HST.out)
                  go_wp2_with fail
                  go_quiet (fail)
                  go_wp2_with fail
                  rw [Exit.noGoto_ret]
                  go_ret
                  rw [HF.out, HRF.out]
                  exact ⟨rfl, (HPR.out.kept.trans HK.out (fun _ _ h => h)).trans (kept_drewN' _ _) (fun _ _ h => h)⟩
                · have HN1 := Lw.hid (HI.out.back HST.out)
                  have HM1 := Lw.hid (meas_back (i := i) HGK.out (show f < n by omega))
                  go_wp2_with fail
                  go_quiet (fail)
                  go_wp2_with fail
                  go_roundg ((n + 1 - (f + 1)) * (N + n + 1) + (N - (i + 1)) + (n - (f + 1)))
                  case measure => exact HM1.out
                  case rel => exact ⟨i + 1, f + 1, f + 1, some (i, f + 1), rfl, by go_num, by go_num, by omega, by omega, Nat.le_refl _, .inr ⟨i, hi, rfl, rfl, by go_num⟩, HN1.out, HK.out.trans (kept_drewN' _ _) (fun _ _ h => h)⟩
          · have hkN2 : k = N := by omega
            have HST : Hid (stuckF L s k aa) := Lw.hid ⟨by rw [HNS.out]; exact hlt, .inl (by rw [HLN.out]; exact hkN2)⟩
            clear hkN2
            rcases hst with ⟨rfl, rfl, rfl, rfl⟩ | ⟨i, hi, rfl, rfl, rfl⟩
            · have HRF : Hid (R = false) := Lw.hid (by rw [← HR.out]; exact HI.out.fails HST.out)
              go_wp2_with fail
              go_quiet (fail)
              go_wp2_with fail
              rw [Exit.noGoto_ret]
              go_ret
              rw [HF.out, HRF.out]
              exact ⟨rfl, (HPR.out.kept.trans HK.out (fun _ _ h => h)).trans (kept_drewN' _ _) (fun _ _ h => h)⟩
            · have HN1 := Lw.hid (HI.out.back HST.out)
              have HM1 := Lw.hid (meas_back (i := i) HGK.out (show f < n by omega))
              go_wp2_with fail
              go_quiet (fail)
              go_wp2_with fail
              go_roundg ((n + 1 - (f + 1)) * (N + n + 1) + (N - (i + 1)) + (n - (f + 1)))
              case measure => exact HM1.out
              case rel => exact ⟨i + 1, f + 1, f + 1, some (i, f + 1), rfl, by go_num, by go_num, by omega, by omega, Nat.le_refl _, .inr ⟨i, hi, rfl, rfl, by go_num⟩, HN1.out, HK.out.trans (kept_drewN' _ _) (fun _ _ h => h)⟩
        · have haa : aa = s.length := by rw [HNS.out]; omega
          subst haa
          have HE : Hid (matchR (L.drop k) [] = R) := Lw.hid (by rw [← HR.out]; exact HI.out.ends.symm)
          have HNS2 := HNS.out
          rw [HNS2] at ha hf hlt
          clear HI HGK HNS2
          have hsl : n ≤ s.length := by rw [HNS.out]; exact Nat.le_refl _
          go_wp2_with fail
          obtain ⟨wo, rfl⟩ : ∃ wo : World, wo = wr := ⟨_, rfl⟩
          go_loopw [6] (fun sk wx => ∃ k : Nat, k ≤ N ∧ sk = .int .i64 (k : Int) ∧ matchR (L.drop k) [] = R ∧ wx = wo) (fun sk _ => N - (intOf sk).toNat)
          case atStart => exact ⟨k, hk, rfl, HE.out, rfl⟩
          case round =>
            obtain ⟨k2, hk2, rfl, he2, rfl⟩ := hrel
            have HE2 := Lw.hid he2
            clear he2 HE
            by_cases hkN : k2 < N
            · obtain ⟨q, hq⟩ : ∃ q, L[k2]? = some q := ⟨_, List.getElem?_eq_getElem (by rw [HLN.out]; exact hkN)⟩
              have HQ := Lw.hid hq
              obtain ⟨g, x, hax, c0, c1, c2, hset⟩ := HP2.out.at k2 q (by rw [HXS.out]; exact hq)
              subst hax
              clear hq hset c1 c2
              cases hany : q.any with
              | true =>
                have HE3 : Hid (matchR (L.drop (k2 + 1)) [] = R) := Lw.hid (by rw [← HE2.out]; exact (ends_any HQ.out hany).symm)
                rw [hany] at c0
                clear hany
                go_wp2_with fail
                go_roundw
                case rel => exact ⟨k2 + 1, by omega, by go_num, HE3.out, by first | rfl | trivial⟩
                case measure => simp [intOf]; omega
              | false =>
                have HRF : Hid (R = false) := Lw.hid (by rw [← HE2.out]; exact ends_one HQ.out hany)
                rw [hany] at c0
                have hne : ((k2 : Int) == (N : Int)) = false := by simp; omega
                clear hany
                go_wp2_with fail
                rw [Exit.noGoto_ret]
                go_ret
                rw [HF.out, HRF.out]
                exact ⟨by first | rfl | rw [hne], HPR.out.kept.trans HK.out (fun _ _ h => h)⟩
            · have hk3 : k2 = L.length := by rw [HLN.out]; omega
              have HRF : Hid (R = true) := Lw.hid (by rw [← HE2.out, hk3, List.drop_length, matchR_nil]; rfl)
              have hne : ((k2 : Int) == (N : Int)) = true := by simp; have := HLN.out; omega
              clear hk3
              go_wp2_with fail
              rw [Exit.noGoto_ret]
              go_ret
              rw [HF.out, HRF.out]
              exact ⟨by first | rfl | rw [hne], HPR.out.kept.trans HK.out (fun _ _ h => h)⟩
end Go.Proofs.Ytkfoinphkjmlmaa
