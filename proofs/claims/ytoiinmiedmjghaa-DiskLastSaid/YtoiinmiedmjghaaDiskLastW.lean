/- DiskLast, walked. -/
import Derived.Test.YtoiinmiedmjghaaDiskLastP
namespace Go.Proofs.Ytoiinmiedmjghaa
open Go Go.RowKit Go.Lw
set_option maxRecDepth 100000
set_option maxHeartbeats 8000000 in
theorem dlast_any (w : World) (x : Value) (A : List Act4) (hx : RdA w x A) (n0 : Nat) (hn0 : n0 < 256) (m0 : Nat) (hm0 : m0 < 256) :
    Calls Try.prog 6 #[x, .int .u8 (n0 : Int), .int .u8 (m0 : Int)] w fun e w' => e = .returned (.bool true) ∧ Below w.heap.size w w' := by
  obtain ⟨adx, capx, rfl, hx1, hx2, hx3⟩ := hx.1.2
  clear hx3
  unfold maxLen at hx2
  have HX := Lw.hid hx
  clear hx
  obtain ⟨n, hn⟩ : ∃ n, n0 % 15 = n := ⟨_, rfl⟩
  obtain ⟨many, hmn⟩ : ∃ m, m0 % 50 = m := ⟨_, rfl⟩
  have hn14 : n ≤ 14 := by omega
  have hm49 : many < 50 := by omega
  have hnr : (n0 : Int) % 15 = (n : Int) := by omega
  have hmr : (m0 : Int) % 50 = (many : Int) := by omega
  clear hn hmn
  have P2 : Hid ((⟨2000, [], 0, false, false, 0, 0⟩ : Dsk).plan (n : Int) (many : Int) = (lastD n many 0 [], 0)) := Lw.hid (by
    rw [lastD_pos (Nat.zero_le _)]
    unfold Dsk.plan
    rw [if_neg (by simp), if_neg (by omega)]
    simp)
  go_enter Try.func6, Try.ntmps6
  go_wp2_with fail
  refine (dnew_any w 2000 (by decide)).mono ?_
  rintro e w1 ⟨g, rfl, d1, k1, hg⟩
  have D1 := Lw.hid d1; have K1 := Lw.hid k1
  clear d1 k1
  go_wp2_with fail
  refine (dplan_any _ g _ _ D1.out n many).mono ?_
  rw [P2.out]
  rintro e w2 ⟨rfl, hp⟩
  obtain ⟨v2, d2, k2, hv2⟩ := hp.keeps K1.out hg (fun k hk => by cases hk)
  simp only at d2
  have hg2 := heap_lt d2.box
  have D2 := Lw.hid d2; have K2 := Lw.hid k2
  have hv2l := own_lt d2.own
  have HV2 := Lw.hid (fun q hq => And.intro (hv2 q hq) (hv2l q hq))
  clear d2 k2 hp D1 K1 hv2 hv2l
  go_wp2_with fail
  refine (fewA_any w2 _ A (HX.out.kept K2.out (fun _ _ h => h) (fun _ _ _ _ _ h => h))).mono ?_
  rintro e w3 ⟨vF, rfl, oF, k3, hvF⟩
  obtain ⟨F, hF⟩ : ∃ F, fewA A = F := ⟨_, rfl⟩
  have hFok := fewA_ok HX.out.2 (K2.out.trans k3 (fun _ _ h => h))
  have hFlt : ∀ a ∈ fewA A, a.l.length ≠ 0 → ∀ q, blk a.v q → q < w.heap.size := fun a ha hn q hq => by
    obtain ⟨b, hb, rfl⟩ := List.mem_map.1 ha
    exact (HX.out.2 b (List.mem_of_mem_take hb)).rd.lt (fun h0 => hn (by simp [Act4.short, h0])) q (blk_cutV hq)
  rw [hF] at oF hFok hFlt
  clear hF
  obtain ⟨adF, capF, rfl, hF1, hF2, _⟩ := own_slice oF
  have hFlt3 := own_lt oF
  have HFR : Hid (RdA w3 (.slice adF F.length capF) F) := Lw.hid ⟨Rd.own oF, fun a ha => (hFok a ha).1⟩
  obtain ⟨T, hT⟩ : ∃ T : Nat → Prop, ∀ q, T q ↔ w.heap.size ≤ q ∧ ¬ blk (.slice adF F.length capF) q := ⟨_, fun _ => Iff.rfl⟩
  have HT := Lw.hid hT
  have HT3 : Hid (∀ W : World, w3.heap.size ≤ W.heap.size → ∀ q, W.heap.size ≤ q → T q) := Lw.hid (fun W hW q hq => (hT q).2 ⟨by have := K2.out.size; have := k3.size; omega, fun h => by have := hFlt3 q h; omega⟩)
  have HTg : Hid (T g) := Lw.hid ((hT g).2 ⟨hg, fun h => by have := hvF g h; omega⟩)
  have HTv : Hid (∀ q, blk v2 q → T q) := Lw.hid (fun q hq => (hT q).2 ⟨(HV2.out q hq).1, fun h => by have := hvF q h; have := (HV2.out q hq).2; omega⟩)
  have HFT : Hid (∀ q, blk (.slice adF F.length capF) q → ¬ T q) := Lw.hid (fun q hq h => ((hT q).1 h).2 hq)
  have HAT : Hid (∀ a ∈ F, a.l.length ≠ 0 → ∀ q, blk a.v q → ¬ T q) := Lw.hid (fun a ha hn q hq h => by have := hFlt a ha hn q hq; have := ((hT q).1 h).1; omega)
  have HF40 : Hid (∀ a ∈ F, a.l.length ≤ 40) := Lw.hid (fun a ha => (hFok a ha).2)
  have D3 := Lw.hid (D2.out.kept k3 (fun h => h) (fun _ _ h => h))
  have K3 := Lw.hid (K2.out.trans k3 (fun _ _ h => h))
  unfold maxLen at hF2
  clear hT hFok hFlt hFlt3 hvF oF k3 D2 K2 HV2 hg2
  go_wp2_with fail
  go_loopw [39, 12, 11] (fun i dn vw wr => ∃ (k done : Nat) (W : List UInt8) (ad : Option Addr) (cap : Nat) (vd : Value), k ≤ F.length ∧ k ≤ 12 ∧ i = .int .i64 k ∧ dn = .int .i64 done ∧ done ≤ n + 1 ∧ done ≤ k ∧ vw = .slice ad W.length cap ∧ W.length ≤ 40 * k ∧ wr.ownsRow 0 5 1 vw W.length (W.map bv) ∧ DiskAt wr g vd (lastD n many done W) ∧ (∀ q, blk vw q → q ≠ g ∧ ¬ blk vd q) ∧ (∀ q, blk vw q → T q) ∧ (∀ q, blk vd q → T q) ∧ Kept T w3 wr) (fun i _ _ _ => F.length - (intOf i).toNat)
  case atStart => exact ⟨0, 0, [], none, 0, v2, Nat.zero_le _, Nat.zero_le _, rfl, rfl, Nat.zero_le _, Nat.zero_le _, rfl, Nat.zero_le _, World.ownsRow_nil _ _ _ _, D3.out, fun _ h => (blk_none h).elim, fun _ h => (blk_none h).elim, HTv.out, Kept.refl _ _⟩
  case round =>
    obtain ⟨k, done, W, ad, cap, vd, hk, hk12, rfl, rfl, hdn, hdk, rfl, hWl, hw, hd, hap, hTw, hTd, hkT⟩ := hrel
    by_cases hlt : k < F.length ∧ k ≠ 12
    · obtain ⟨hlt, hne⟩ := hlt
      obtain ⟨gF, offF, hadF, c0, cj⟩ := (HFR.out.1.kept hkT HFT.out).elem (fun _ _ => rfl) (by decide) k hlt
      obtain ⟨a, haF⟩ : ∃ a, F[k] = a := ⟨_, rfl⟩
      have haM : a ∈ F := haF ▸ List.getElem_mem hlt
      rw [haF] at c0 cj
      have c1 := cj 1 (by decide); have c2 := cj 2 (by decide); have c3 := cj 3 (by decide)
      have haok := HFR.out.2 a haM
      obtain ⟨ab, cb, hv, hb1, hb2, _⟩ := haok.rd.open
      have hb40 := HF40.out a haM
      have hat := haok.at_
      have HRB : Hid (RdB wr a.v a.l) := Lw.hid (haok.rd.keptE hkT (HAT.out a haM))
      have HNB := Lw.hid (HAT.out a haM)
      have HR3 := Lw.hid haok.rd
      clear haok cj haF haM
      simp only [Act4.cells, List.getElem?_cons_zero, List.getElem?_cons_succ] at c0 c1 c2 c3
      obtain ⟨awhat, aat, amany, av, al⟩ := a
      simp only at hv hb1 hb2 hb40 hat HRB HNB HR3 c0 c1 c2 c3
      subst hv
      subst hadF
      unfold maxLen at hb2
      have HW := Lw.hid hw; have HD := Lw.hid hd; have HAP := Lw.hid hap; have HTW := Lw.hid hTw; have HTD := Lw.hid hTd; have HK := Lw.hid hkT
      have hgl := heap_lt hd.box
      clear hw hd hap hTw hTd hkT
      obtain ⟨L, hL⟩ : ∃ L, W.length = L := ⟨_, rfl⟩
      have HL := Lw.hid hL
      rw [hL] at hWl HW HAP HTW ⊢
      clear hL
      obtain ⟨m, hm⟩ : ∃ m, al.length = m := ⟨_, rfl⟩
      have HM := Lw.hid hm
      rw [hm] at hb1 hb40 c3 HRB HNB HR3
      clear hm
      obtain ⟨nF, hnF⟩ : ∃ nF, F.length = nF := ⟨_, rfl⟩
      have HNF := Lw.hid hnF
      rw [hnF] at hlt hk ⊢
      clear hnF
      have HDA : Hid (∀ o, DiskAt (wr.alloc o) g vd (lastD n many done W)) := Lw.hid (fun o => HD.out.kept ((Kept.refl (fun _ => False) wr).alloc o) (fun h => h) (fun _ _ h => h))
      have hcs : done = n + 1 ∨ done < n ∨ done = n := by omega
      rcases hcs with rfl | hcs | rfl
      · have hs := dstopped_any _ _ _ _ (HDA.out (.cells #[.int .i64 awhat, .int .i64 aat, .int .i64 amany, .slice ab m cb] 39))
        rw [lastD_stopped, decide_eq_true (by omega)] at hs
        have HS := Lw.hid hs
        clear hs
        obtain ⟨p, hpL, hp⟩ := place_of aat L (by omega)
        go_wp2_with fail
        refine HS.out.mono ?_
        rintro e _ ⟨rfl, rfl⟩
        go_wp2_with fail
        clear hp
        have hal := Kept.alloc (Kept.refl (fun _ => False) wr) (.cells #[.int .i64 awhat, .int .i64 aat, .int .i64 amany, .slice ab m cb] 39)
        refine (dput_any _ g vd _ (HDA.out _) (lastD_ok hn14 hm49 hdn (by rw [HL.out]; omega)) (p : Int) (by omega) _ al (HRB.out.kept hal (fun _ _ h => h)) (fun hn q hq => ?_)).mono ?_
        · have hnT := HNB.out (by rw [← HM.out]; exact hn) q hq
          exact ⟨fun h => hnT (h ▸ HTg.out), fun h => hnT (HTD.out q h)⟩
        rw [lastD_gt]
        rintro e w4 ⟨rfl, hp⟩
        obtain ⟨vd', d4, k4, hTd4, hz4, hrow⟩ := hp.goes (HK.out.trans hal (fun _ _ h => h.elim)) HTg.out HTD.out (HT3.out _ (by have := HK.out.size; simp; omega))
        obtain ⟨w4o, hap4⟩ := hrow _ _ _ (own_kept hal HW.out (fun _ _ h => h)) HAP.out
        have D4 := Lw.hid d4; have K4 := Lw.hid k4; have HTD4 := Lw.hid hTd4; have W4 := Lw.hid w4o; have HAP4 := Lw.hid hap4
        clear d4 k4 hTd4 hz4 hrow hp hal HS HDA HD w4o hap4 HTD HAP
        go_wp2_with fail
        go_roundw
        case rel => exact ⟨k + 1, n + 1, W, ad, cap, vd', by omega, by omega, by go_num, by go_num, by omega, by omega, by rw [HL.out], by rw [HL.out]; omega, by rw [HL.out]; exact W4.out, D4.out, HAP4.out, HTW.out, HTD4.out, K4.out⟩
        case measure => simp [intOf]; omega
      · have hs := dstopped_any _ _ _ _ (HDA.out (.cells #[.int .i64 awhat, .int .i64 aat, .int .i64 amany, .slice ab m cb] 39))
        rw [lastD_stopped, decide_eq_false (by omega)] at hs
        have HS := Lw.hid hs
        clear hs
        obtain ⟨p, hpL, hp⟩ := place_of aat L (by omega)
        go_wp2_with fail
        refine HS.out.mono ?_
        rintro e _ ⟨rfl, rfl⟩
        go_wp2_with fail
        clear hp
        have hal := Kept.alloc (Kept.refl (fun _ => False) wr) (.cells #[.int .i64 awhat, .int .i64 aat, .int .i64 amany, .slice ab m cb] 39)
        refine (dput_any _ g vd _ (HDA.out _) (lastD_ok hn14 hm49 hdn (by rw [HL.out]; omega)) (p : Int) (by omega) _ al (HRB.out.kept hal (fun _ _ h => h)) (fun hn q hq => ?_)).mono ?_
        · have hnT := HNB.out (by rw [← HM.out]; exact hn) q hq
          exact ⟨fun h => hnT (h ▸ HTg.out), fun h => hnT (HTD.out q h)⟩
        rw [lastD_lt hcs p al (by rw [HL.out]; exact hpL) (by rw [HL.out, HM.out]; omega)]
        rintro e w4 ⟨rfl, hp⟩
        obtain ⟨vd', d4, k4, hTd4, hz4, hrow⟩ := hp.goes (HK.out.trans hal (fun _ _ h => h.elim)) HTg.out HTD.out (HT3.out _ (by have := HK.out.size; simp; omega))
        obtain ⟨w4o, hap4⟩ := hrow _ _ _ (own_kept hal HW.out (fun _ _ h => h)) HAP.out
        have D4 := Lw.hid d4; have K4 := Lw.hid k4; have HTD4 := Lw.hid hTd4; have W4 := Lw.hid w4o; have HAP4 := Lw.hid hap4
        clear d4 k4 hTd4 hz4 hrow hp hal HS HDA HD w4o hap4 HTD HAP
        have HRQ : Hid (RdB w3 (.slice ab m cb) (al)) := Lw.hid (HR3.out)
        have HMQ : Hid ((al).length = m) := Lw.hid (HM.out)
        have HNQ : Hid (m ≠ 0 → ∀ i, blk (.slice ab m cb) i → ¬ T i) := Lw.hid (fun h0 i hi => HNB.out (by omega) i (hi))
        clear HR3 HNB HRB
        go_wp2_with fail
        go_loopw [11] (fun v wi => ∃ (z : Nat) (a2 : Option Addr) (c2 : Nat), v = .slice a2 (L + z) c2 ∧ (z = 0 ∨ L + z ≤ p + m) ∧ wi.ownsRow 0 5 1 v (L + z) (W.map bv ++ List.replicate z (.int .u8 0)) ∧ Kept T w3 wi ∧ DiskAt wi g vd' (lastD n many (done + 1) (lay W p (al))) ∧ (∀ i, blk v i → i ≠ g ∧ ¬ blk vd' i) ∧ ∀ i, blk v i → T i) (fun v _ => p + m - (match v with | .slice _ n _ => n | _ => 0))
        case atStart => exact ⟨0, ad, cap, rfl, .inl rfl, by simpa using W4.out, K4.out, D4.out, HAP4.out, HTW.out⟩
        case round =>
          obtain ⟨z, a2, c2, rfl, hz, ho, hk, hd, hap, hT2⟩ := hrel
          have HO := Lw.hid ho; have HK2 := Lw.hid hk; have HD2 := Lw.hid hd; have HAP2 := Lw.hid hap; have HT2 := Lw.hid hT2
          clear ho hk hd hap hT2 D4 K4 W4 HAP4 HTW HK HW
          by_cases hlz : L + z < p + m
          · go_wp2_with (at_builtin; refine wpList_app rfl _ _ _ rfl EB _ (L + z) _ rfl (HO.out.alloc _) _ 1 _ rfl (Rd.lit _ [.int .u8 0] _ 1 _ 1 (by simp) rfl (by decide)) (by simp [Value.oneCell']) (by unfold maxLen; omega) (by omega) ?_; intro a3 c3' w6 ho hg hf; have HO' := Lw.hid ho; have HG' := Lw.hid hg; have HF' := Lw.hid hf; clear ho hg hf)
            have hkk := want_grown HK2.out HD2.out HAP2.out HT2.out HO.out (HT3.out _ HK2.out.size) HG'.out HF'.out
            go_roundw
            case rel => exact ⟨z + 1, a3, c3', by rw [Nat.add_assoc], .inr (by omega), by rw [← zeros_snoc]; exact HO'.out, hkk.1, hkk.2.1, hkk.2.2.1, hkk.2.2.2⟩
            case measure => simp; omega
          · go_wp2_with first
              | (refine wpList_slice_own rfl _ _ _ rfl EB (.slice a2 (L + z) c2) (L + z) _ .i64 _ p rfl rfl HO.out rfl (by omega) ?_; intro ad3 c3' hp; have HP := Lw.hid hp; clear hp)
              | (refine wpList_copy rfl _ _ _ _ rfl EB (.slice a2 (L + z) c2) (L + z) _ HO.out p _ _ rfl HP.out _ m _ rfl (rd_cast HMQ.out (HRQ.out.keptE HK2.out (fun hn => HNQ.out (by rw [← HMQ.out]; exact hn)))) (bytes_oneCell _) (by omega) ?_; intro w6 ho hg)
            have HO' := Lw.hid ho
            have hkk := want_copied HK2.out HD2.out HAP2.out HT2.out hg
            clear ho hg
            have HLQ : Hid (W.map bv ++ List.replicate z (.int .u8 0) = W.map bv ++ List.replicate z (Value.int .u8 0)) := Lw.hid rfl
            have HLEN : Hid ((lay W p (al)).length = L + z) := Lw.hid (by rw [lay_len (by rw [HL.out]; exact hpL), HL.out, HMQ.out]; omega)
            have HLAY := Lw.hid (want_laid (b := W) (a := p) (l := al) (z := z) (by rw [HL.out]; exact hpL) (by rw [HL.out, HMQ.out]; omega))
            go_roundw
            case rel => exact ⟨k + 1, done + 1, lay W p (al), a2, c2, vd', by omega, by omega, by go_num, by go_num, by omega, by omega, by rw [HLEN.out], by rw [HLEN.out]; omega, by rw [HLEN.out, ← HLAY.out, HMQ.out]; exact HO'.out, hkk.2, HAP2.out, HT2.out, HTD4.out, hkk.1⟩
            case measure => simp [intOf]; omega
      · by_cases hmm : many < m
        · have HTK : Hid (al.take (min many al.length) = al.take many) := Lw.hid (by rw [HM.out, Nat.min_eq_left (by omega)])
          have hs := dstopped_any _ _ _ _ (HDA.out (.cells #[.int .i64 awhat, .int .i64 aat, .int .i64 amany, .slice ab m cb] 39))
          rw [lastD_stopped, decide_eq_false (by omega)] at hs
          have HS := Lw.hid hs
          clear hs
          obtain ⟨p, hpL, hp⟩ := place_of aat L (by omega)
          go_wp2_with fail
          refine HS.out.mono ?_
          rintro e _ ⟨rfl, rfl⟩
          go_wp2_with fail
          refine HS.out.mono ?_
          rintro e _ ⟨rfl, rfl⟩
          go_wp2_with fail
          clear hp
          have hal := Kept.alloc (Kept.refl (fun _ => False) wr) (.cells #[.int .i64 awhat, .int .i64 aat, .int .i64 amany, .slice ab m cb] 39)
          refine (dput_any _ g vd _ (HDA.out _) (lastD_ok hn14 hm49 hdn (by rw [HL.out]; omega)) (p : Int) (by omega) _ al (HRB.out.kept hal (fun _ _ h => h)) (fun hn q hq => ?_)).mono ?_
          · have hnT := HNB.out (by rw [← HM.out]; exact hn) q hq
            exact ⟨fun h => hnT (h ▸ HTg.out), fun h => hnT (HTD.out q h)⟩
          rw [lastD_eq p al (by rw [HL.out]; exact hpL) (by rw [HL.out, HM.out]; omega), HTK.out]
          rintro e w4 ⟨rfl, hp⟩
          obtain ⟨vd', d4, k4, hTd4, hz4, hrow⟩ := hp.goes (HK.out.trans hal (fun _ _ h => h.elim)) HTg.out HTD.out (HT3.out _ (by have := HK.out.size; simp; omega))
          obtain ⟨w4o, hap4⟩ := hrow _ _ _ (own_kept hal HW.out (fun _ _ h => h)) HAP.out
          have D4 := Lw.hid d4; have K4 := Lw.hid k4; have HTD4 := Lw.hid hTd4; have W4 := Lw.hid w4o; have HAP4 := Lw.hid hap4
          clear d4 k4 hTd4 hz4 hrow hp hal HS HDA HD w4o hap4 HTD HAP
          have HRQ : Hid (RdB w3 (.slice ab many cb) (al.take many)) := Lw.hid (cut3 HR3.out HM.out (by omega))
          have HMQ : Hid ((al.take many).length = many) := Lw.hid (by rw [List.length_take, HM.out]; omega)
          have HNQ : Hid (many ≠ 0 → ∀ i, blk (.slice ab many cb) i → ¬ T i) := Lw.hid (fun h0 i hi => HNB.out (by omega) i (blk_len hi))
          clear HR3 HNB HRB
          go_wp2_with fail
          go_loopw [11] (fun v wi => ∃ (z : Nat) (a2 : Option Addr) (c2 : Nat), v = .slice a2 (L + z) c2 ∧ (z = 0 ∨ L + z ≤ p + many) ∧ wi.ownsRow 0 5 1 v (L + z) (W.map bv ++ List.replicate z (.int .u8 0)) ∧ Kept T w3 wi ∧ DiskAt wi g vd' (lastD done many (done + 1) (lay W p (al.take many))) ∧ (∀ i, blk v i → i ≠ g ∧ ¬ blk vd' i) ∧ ∀ i, blk v i → T i) (fun v _ => p + many - (match v with | .slice _ n _ => n | _ => 0))
          case atStart => exact ⟨0, ad, cap, rfl, .inl rfl, by simpa using W4.out, K4.out, D4.out, HAP4.out, HTW.out⟩
          case round =>
            obtain ⟨z, a2, c2, rfl, hz, ho, hk, hd, hap, hT2⟩ := hrel
            have HO := Lw.hid ho; have HK2 := Lw.hid hk; have HD2 := Lw.hid hd; have HAP2 := Lw.hid hap; have HT2 := Lw.hid hT2
            clear ho hk hd hap hT2 D4 K4 W4 HAP4 HTW HK HW
            by_cases hlz : L + z < p + many
            · go_wp2_with (at_builtin; refine wpList_app rfl _ _ _ rfl EB _ (L + z) _ rfl (HO.out.alloc _) _ 1 _ rfl (Rd.lit _ [.int .u8 0] _ 1 _ 1 (by simp) rfl (by decide)) (by simp [Value.oneCell']) (by unfold maxLen; omega) (by omega) ?_; intro a3 c3' w6 ho hg hf; have HO' := Lw.hid ho; have HG' := Lw.hid hg; have HF' := Lw.hid hf; clear ho hg hf)
              have hkk := want_grown HK2.out HD2.out HAP2.out HT2.out HO.out (HT3.out _ HK2.out.size) HG'.out HF'.out
              go_roundw
              case rel => exact ⟨z + 1, a3, c3', by rw [Nat.add_assoc], .inr (by omega), by rw [← zeros_snoc]; exact HO'.out, hkk.1, hkk.2.1, hkk.2.2.1, hkk.2.2.2⟩
              case measure => simp; omega
            · go_wp2_with first
                | (refine wpList_slice_own rfl _ _ _ rfl EB (.slice a2 (L + z) c2) (L + z) _ .i64 _ p rfl rfl HO.out rfl (by omega) ?_; intro ad3 c3' hp; have HP := Lw.hid hp; clear hp)
                | (refine wpList_copy rfl _ _ _ _ rfl EB (.slice a2 (L + z) c2) (L + z) _ HO.out p _ _ rfl HP.out _ many _ rfl (rd_cast HMQ.out (HRQ.out.keptE HK2.out (fun hn => HNQ.out (by rw [← HMQ.out]; exact hn)))) (bytes_oneCell _) (by omega) ?_; intro w6 ho hg)
              have HO' := Lw.hid ho
              have hkk := want_copied HK2.out HD2.out HAP2.out HT2.out hg
              clear ho hg
              have HLQ : Hid (W.map bv ++ List.replicate z (.int .u8 0) = W.map bv ++ List.replicate z (Value.int .u8 0)) := Lw.hid rfl
              have HLEN : Hid ((lay W p (al.take many)).length = L + z) := Lw.hid (by rw [lay_len (by rw [HL.out]; exact hpL), HL.out, HMQ.out]; omega)
              have HLAY := Lw.hid (want_laid (b := W) (a := p) (l := al.take many) (z := z) (by rw [HL.out]; exact hpL) (by rw [HL.out, HMQ.out]; omega))
              go_roundw
              case rel => exact ⟨k + 1, done + 1, lay W p (al.take many), a2, c2, vd', by omega, by omega, by go_num, by go_num, by omega, by omega, by rw [HLEN.out], by rw [HLEN.out]; omega, by rw [HLEN.out, ← HLAY.out, HMQ.out]; exact HO'.out, hkk.2, HAP2.out, HT2.out, HTD4.out, hkk.1⟩
              case measure => simp [intOf]; omega
        · have HTK : Hid (al.take (min many al.length) = al) := Lw.hid (by rw [List.take_of_length_le (by rw [HM.out]; omega)])
          have hs := dstopped_any _ _ _ _ (HDA.out (.cells #[.int .i64 awhat, .int .i64 aat, .int .i64 amany, .slice ab m cb] 39))
          rw [lastD_stopped, decide_eq_false (by omega)] at hs
          have HS := Lw.hid hs
          clear hs
          obtain ⟨p, hpL, hp⟩ := place_of aat L (by omega)
          go_wp2_with fail
          refine HS.out.mono ?_
          rintro e _ ⟨rfl, rfl⟩
          go_wp2_with fail
          refine HS.out.mono ?_
          rintro e _ ⟨rfl, rfl⟩
          go_wp2_with fail
          clear hp
          have hal := Kept.alloc (Kept.refl (fun _ => False) wr) (.cells #[.int .i64 awhat, .int .i64 aat, .int .i64 amany, .slice ab m cb] 39)
          refine (dput_any _ g vd _ (HDA.out _) (lastD_ok hn14 hm49 hdn (by rw [HL.out]; omega)) (p : Int) (by omega) _ al (HRB.out.kept hal (fun _ _ h => h)) (fun hn q hq => ?_)).mono ?_
          · have hnT := HNB.out (by rw [← HM.out]; exact hn) q hq
            exact ⟨fun h => hnT (h ▸ HTg.out), fun h => hnT (HTD.out q h)⟩
          rw [lastD_eq p al (by rw [HL.out]; exact hpL) (by rw [HL.out, HM.out]; omega), HTK.out]
          rintro e w4 ⟨rfl, hp⟩
          obtain ⟨vd', d4, k4, hTd4, hz4, hrow⟩ := hp.goes (HK.out.trans hal (fun _ _ h => h.elim)) HTg.out HTD.out (HT3.out _ (by have := HK.out.size; simp; omega))
          obtain ⟨w4o, hap4⟩ := hrow _ _ _ (own_kept hal HW.out (fun _ _ h => h)) HAP.out
          have D4 := Lw.hid d4; have K4 := Lw.hid k4; have HTD4 := Lw.hid hTd4; have W4 := Lw.hid w4o; have HAP4 := Lw.hid hap4
          clear d4 k4 hTd4 hz4 hrow hp hal HS HDA HD w4o hap4 HTD HAP
          have HRQ : Hid (RdB w3 (.slice ab m cb) (al)) := Lw.hid (HR3.out)
          have HMQ : Hid ((al).length = m) := Lw.hid (HM.out)
          have HNQ : Hid (m ≠ 0 → ∀ i, blk (.slice ab m cb) i → ¬ T i) := Lw.hid (fun h0 i hi => HNB.out (by omega) i (hi))
          clear HR3 HNB HRB
          go_wp2_with fail
          go_loopw [11] (fun v wi => ∃ (z : Nat) (a2 : Option Addr) (c2 : Nat), v = .slice a2 (L + z) c2 ∧ (z = 0 ∨ L + z ≤ p + m) ∧ wi.ownsRow 0 5 1 v (L + z) (W.map bv ++ List.replicate z (.int .u8 0)) ∧ Kept T w3 wi ∧ DiskAt wi g vd' (lastD done many (done + 1) (lay W p (al))) ∧ (∀ i, blk v i → i ≠ g ∧ ¬ blk vd' i) ∧ ∀ i, blk v i → T i) (fun v _ => p + m - (match v with | .slice _ n _ => n | _ => 0))
          case atStart => exact ⟨0, ad, cap, rfl, .inl rfl, by simpa using W4.out, K4.out, D4.out, HAP4.out, HTW.out⟩
          case round =>
            obtain ⟨z, a2, c2, rfl, hz, ho, hk, hd, hap, hT2⟩ := hrel
            have HO := Lw.hid ho; have HK2 := Lw.hid hk; have HD2 := Lw.hid hd; have HAP2 := Lw.hid hap; have HT2 := Lw.hid hT2
            clear ho hk hd hap hT2 D4 K4 W4 HAP4 HTW HK HW
            by_cases hlz : L + z < p + m
            · go_wp2_with (at_builtin; refine wpList_app rfl _ _ _ rfl EB _ (L + z) _ rfl (HO.out.alloc _) _ 1 _ rfl (Rd.lit _ [.int .u8 0] _ 1 _ 1 (by simp) rfl (by decide)) (by simp [Value.oneCell']) (by unfold maxLen; omega) (by omega) ?_; intro a3 c3' w6 ho hg hf; have HO' := Lw.hid ho; have HG' := Lw.hid hg; have HF' := Lw.hid hf; clear ho hg hf)
              have hkk := want_grown HK2.out HD2.out HAP2.out HT2.out HO.out (HT3.out _ HK2.out.size) HG'.out HF'.out
              go_roundw
              case rel => exact ⟨z + 1, a3, c3', by rw [Nat.add_assoc], .inr (by omega), by rw [← zeros_snoc]; exact HO'.out, hkk.1, hkk.2.1, hkk.2.2.1, hkk.2.2.2⟩
              case measure => simp; omega
            · go_wp2_with first
                | (refine wpList_slice_own rfl _ _ _ rfl EB (.slice a2 (L + z) c2) (L + z) _ .i64 _ p rfl rfl HO.out rfl (by omega) ?_; intro ad3 c3' hp; have HP := Lw.hid hp; clear hp)
                | (refine wpList_copy rfl _ _ _ _ rfl EB (.slice a2 (L + z) c2) (L + z) _ HO.out p _ _ rfl HP.out _ m _ rfl (rd_cast HMQ.out (HRQ.out.keptE HK2.out (fun hn => HNQ.out (by rw [← HMQ.out]; exact hn)))) (bytes_oneCell _) (by omega) ?_; intro w6 ho hg)
              have HO' := Lw.hid ho
              have hkk := want_copied HK2.out HD2.out HAP2.out HT2.out hg
              clear ho hg
              have HLQ : Hid (W.map bv ++ List.replicate z (.int .u8 0) = W.map bv ++ List.replicate z (Value.int .u8 0)) := Lw.hid rfl
              have HLEN : Hid ((lay W p (al)).length = L + z) := Lw.hid (by rw [lay_len (by rw [HL.out]; exact hpL), HL.out, HMQ.out]; omega)
              have HLAY := Lw.hid (want_laid (b := W) (a := p) (l := al) (z := z) (by rw [HL.out]; exact hpL) (by rw [HL.out, HMQ.out]; omega))
              go_roundw
              case rel => exact ⟨k + 1, done + 1, lay W p (al), a2, c2, vd', by omega, by omega, by go_num, by go_num, by omega, by omega, by rw [HLEN.out], by rw [HLEN.out]; omega, by rw [HLEN.out, ← HLAY.out, HMQ.out]; exact HO'.out, hkk.2, HAP2.out, HT2.out, HTD4.out, hkk.1⟩
              case measure => simp [intOf]; omega
    · have HW := Lw.hid hw; have HD := Lw.hid hd; have HAP := Lw.hid hap; have HTW := Lw.hid hTw; have HTD := Lw.hid hTd; have HK := Lw.hid hkT
      have HWL := Lw.hid hWl
      have hW6 : W.length ≤ 480 := by omega
      obtain ⟨L, hL⟩ : ∃ L, W.length = L := ⟨_, rfl⟩
      have HL := Lw.hid hL
      rw [hL] at hWl HW HAP HTW hW6 ⊢
      clear hL HWL
      have hkl : k ≤ F.length ∧ (k < F.length → k = 12) := ⟨hk, fun h => by omega⟩
      clear hlt
      have helem : k < F.length → ∃ gF offF awhat aat amany ab bl cb, adF = some ⟨gF, offF, none⟩ ∧ wr.cell? ⟨gF, offF + k * 4, none⟩ = some (.int .i64 awhat) ∧ wr.cell? ⟨gF, offF + k * 4 + 1, none⟩ = some (.int .i64 aat) ∧ wr.cell? ⟨gF, offF + k * 4 + 2, none⟩ = some (.int .i64 amany) ∧ wr.cell? ⟨gF, offF + k * 4 + 3, none⟩ = some (.slice ab bl cb) := fun hlt => by
        obtain ⟨gF, offF, hadF, c0, cj⟩ := (HFR.out.1.kept hkT HFT.out).elem (fun _ _ => rfl) (by decide) k hlt
        obtain ⟨ab, cb, hv, _⟩ := (HFR.out.2 _ (List.getElem_mem hlt)).rd.open
        have c3 := cj 3 (by decide)
        simp only [Act4.cells, List.getElem?_cons_zero, List.getElem?_cons_succ, hv] at c3
        exact ⟨gF, offF, _, _, _, ab, _, cb, hadF, c0, cj 1 (by decide), cj 2 (by decide), c3⟩
      have HEL := Lw.hid helem
      clear hw hd hap hTw hTd hkT helem
      have hex : F.length = k ∨ k = 12 ∧ 12 < F.length := by omega
      clear hkl hk12 hdk hF1
      obtain ⟨nF, hnF⟩ : ∃ nF, F.length = nF := ⟨_, rfl⟩
      rw [hnF] at hex HEL hk ⊢
      clear hnF HFR HFT HAT HF40 HTv D3
      have HRD : Hid ((lastD n many done W).rd 0 2000 = W) := Lw.hid (by
        unfold Dsk.rd
        rw [lastD_b, if_neg (by omega)]
        simp only [Int.toNat_zero, List.drop_zero]
        exact List.take_of_length_le (by rw [HL.out]; exact Nat.le_trans hW6 (by decide)))
      obtain ⟨wx, HX1, HD', HW', HK', hgo⟩ : ∃ wx : World, Hid (wr.heap.size ≤ wx.heap.size) ∧ Hid (DiskAt wx g vd (lastD n many done W)) ∧ Hid (wx.ownsRow 0 5 1 (.slice ad L cap) L (W.map bv)) ∧ Hid (Kept T w3 wx) ∧ (nF = k ∧ wx = wr ∨ k < nF ∧ ∃ awhat aat amany ab bl cb, wx = wr.alloc (.cells #[.int .i64 awhat, .int .i64 aat, .int .i64 amany, .slice ab bl cb] 39) ∧ ∃ gF offF, adF = some ⟨gF, offF, none⟩ ∧ wr.cell? ⟨gF, offF + k * 4, none⟩ = some (.int .i64 awhat) ∧ wr.cell? ⟨gF, offF + k * 4 + 1, none⟩ = some (.int .i64 aat) ∧ wr.cell? ⟨gF, offF + k * 4 + 2, none⟩ = some (.int .i64 amany) ∧ wr.cell? ⟨gF, offF + k * 4 + 3, none⟩ = some (.slice ab bl cb)) := by
        rcases hex with h | ⟨h, h'⟩
        · exact ⟨wr, Lw.hid (Nat.le_refl _), HD, HW, HK, .inl ⟨h, rfl⟩⟩
        · obtain ⟨gF, offF, awhat, aat, amany, ab, bl, cb, hc⟩ := HEL.out (by omega)
          have hal := Kept.alloc (Kept.refl (fun _ => False) wr) (.cells #[.int .i64 awhat, .int .i64 aat, .int .i64 amany, .slice ab bl cb] 39)
          exact ⟨_, Lw.hid hal.size, Lw.hid (HD.out.kept hal (fun h => h) (fun _ _ h => h)), Lw.hid (own_kept hal HW.out (fun _ _ h => h)), Lw.hid (HK.out.trans hal (fun _ _ h => h.elim)), .inr ⟨by omega, awhat, aat, amany, ab, bl, cb, rfl, gF, offF, hc⟩⟩
      have hrd := dread_any _ _ _ _ HD'.out (by rw [lastD_b, HL.out]; omega) 0 2000 (by decide) (by decide)
      rw [HRD.out, HL.out] at hrd
      have HRR := Lw.hid hrd
      clear hrd HD HW HK HEL HRD
      rcases hgo with ⟨rfl, rfl⟩ | ⟨hlt, awhat, aat, amany, ab, bl, cb, hwx, gF, offF, rfl, c0, c1, c2, c3⟩
      case' inr =>
        obtain rfl : k = 12 := by omega
        have HWX := Lw.hid hwx
        clear hwx
        go_wp2_with fail
        rw [← HWX.out]
        clear HWX c0 c1 c2 c3 hlt hk hWl hex
      case' inl =>
        go_wp2_with fail
        clear hWl hk hex
      all_goals
        refine HRR.out.mono ?_
        rintro e w5 ⟨r, rfl, o5, k5, hr5⟩
        have D5 := Lw.hid (HD'.out.kept k5 (fun h => h) (fun _ _ h => h))
        have W5 := Lw.hid (own_kept k5 HW'.out (fun _ _ h => h))
        have K5 := Lw.hid (HK'.out.trans k5 (fun _ _ h => h.elim))
        have R5 : Hid (RdB w5 r W) := Lw.hid (RdB.of_own o5 HL.out.symm)
        clear o5 k5 hr5 HRR HD' HW' HK' HX1
        go_wp2_with fail
        refine (sleq_any _ _ _ W W R5.out (RdB.of_own W5.out HL.out.symm) true (by simp)).mono ?_
        rintro e w6 ⟨rfl, k6⟩
        have D6 := Lw.hid (D5.out.kept k6 (fun h => h) (fun _ _ h => h))
        have W6 := Lw.hid (own_kept k6 W5.out (fun _ _ h => h))
        have K6 := Lw.hid (K5.out.trans k6 (fun _ _ h => h.elim))
        have he := dend_any _ _ _ _ D6.out
        have hpu := dputs_any _ _ _ _ D6.out
        have hst := dstopped_any _ _ _ _ D6.out
        rw [lastD_b, HL.out] at he
        rw [lastD_puts _ _ _ _ hdn] at hpu
        rw [lastD_stopped] at hst
        have HE := Lw.hid he; have HPU := Lw.hid hpu; have HST := Lw.hid hst
        clear he hpu hst k6 D5 W5 K5 R5
        have hcs : done ≤ n ∨ done = n + 1 := by omega
        rcases hcs with hcs | rfl
        · have hmin : min done n = done := Nat.min_eq_left hcs
          have hd2 : decide (n < done) = false := decide_eq_false (by omega)
          rw [hmin] at HPU
          rw [hd2] at HST
          clear hmin hd2
          go_wp2_with fail
          refine HE.out.mono ?_
          rintro e _ ⟨rfl, rfl⟩
          go_wp2_with fail
          refine HPU.out.mono ?_
          rintro e _ ⟨rfl, rfl⟩
          go_wp2_with fail
          refine HST.out.mono ?_
          rintro e _ ⟨rfl, rfl⟩
          go_wp2_with fail
          refine HST.out.mono ?_
          rintro e _ ⟨rfl, rfl⟩
          go_wp2_with fail
          clear HE HPU HST
          refine (drevive_any _ _ _ _ D6.out).mono ?_
          rw [show (lastD n many done W).revive = (lastD n many done W, 10) by rw [lastD_pos hcs]; rfl]
          rintro e w7 ⟨rfl, hp⟩
          obtain ⟨v7, d7, k7, t7, z7, r7⟩ := hp.goes K6.out HTg.out HTD.out (HT3.out _ K6.out.size)
          have KEND := Lw.hid k7
          clear d7 k7 t7 z7 r7 hp D6 K6 W6
          go_wp2_with fail
          refine (dtells_any _).mono ?_
          rintro e w9 ⟨rfl, k9⟩
          have K9 := Lw.hid (KEND.out.trans k9 (fun _ _ h => h.elim))
          clear k9
          go_wp2_with fail
          go_ret
          exact ⟨rfl, (K3.out.below (Nat.le_refl _) (fun _ _ h => h)).trans (below_T K9.out K3.out.size (fun q h => ((HT.out q).1 h).1))⟩
        · have hmin : min (n + 1) n = n := Nat.min_eq_right (by omega)
          have hd2 : decide (n < n + 1) = true := decide_eq_true (by omega)
          rw [hmin] at HPU
          rw [hd2] at HST
          clear hmin hd2
          go_wp2_with fail
          refine HE.out.mono ?_
          rintro e _ ⟨rfl, rfl⟩
          go_wp2_with fail
          refine HPU.out.mono ?_
          rintro e _ ⟨rfl, rfl⟩
          go_wp2_with fail
          refine HST.out.mono ?_
          rintro e _ ⟨rfl, rfl⟩
          have hdd : decide ((n : Int) < (n : Int) + 1) = true := decide_eq_true (by omega)
          go_wp2_with fail
          clear hdd
          refine HST.out.mono ?_
          rintro e _ ⟨rfl, rfl⟩
          go_wp2_with fail
          clear HE HPU HST
          refine (dplan_any _ _ _ _ D6.out 1 1).mono ?_
          rw [show (lastD n many (n + 1) W).plan 1 1 = (lastD n many (n + 1) W, 10) by rw [lastD_neg (by omega)]; rfl]
          rintro e w7 ⟨rfl, hp⟩
          obtain ⟨v7, d7, k7, t7, z7, r7⟩ := hp.goes K6.out HTg.out HTD.out (HT3.out _ K6.out.size)
          obtain ⟨o7, a7⟩ := r7 _ _ _ W6 HAP.out
          have D7 := Lw.hid d7; have K7 := Lw.hid k7; have T7 := Lw.hid t7
          clear d7 k7 t7 z7 r7 hp o7 a7 D6 K6 W6 HTD HAP HTW
          go_wp2_with fail
          refine (dput_any _ _ _ _ D7.out (lastD_ok hn14 hm49 hdn (by rw [HL.out]; omega)) 0 (by decide) _ [] (RdB.nil _) (fun h => absurd rfl h)).mono ?_
          rw [lastD_gt]
          rintro e w8 ⟨rfl, hp⟩
          obtain ⟨v8, d8, k8, t8, z8, r8⟩ := hp.goes K7.out HTg.out T7.out (HT3.out _ K7.out.size)
          have D8 := Lw.hid d8; have K8 := Lw.hid k8; have T8 := Lw.hid t8
          clear d8 k8 t8 z8 r8 hp D7 K7 T7
          go_wp2_with fail
          refine (drevive_any _ _ _ _ D8.out).mono ?_
          rw [show (lastD n many (n + 1) W).revive = (⟨2000, W, n, false, false, 0, 0⟩, 0) by rw [lastD_neg (by omega)]; rfl]
          rintro e w10 ⟨rfl, hp⟩
          obtain ⟨v10, d10, k10, t10, z10, r10⟩ := hp.goes K8.out HTg.out T8.out (HT3.out _ K8.out.size)
          have D10 := Lw.hid d10; have K10 := Lw.hid k10; have T10 := Lw.hid t10
          have hg10 := heap_lt d10.box
          have hv10 := own_lt d10.own
          have HV10 := Lw.hid hv10
          clear d10 k10 t10 z10 r10 hp D8 K8 T8 hv10
          go_wp2_with (refine wpList_const rfl _ _ rfl _ _ _ _ rfl (by simp) Try.underlying22 Try.underlying5 ?_)
          refine (dput_any _ g _ _ (D10.out.kept ((Kept.refl (fun _ => False) w10).alloc _) (fun h => h) (fun _ _ h => h)) (Dsk.ok_mk (by rw [HL.out]; omega) (by decide) (by omega) (by decide) (by decide) (fun _ => by decide)) (L : Int) (by omega) _ [111, 110] (RdB.mark w10 [111, 110] _ _ _ 2 rfl rfl (by decide)) (fun _ q hq => by have := blk_new hq; exact ⟨by omega, fun h => by have := HV10.out q h; omega⟩)).mono ?_
          rw [show (⟨2000, W, n, false, false, 0, 0⟩ : Dsk).put (L : Int) [111, 110] = (⟨2000, W ++ [111, 110], n + 1, false, false, -1, 0⟩, 0) by
            unfold Dsk.put
            simp only
            rw [if_neg (by simp), if_neg (by rw [HL.out]; omega), if_neg (by simp; omega), if_neg (by simp)]
            simp [lay]
            rw [← HL.out]; simp]
          rintro e w11 ⟨rfl, hp⟩
          obtain ⟨v11, d11, k11, t11, z11, r11⟩ := hp.goes (K10.out.trans ((Kept.refl (fun _ => False) w10).alloc _) (fun _ _ h => h.elim)) HTg.out T10.out (fun q hq => HT3.out _ K10.out.size q (by simp at hq; omega))
          simp only at d11
          have D11 := Lw.hid d11; have K11 := Lw.hid k11; have T11 := Lw.hid t11
          clear d11 k11 t11 z11 r11 hp D10 K10 T10 HV10 hg10
          go_wp2_with fail
          refine (dread_any _ _ _ _ D11.out (by simp [HL.out]; omega) (L : Int) 9 (by omega) (by decide)).mono ?_
          rw [show (⟨2000, W ++ [111, 110], n + 1, false, false, -1, 0⟩ : Dsk).rd (L : Int) 9 = [111, 110] by
            unfold Dsk.rd
            rw [if_neg (by simp [HL.out]; omega)]
            simp [← HL.out]]
          rintro e w12 ⟨r, rfl, o12, k12, _⟩
          have D12 := Lw.hid (D11.out.kept k12 (fun h => h) (fun _ _ h => h))
          have K12 := Lw.hid (K11.out.trans k12 (fun _ _ h => h.elim))
          have R12 : Hid (RdB w12 r [111, 110]) := Lw.hid (RdB.of_own o12 rfl)
          clear o12 k12 D11 K11
          go_wp2_with (refine wpList_str rfl _ _ _ rfl _ _ rfl R12.out Try.underlying22 Try.underlying5 Try.underlying9 ?_)
          refine (drevive_any _ _ _ _ D12.out).mono ?_
          rintro e w13 ⟨rfl, hp⟩
          obtain ⟨v13, d13, k13, t13, z13, r13⟩ := hp.goes K12.out HTg.out T11.out (HT3.out _ K12.out.size)
          have KEND := Lw.hid k13
          clear d13 k13 t13 z13 r13 hp D12 K12
          go_wp2_with fail
          refine (dtells_any _).mono ?_
          rintro e w9 ⟨rfl, k9⟩
          have K9 := Lw.hid (KEND.out.trans k9 (fun _ _ h => h.elim))
          clear k9
          go_wp2_with fail
          go_ret
          exact ⟨rfl, (K3.out.below (Nat.le_refl _) (fun _ _ h => h)).trans (below_T K9.out K3.out.size (fun q h => ((HT.out q).1 h).1))⟩
end Go.Proofs.Ytoiinmiedmjghaa
