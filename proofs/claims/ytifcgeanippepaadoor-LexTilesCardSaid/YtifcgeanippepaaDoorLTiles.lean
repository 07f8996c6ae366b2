/- LexTiles, walked. -/
import Derived.Test.YtifcgeanippepaaDoorTilesH
import Derived.WalkLawsBesides
namespace Go.Proofs.YtifcgeanippepaaDoor
open Go Go.RowKit Go.Lw
set_option maxRecDepth 100000
set_option linter.unusedVariables false
set_option linter.unusedSimpArgs false
attribute [local go_sem] BA_toList
theorem BA_min (l : List UInt8) (m : Nat) (M : Int) (h : M = m) : (BA l).extract 0 (min (l.length : Int) M).toNat = BA (l.take m) := by
  subst h
  rw [BA_head]
  congr 1
  rw [show (min (l.length : Int) (m : Int)).toNat = min m l.length by omega]
  rw [List.take_eq_take_iff]; omega
set_option maxHeartbeats 16000000 in
theorem ltiles_any (w : World) (s0 : List UInt8) (hE : LEnv w) (hs9 : s0.length ≤ 9223372036854775807) :
    Calls Tryd.prog 10 #[.string (BA s0)] w fun x w' => x = .returned (.bool true) ∧ Kept (fun _ => False) w w' := by
  have HE := Lw.hid hE
  clear hE
  have hs0 := BA_size s0
  have e1 := BA_min s0 800 800 rfl
  obtain ⟨s, hs⟩ : ∃ s, s0.take 800 = s := ⟨_, rfl⟩
  have hsl : s.length ≤ 800 := by rw [← hs]; exact List.length_take_le _ _
  rw [hs] at e1
  obtain ⟨n0, hn0⟩ : ∃ n, s0.length = n := ⟨_, rfl⟩
  rw [hn0] at e1 hs0 hs9
  obtain ⟨N, hN⟩ : ∃ N, s.length = N := ⟨_, rfl⟩
  have hqs := BA_size s
  rw [hN] at hqs hsl
  have HN := Lw.hid hN
  clear hs hn0 hN
  cases hlex : lexT s with
  | error e =>
    have HL := Lw.hid hlex
    have HE0 : Hid (e ≠ 0) := Lw.hid (fun h0 => by subst h0; exact lexT_ne0 hlex)
    have hen : ((e : Int) != 0) = true := by have := HE0.out; simp [bne]; omega
    clear hlex
    go_enter Tryd.func10, Tryd.ntmps10
    go_wp2_with fail
    refine (lex_err w s e HE.out HL.out (by rw [HN.out]; omega)).mono ?_
    rintro x w1 ⟨rfl, k1⟩
    have K1 := Lw.hid k1
    clear k1
    go_wp2_with fail
    refine (tells_any _ (HE.out.kept K1.out)).mono ?_
    rintro x w2 ⟨rfl, k2⟩
    have K2 := Lw.hid (K1.out.trans k2 (fun _ _ h => h))
    clear k2
    go_wp2_with fail
    go_ret
    exact ⟨rfl, K2.out⟩
  | ok l =>
    have HL := Lw.hid hlex
    have HT := Lw.hid (lexT_tiles hlex)
    clear hlex
    go_enter Tryd.func10, Tryd.ntmps10
    go_wp2_with fail
    refine (lex_ok w s l HE.out HL.out (by rw [HN.out]; omega)).mono ?_
    rintro x w1 ⟨⟨v, rfl, ho, hb, hl9⟩, k1⟩
    have HRD := Lw.hid (Rd.own ho)
    have K1 := Lw.hid k1
    obtain ⟨n, hn⟩ : ∃ n, l.length = n := ⟨_, rfl⟩
    have HLN := Lw.hid hn
    rw [hn] at hl9
    clear ho hb k1 hn
    go_wp2_with fail
    refine (clone_tk _ v l HRD.out (by rw [HLN.out]; omega)).mono ?_
    rintro x w2 ⟨v2, rfl, ho2, k2, hb2⟩
    have HO2 := Lw.hid ho2; have HB2 := Lw.hid hb2
    have K2 := Lw.hid (K1.out.trans k2 (fun _ _ h => h))
    have hzz := k2.size
    have HO3 : Hid ((w2.alloc (.cells #[.int .i64 0, .string ⟨#[]⟩, .int .i64 (N : Int)] 28)).ownsRow 0 28 3 v2 l.length (l.flatMap Tk.cells)) := Lw.hid (own_kept ((Kept.refl (fun _ => False) w2).alloc _) ho2 (fun _ _ h => h))
    have HR3 : Hid (Rd (w2.alloc (.cells #[.int .i64 0, .string ⟨#[]⟩, .int .i64 (N : Int)] 28)) 3 (.slice (some ⟨w2.heap.size, 0, none⟩) 1 1) 1 [.int .i64 0, .string ⟨#[]⟩, .int .i64 (N : Int)]) := Lw.hid (Rd.lit w2 [.int .i64 0, .string ⟨#[]⟩, .int .i64 (N : Int)] 28 3 w2.heap.size 1 rfl rfl (by decide))
    have hone : ∀ u ∈ ([.int .i64 0, .string ⟨#[]⟩, .int .i64 (N : Int)] : List Value), u.oneCell' = true := tk_one ⟨0, [], N⟩
    have HONE := Lw.hid hone
    rw [HLN.out] at HO3
    clear ho2 hb2 k2 hone
    go_wp2_with (at_builtin; refine wpList_app rfl _ _ _ rfl ETk _ n _ rfl HO3.out _ 1 _ rfl HR3.out HONE.out (by unfold maxLen; omega) (by omega) ?_; intro ad4 cap4 w4 ho4 hg4 hf4)
    have HL4 : Hid ((l ++ [(⟨0, [], N⟩ : Tk)]).length = n + 1) := Lw.hid (by rw [List.length_append, HLN.out]; rfl)
    have HO4 : Hid (w4.ownsRow 0 28 3 (.slice ad4 (n + 1) cap4) (l ++ [(⟨0, [], N⟩ : Tk)]).length ((l ++ [(⟨0, [], N⟩ : Tk)]).flatMap Tk.cells)) := Lw.hid (by
      rw [HL4.out, List.flatMap_append]
      exact ho4)
    have K4 : Hid (Kept (fun _ => False) w w4) := Lw.hid ((K2.out.alloc _).grown hg4 (fun k hk hl => by
      have h1 := HB2.out k hk
      have h2 := K1.out.size
      omega))
    obtain ⟨ad, cap, e, h11, h12, h13⟩ := own_slice ho4
    cases e
    obtain ⟨g, rfl⟩ := h13 (by omega)
    unfold maxLen at h12
    obtain ⟨L, hL⟩ : ∃ L, l ++ [(⟨0, [], N⟩ : Tk)] = L := ⟨_, rfl⟩
    rw [hL] at HO4
    have HLL := Lw.hid hL
    clear ho4 hg4 hf4 HO3 HR3 HONE HRD HO2 HB2 hL HL4 h13 hzz
    go_wp2_with fail
    go_loopg [5, 42] (n + 1) (fun gk s5 s42 wx => ∃ k a : Nat, gk = n + 1 - k ∧ k ≤ n ∧ s5 = .int .i64 (a : Int) ∧ s42 = .int .i64 (k : Int) ∧ a ≤ N ∧ Tiled s a (l.drop k) ∧ Kept (fun _ => False) w4 wx)
    case atStart => exact ⟨0, 0, rfl, Nat.zero_le _, rfl, rfl, Nat.zero_le _, HT.out, Kept.refl _ _⟩
    case round =>
      obtain ⟨k, a, rfl, hk, rfl, rfl, haN, htl, hkk⟩ := hrel
      have HKK := Lw.hid hkk
      have HOW := Lw.hid (own_kept hkk HO4.out (fun _ _ h => h))
      obtain ⟨t, ht⟩ : ∃ t, L[k]? = some t := ⟨_, List.getElem?_eq_getElem (by rw [← HLL.out, List.length_append, HLN.out, List.length_singleton]; omega)⟩
      obtain ⟨⟨p1, p2, p3, p4⟩, p5⟩ := tiles_at htl (by rw [HN.out]; exact haN) (by rw [HLN.out]; exact hk) (by rw [HN.out, HLL.out]; exact ht)
      obtain ⟨c0, c1, c2⟩ := tk_at HOW.out k t ht
      obtain ⟨kd, tx, ps⟩ := t
      simp only at p1 p2 p3 p4 p5 c0 c1 c2
      obtain ⟨tl, htl9⟩ : ∃ tl, tx.length = tl := ⟨_, rfl⟩
      have hzt := BA_size tx
      rw [htl9] at p2 p3 hzt p5
      rw [HN.out] at p2
      have HTL := Lw.hid htl9; have HP4 := Lw.hid p4; have HP5 := Lw.hid p5
      have b1 : decide (ps < a) = false := decide_eq_false (by omega)
      have b1' : decide ((ps : Int) < (a : Int)) = false := decide_eq_false (by omega)
      have b2 : decide ((N : Int) < (ps : Int) + (tl : Int)) = false := decide_eq_false (by omega)
      have b2' : decide (N < ps + tl) = false := decide_eq_false (by omega)
      have b3 : (BA s).extract ps (ps + tl) = BA tx := by rw [BA_extract, List.drop_take, Nat.add_sub_cancel_left, p3]
      have hkl : k < n + 1 := by omega
      clear hkk htl ht htl9 p3 p4 p5
      go_wp2_with fail
      obtain ⟨gt, hgt⟩ : ∃ gt, wr.heap.size = gt := ⟨_, rfl⟩
      obtain ⟨w5, hw5⟩ : ∃ w5, wr.alloc (.cells #[.int .i64 (kd : Int), .string (BA tx), .int .i64 (ps : Int)] 28) = w5 := ⟨_, rfl⟩
      have HH : Hid (w5.heap[gt]? = some (.cells #[.int .i64 (kd : Int), .string (BA tx), .int .i64 (ps : Int)] 28 (0, 0))) := Lw.hid (by rw [← hw5, ← hgt]; exact heap_alloc wr _)
      have K5 : Hid (Kept (fun _ => False) w4 w5) := Lw.hid (by rw [← hw5]; exact HKK.out.alloc _)
      rw [hgt, hw5]
      have d0 : w5.cell? ⟨gt, 0, none⟩ = some (.int .i64 (kd : Int)) := heap_cell HH.out 0
      have d1 : w5.cell? ⟨gt, 1, none⟩ = some (.string (BA tx)) := heap_cell HH.out 1
      have d2 : w5.cell? ⟨gt, 2, none⟩ = some (.int .i64 (ps : Int)) := heap_cell HH.out 2
      have hbx : (BA tx != BA tx) = false := by rw [bne, BA_beq]; simp
      clear hgt hw5 c0 c1 c2 HOW HKK
      go_quiet (fail)
      go_wp2_with fail
      have b4 : (BA s).extract a ps = BA ((s.drop a).take (ps - a)) := by rw [BA_extract, List.drop_take]
      obtain ⟨gp, hgp⟩ : ∃ gp, (s.drop a).take (ps - a) = gp := ⟨_, rfl⟩
      have hgl : gp.length ≤ 800 := by rw [← hgp, List.length_take]; omega
      rw [hgp] at b4 HP4
      clear hgp
      rw [b4]
      have HE6 : Hid (LEnv (w5.drewN nq)) := Lw.hid (HE.out.kept (K4.out.trans (K5.out.trans (kept_drewN' _ nq) (fun _ _ h => h)) (fun _ _ h => h)))
      refine (split_any _ gp HP4.out HE6.out (by omega)).mono ?_
      rintro x w7 ⟨rfl, hw7⟩
      obtain ⟨gs, hgs⟩ : ∃ gs, (w5.drewN nq).heap.size = gs := ⟨_, rfl⟩
      have HC7 : Hid (w7.heap[gs]? = some (.cells #[.string (BA gp)] 9 (0, 0))) := Lw.hid (by rw [hw7, ← hgs]; exact heap_alloc _ _)
      have K57 : Hid (Kept (fun _ => False) w5 w7) := Lw.hid (by rw [hw7]; exact (kept_drewN' _ nq).alloc _)
      have K7 : Hid (Kept (fun _ => False) w4 w7) := Lw.hid (K5.out.trans K57.out (fun _ _ h => h))
      have HH7 : Hid (w7.heap[gt]? = some (.cells #[.int .i64 (kd : Int), .string (BA tx), .int .i64 (ps : Int)] 28 (0, 0))) := Lw.hid (Kept.heap K57.out HH.out (fun h => h))
      rw [hgs]
      clear hgs hw7 d0 d1 d2 HH K5 HE6 b4 K57
      obtain ⟨wo, rfl⟩ : ∃ wo : World, wo = wr := ⟨_, rfl⟩
      go_wp2_with fail
      go_loopg [83] 1 (fun gk s83 wx => ∃ j : Nat, gk = 1 - j ∧ j ≤ 1 ∧ s83 = .int .i64 (j : Int) ∧ Kept (fun _ => False) w7 wx)
      case atStart => exact ⟨0, rfl, Nat.zero_le _, rfl, Kept.refl _ _⟩
      case round =>
        obtain ⟨j, rfl, hj, rfl, hkj⟩ := hrel
        have HKJ := Lw.hid hkj
        clear hkj
        by_cases hj0 : j < 1
        · obtain rfl : j = 0 := by omega
          have e0 : wr.cell? ⟨gs, 0, none⟩ = some (.string (BA gp)) := heap_cell (Kept.heap HKJ.out HC7.out (fun h => h)) 0
          go_wp2_with fail
          refine (trim_any _ gp HP4.out (by omega)).mono ?_
          rintro x w8 ⟨b, rfl, hb, k8⟩
          have HK8 := Lw.hid (HKJ.out.trans k8 (fun _ _ h => h))
          clear k8 e0
          rcases hb with rfl | ⟨r, rfl⟩
          · have hbn : (BA ([] : List UInt8) != (⟨#[]⟩ : ByteArray)) = false := rfl
            go_wp2_with fail
            go_roundg 0
            case measure => omega
            case rel => exact ⟨1, rfl, Nat.le_refl _, rfl, HK8.out⟩
          · have hbn : (BA (35 :: r) != (⟨#[]⟩ : ByteArray)) = true := by rw [bne, BA_ne_nil (by simp)]; rfl
            have hbz : (BA (35 :: r)).size = r.length + 1 := BA_size _
            have hb0 := BA_get (l := 35 :: r) (k := 0) (c := 35) rfl
            go_wp2_with fail
            go_roundg 0
            case measure => omega
            case rel => exact ⟨1, rfl, Nat.le_refl _, rfl, HK8.out⟩
        · obtain rfl : j = 1 := by omega
          have HHR : Hid (wr.heap[gt]? = some (.cells #[.int .i64 (kd : Int), .string (BA tx), .int .i64 (ps : Int)] 28 (0, 0))) := Lw.hid (Kept.heap HKJ.out HH7.out (fun h => h))
          have K8 : Hid (Kept (fun _ => False) w4 wr) := Lw.hid (K7.out.trans HKJ.out (fun _ _ h => h))
          have d0 : wr.cell? ⟨gt, 0, none⟩ = some (.int .i64 (kd : Int)) := heap_cell HHR.out 0
          have d1 : wr.cell? ⟨gt, 1, none⟩ = some (.string (BA tx)) := heap_cell HHR.out 1
          have d2 : wr.cell? ⟨gt, 2, none⟩ = some (.int .i64 (ps : Int)) := heap_cell HHR.out 2
          clear HKJ K7 HH7 HC7 hj hj0 b1 b1' b2 b2' b3
          rcases HP5.out with ⟨hkn, hal, hti⟩ | ⟨hkn, hkd⟩
          · obtain ⟨hk0, hlx, hw⟩ := hal
            have HLX := Lw.hid hlx; have HW := Lw.hid hw; have HTI := Lw.hid hti
            have q0 : ((kd : Int) == 0) = false := beq_eq_false_iff_ne.2 (by simp only at hk0; omega)
            have KW : Hid (Kept (fun _ => False) w wr) := Lw.hid (K4.out.trans K8.out (fun _ _ h => h))
            clear hlx hw hti hk0 HP5
            obtain ⟨wi, rfl⟩ : ∃ wi : World, wi = wr := ⟨_, rfl⟩
            go_wp2_with fail
            refine (lex_ok _ tx [⟨kd, tx, 0⟩] (HE.out.kept KW.out) HLX.out (by rw [HTL.out]; omega)).mono ?_
            rintro x w9 ⟨⟨v9, rfl, ho9, hb9, _⟩, k9⟩
            obtain ⟨ad9, cp9, rfl, h91, h92, h93⟩ := own_slice ho9
            obtain ⟨g9, rfl⟩ := h93 Nat.zero_lt_one
            unfold maxLen at h92
            have r0 : w9.cell? ⟨g9, 0, none⟩ = some (.int .i64 (kd : Int)) := tk_cell ho9 0 _ rfl
            have r1 : w9.cell? ⟨g9, 1, none⟩ = some (.string (BA tx)) := tk_cell ho9 1 _ rfl
            have r2 : w9.cell? ⟨g9, 2, none⟩ = some (.int .i64 0) := tk_cell ho9 2 _ rfl
            have HH9 := Lw.hid (Kept.heap k9 HHR.out (fun h => h))
            have t0 : w9.cell? ⟨gt, 0, none⟩ = some (.int .i64 (kd : Int)) := heap_cell HH9.out 0
            have t1 : w9.cell? ⟨gt, 1, none⟩ = some (.string (BA tx)) := heap_cell HH9.out 1
            have K9 := Lw.hid (K8.out.trans k9 (fun _ _ h => h))
            clear ho9 hb9 k9 h93 d0 d1 d2
            go_wp2_with fail
            go_quiet (fail)
            go_wp2_with fail
            · have hkn2 : k + 1 ≤ n := by have := HLN.out; omega
              go_roundg (n + 1 - (k + 1))
              case measure => omega
              case rel => exact ⟨k + 1, ps + tl, rfl, hkn2, by go_num, by go_num, p2, HTI.out, K9.out.trans (kept_drewN' _ _) (fun _ _ h => h)⟩
            · have hkn2 : k + 1 ≤ n := by have := HLN.out; omega
              rename_i h1
              have hk1 : kd = 1 := by
                have : ((kd : Int) == 1) = true := by simpa [bne] using h1
                have := beq_iff_eq.1 this
                omega
              have HWT := Lw.hid (HW.out hk1)
              have K9' := Lw.hid (K9.out.trans (kept_drewN' w9 nq) (fun _ _ h => h))
              have htx : tx.length ≤ 800 := by rw [HTL.out]; omega
              have HTX := Lw.hid htx
              clear h1 hk1 htx HW r0 r1 r2 t0 t1 HHR KW HH9
              go_loopg [13] tx.length (fun gk s13 wx => ∃ r : List UInt8, gk = r.length ∧ s13 = .string (BA r) ∧ WordT r ∧ r.length ≤ 800 ∧ Kept (fun _ => False) w4 wx)
              case atStart => exact ⟨tx, rfl, rfl, HWT.out, HTX.out, K9'.out⟩
              case round =>
                obtain ⟨r, rfl, rfl, hwr, hrl, hkr⟩ := hrel
                have HWR := Lw.hid hwr; have HKR := Lw.hid hkr; have HRL := Lw.hid hrl
                clear hwr hkr hrl
                cases r with
                | nil =>
                  have hbn : (BA ([] : List UInt8) != (⟨#[]⟩ : ByteArray)) = false := rfl
                  go_wp2_with fail
                  go_roundg (n + 1 - (k + 1))
                  case measure => omega
                  case rel => exact ⟨k + 1, ps + tl, rfl, hkn2, by go_num, by go_num, p2, HTI.out, HKR.out⟩
                | cons c r =>
                  have hbn : (BA (c :: r) != (⟨#[]⟩ : ByteArray)) = true := by rw [bne, BA_ne_nil (by simp)]; rfl
                  obtain ⟨m, hm1, hm2, hpt, hwd⟩ := word_piece HWR.out
                  have hbz : (BA (c :: r)).size = r.length + 1 := BA_size _
                  have htl := BA_tail (c :: r) m (r.length + 1) rfl
                  have HWD := Lw.hid hwd; have HPT := Lw.hid hpt
                  have HRL' : Hid (r.length + 1 ≤ 800) := HRL
                  obtain ⟨rl, hrl⟩ : ∃ rl, r.length = rl := ⟨_, rfl⟩
                  have HRR : Hid (((c :: r).drop m).length = rl + 1 - m ∧ (c :: r).length = rl + 1) := Lw.hid (by rw [List.length_drop, List.length_cons, hrl]; exact ⟨rfl, rfl⟩)
                  rw [hrl] at hm2 hbz htl HRL'
                  obtain ⟨rd, hrd⟩ : ∃ rd, (c :: r).drop m = rd := ⟨_, rfl⟩
                  rw [hrd] at htl HWD HRR
                  have z1 : decide ((m : Int) < 1) = false := decide_eq_false (by omega)
                  have z2 : decide (rl + 1 < m) = false := decide_eq_false (by omega)
                  have z3 : decide ((rl : Int) + 1 < (m : Int)) = false := decide_eq_false (by omega)
                  clear hwd hpt hrl hrd HRL
                  go_wp2_with fail
                  refine (piece_fn _ (c :: r) (by rw [HRR.out.2]; have := HRL'.out; omega)).mono ?_
                  rw [HPT.out]
                  rintro x wp ⟨rfl, kp⟩
                  have HKP := Lw.hid (HKR.out.trans kp (fun _ _ h => h))
                  clear kp
                  go_wp2_with fail
                  go_roundg rd.length
                  case measure => have := HRR.out; omega
                  case rel => exact ⟨rd, rfl, rfl, HWD.out, by have := HRR.out; have := HRL'.out; omega, HKP.out⟩
          · subst hkd
            have KW : Hid (Kept (fun _ => False) w wr) := Lw.hid (K4.out.trans K8.out (fun _ _ h => h))
            clear HP5
            go_wp2_with fail
            refine (tells_any _ (HE.out.kept KW.out)).mono ?_
            rintro x w9 ⟨rfl, k9⟩
            have K9 := Lw.hid (KW.out.trans k9 (fun _ _ h => h))
            clear k9
            go_wp2_with fail
            go_ret
            exact ⟨rfl, K9.out⟩
theorem ltiles_below (w : World) (s0 : ByteArray) (hE : LEnv w) (hs9 : s0.size ≤ 9223372036854775807) : Calls Tryd.prog 10 #[.string s0] w fun e w' => e = .returned (.bool true) ∧ Below w.heap.size w w' := by
  have h := ltiles_any w s0.data.toList hE (by rw [← BA_size, ← BA_of]; exact hs9)
  rw [← BA_of] at h
  exact h.mono fun _ _ ⟨e, k⟩ => ⟨e, Below.of_kept k⟩
end Go.Proofs.YtifcgeanippepaaDoor
