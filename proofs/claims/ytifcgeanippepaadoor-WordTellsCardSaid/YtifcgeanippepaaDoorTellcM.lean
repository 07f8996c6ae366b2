/- WordTells: the document's reader: word, at the level brc. -/
import Derived.Test.YtifcgeanippepaaDoorTellLM
import Derived.Deep.DeepCutAuto
namespace Go.Proofs.YtifcgeanippepaaDoor
open Go Go.RowKit Go.Lw
set_option maxRecDepth 100000
set_option linter.unusedVariables false
set_option linter.unusedSimpArgs false
attribute [local go_sem] BA_toList
set_option maxHeartbeats 20000000 in
theorem wz_brc (q : Bool) (w : World) (g : Nat) (S : List UInt8) (a : Nat) (hS9 : S.length ≤ 100000) (ha : a ≤ S.length) (h : RdZ w g S a false) (HW : Hid (∀ M, M < S.length - a → CWordZ M)) :
    Calls Tryd.prog 97 #[.pointer (some ⟨g, 0, none⟩), .int .u8 125, .bool q] w (WordZ w g S a .brc q) := by
  have HST : Hid (LZ w g S a .brc q (S.length - a) (.slice none 0 0) w) := Lw.hid ⟨a, [], false, rfl, h, WLZ.nil w g h.lt (K1.refl g w), (fun e => (by cases e)), (fun _ => ⟨rfl, Nat.le_refl _, by show 0 + a ≤ a; omega, by show 0 + a ≤ a; omega⟩), by omega, by show 0 + a ≤ _; omega, by show 0 + a ≤ _; omega, fun _ => rfl⟩
  have hzz := BA_size S
  clear h
  go_enter Tryd.func97, Tryd.ntmps97
  go_wp2_with fail
  go_loopg [7] (S.length - a) (fun gk s7 wx => LZ w g S a .brc q gk s7 wx)
  case atStart => exact HST.out
  case round =>
    obtain ⟨c, l, bad, rfl, hr, hl, h1, h2, h3, h4, h5, h6⟩ := hrel
    obtain ⟨⟨g0, g1, g2⟩, gf0, gf1, gf2⟩ := hr.cells
    have HR := Lw.hid hr; have HL := Lw.hid hl; have H1 := Lw.hid h1; have H2 := Lw.hid h2; have H6 := Lw.hid h6
    have hgl : g < wr.heap.size := hr.lt
    obtain ⟨N, hN⟩ : ∃ N, S.length = N := ⟨_, rfl⟩
    have HN := Lw.hid hN
    rw [hN] at h3 h4 h5 hS9 hzz ha
    clear hr hl h1 h2 h6 HST hN
    by_cases hlt : c < N
    case neg =>
      have hdl : decide (c < N) = false := decide_eq_false hlt
      go_wp2_with fail
      go_quiet (fail)
      go_wp2_with fail
      go_ret
      exact LZ.fin HR.out HL.out H1.out H2.out (fun _ => by rw [List.drop_eq_nil_of_le (by rw [HN.out]; omega)]; exact readG_nil _ _ _ _) (by rw [HN.out]; exact h3) (by rw [HN.out]; exact h4) (by rw [HN.out]; exact h5) H6.out
    have hdl : decide (c < N) = true := decide_eq_true hlt
    cases bad with
    | true =>
      go_wp2_with fail
      go_quiet (fail)
      go_wp2_with fail
      go_ret
      exact LZ.fin HR.out HL.out (fun _ => by first | exact H1.out rfl | exact H1.out trivial) (fun e => (by cases e)) (fun e => (by cases e)) (by rw [HN.out]; exact h3) (by rw [HN.out]; exact h4) (by rw [HN.out]; exact h5) H6.out
    | false =>
      have HJ := Lw.hid (H2.out (by first | rfl | trivial))
      clear H2 H1
      obtain ⟨b, r, hbr⟩ : ∃ b r, S.drop c = b :: r := by
        cases e : S.drop c with
        | nil => have := congrArg List.length e; rw [List.length_drop, HN.out] at this; simp at this; omega
        | cons b r => exact ⟨b, r, rfl⟩
      obtain ⟨hc0, hd1, hl1⟩ := drop_cons hbr
      have gb := BA_get hc0
      have HBR := Lw.hid hbr; have HD1 := Lw.hid hd1
      have hlc : l.length ≤ 100000 := by have := HJ.out; omega
      have htc : tmass l ≤ 1000000 := by have := HJ.out; omega
      have HLC := Lw.hid hlc; have HTC := Lw.hid htc
      clear hbr hc0 hd1 hl1 hlc htc
      by_cases he : b = 125
      · have be : ((b.toNat : Int) == 125) = true := by rw [he]; rfl
        have HFIN : Hid (readG refR .brc q l ⟨S.drop c, false⟩ = (l, ⟨S.drop c, false⟩)) := Lw.hid (by rw [HBR.out, he]; exact readG_end _ _ _ _ rfl)
        clear he
        go_wp2_with fail
        go_quiet (fail)
        go_wp2_with fail
        go_quiet (fail)
        go_wp2_with fail
        go_ret
        exact LZ.fin HR.out HL.out (fun e => (by cases e)) (fun _ => HJ.out) (fun _ => HFIN.out) (by rw [HN.out]; exact h3) (by rw [HN.out]; exact h4) (by rw [HN.out]; exact h5) H6.out
      have be : ((b.toNat : Int) == 125) = false := u8ne (k := 125) rfl he
      by_cases h92 : b = 92
      · have b92 : ((b.toNat : Int) == 92) = true := by rw [h92]; rfl
        cases r with
        | nil =>
          have hcN : c + 1 = N := by
            have e := congrArg List.length HBR.out
            rw [List.length_drop, HN.out] at e
            simp at e; omega
          have hcN1 : N ≤ c + 1 := by omega
          have hd2 : decide (c + 1 < N) = false := decide_eq_false (by omega)
          have hd3 : decide ((c : Int) + 1 < (N : Int)) = false := decide_eq_false (by omega)
          have HSTEP : Hid (readG refR .brc q l ⟨S.drop c, false⟩ = readG refR .brc q (putF l (.mk 1 [b] [] q)) ⟨S.drop (c + 1), false⟩) := Lw.hid (by rw [HD1.out, HBR.out, h92]; exact readG_pr _ _ _ _)
          have eX : (BA S).extract c (c + 1) = BA [b] := by rw [BA_extract, List.drop_take, Nat.add_sub_cancel_left, HBR.out]; rfl
          have b36 : ((b.toNat : Int) == 36) = false := by rw [h92]; rfl
          have b39 : ((b.toNat : Int) == 39) = false := by rw [h92]; rfl
          have b34 : ((b.toNat : Int) == 34) = false := by rw [h92]; rfl
          clear h92 hcN
          go_wp2_with fail
          go_quiet (fail)
          obtain ⟨m1, rfl⟩ : ∃ m, m = nq := ⟨_, rfl⟩
          go_wp2_with fail
          go_quiet (fail)
          obtain ⟨m2, rfl⟩ : ∃ m, m = nq := ⟨_, rfl⟩
          go_wp2_with fail
          go_quiet (fail)
          obtain ⟨m3, rfl⟩ : ∃ m, m = nq := ⟨_, rfl⟩
          go_wp2_with fail
          have HR5 : Hid (RdZ (wr.drewN (m1 + m2 + m3)) g S c false) := Lw.hid (by exact HR.out)
          have K5 : Hid (K1 g wr (wr.drewN (m1 + m2 + m3))) := Lw.hid (K1.drewN g wr _)
          generalize wr.drewN (m1 + m2 + m3) = w5 at *
          have hg5 := HR5.out.lt
          clear g0 g1 g2 gf0 gf1 gf2
          refine wp_region_tail 17 [stV u7, stV (.pointer (some ⟨g, 0, none⟩)), stV (.pointer (some ⟨g, 0, none⟩)), stV (.pointer (some ⟨g, 0, none⟩)), stV (.string (BA S)), stV (.pointer (some ⟨g, 0, none⟩)), stV (.pointer (some ⟨g, 0, none⟩)), stV (.pointer (some ⟨g, 1, none⟩)), stV (.int .i64 (c : Int)), stV (.pointer (some ⟨g, 0, none⟩)), stV (.pointer (some ⟨g, 0, none⟩)), stV (.pointer (some ⟨g, 1, none⟩)), stV (.int .i64 (c : Int)), stV (.int .i64 ((c : Int) + 1)), stV (.string (BA [b])), stV (.bool q), stV (.agg #[.int .i64 1, .string (BA [b]), .slice none 0 0, .bool q])] (by kernel_rfl) (by kernel_rfl) ?_ ?_
          · -- each operation by itself
            refine ssteps_cons (fun a' w' hI hag hf K hK => ?_) ?_
            · have s7 := hag.same 7 (by decide)
              clear hag
              go_wp2_with fail
              exact hK _ _ hI (Kept.refl _ _) rfl
            refine ssteps_cons (fun a' w' hI hag hf K hK => ?_) ?_
            · have s0 := hag.same 0 (by decide)
              clear hag
              go_wp2_with fail
              exact hK _ _ hI (Kept.refl _ _) rfl
            refine ssteps_cons (fun a' w' hI hag hf K hK => ?_) ?_
            · obtain ⟨⟨_, h1, rfl⟩, -⟩ : SFacts _ _ a' w' [1] := hf
              clear hag
              go_wp2_with fail
              exact hK _ _ hI (Kept.refl _ _) rfl
            refine ssteps_cons (fun a' w' hI hag hf K hK => ?_) ?_
            · obtain ⟨⟨_, h2, rfl⟩, -⟩ : SFacts _ _ a' w' [2] := hf
              clear hag
              go_wp2_with fail
              exact hK _ _ hI (Kept.refl _ _) rfl
            refine ssteps_cons (fun a' w' hI hag hf K hK => ?_) ?_
            · obtain ⟨⟨_, h3, rfl⟩, -⟩ : SFacts _ _ a' w' [3] := hf
              clear hag
              obtain ⟨⟨x0, x1, x2⟩, -⟩ := (HR5.out.kept hI (fun h => h)).cells
              go_wp2_with fail
              exact hK _ _ hI (Kept.refl _ _) rfl
            refine ssteps_cons (fun a' w' hI hag hf K hK => ?_) ?_
            · have s0 := hag.same 0 (by decide)
              clear hag
              go_wp2_with fail
              exact hK _ _ hI (Kept.refl _ _) rfl
            refine ssteps_cons (fun a' w' hI hag hf K hK => ?_) ?_
            · obtain ⟨⟨_, h5, rfl⟩, -⟩ : SFacts _ _ a' w' [5] := hf
              clear hag
              go_wp2_with fail
              exact hK _ _ hI (Kept.refl _ _) rfl
            refine ssteps_cons (fun a' w' hI hag hf K hK => ?_) ?_
            · obtain ⟨⟨_, h6, rfl⟩, -⟩ : SFacts _ _ a' w' [6] := hf
              clear hag
              go_wp2_with fail
              exact hK _ _ hI (Kept.refl _ _) rfl
            refine ssteps_cons (fun a' w' hI hag hf K hK => ?_) ?_
            · obtain ⟨⟨_, h7, rfl⟩, -⟩ : SFacts _ _ a' w' [7] := hf
              clear hag
              obtain ⟨⟨x0, x1, x2⟩, -⟩ := (HR5.out.kept hI (fun h => h)).cells
              go_wp2_with fail
              exact hK _ _ hI (Kept.refl _ _) rfl
            refine ssteps_cons (fun a' w' hI hag hf K hK => ?_) ?_
            · have s0 := hag.same 0 (by decide)
              clear hag
              go_wp2_with fail
              exact hK _ _ hI (Kept.refl _ _) rfl
            refine ssteps_cons (fun a' w' hI hag hf K hK => ?_) ?_
            · obtain ⟨⟨_, h9, rfl⟩, -⟩ : SFacts _ _ a' w' [9] := hf
              clear hag
              go_wp2_with fail
              exact hK _ _ hI (Kept.refl _ _) rfl
            refine ssteps_cons (fun a' w' hI hag hf K hK => ?_) ?_
            · obtain ⟨⟨_, h10, rfl⟩, -⟩ : SFacts _ _ a' w' [10] := hf
              clear hag
              go_wp2_with fail
              exact hK _ _ hI (Kept.refl _ _) rfl
            refine ssteps_cons (fun a' w' hI hag hf K hK => ?_) ?_
            · obtain ⟨⟨_, h11, rfl⟩, -⟩ : SFacts _ _ a' w' [11] := hf
              clear hag
              obtain ⟨⟨x0, x1, x2⟩, -⟩ := (HR5.out.kept hI (fun h => h)).cells
              go_wp2_with fail
              exact hK _ _ hI (Kept.refl _ _) rfl
            refine ssteps_cons (fun a' w' hI hag hf K hK => ?_) ?_
            · obtain ⟨⟨_, h12, rfl⟩, -⟩ : SFacts _ _ a' w' [12] := hf
              clear hag
              go_wp2_with fail
              exact hK _ _ hI (Kept.refl _ _) rfl
            refine ssteps_cons (fun a' w' hI hag hf K hK => ?_) ?_
            · obtain ⟨⟨_, h4, rfl⟩, ⟨_, h8, rfl⟩, ⟨_, h13, rfl⟩, -⟩ : SFacts _ _ a' w' [4, 8, 13] := hf
              clear hag
              go_wp2_with fail
              exact hK _ _ hI (Kept.refl _ _) rfl
            refine ssteps_cons (fun a' w' hI hag hf K hK => ?_) ?_
            · have s2 := hag.same 2 (by decide)
              clear hag
              go_wp2_with fail
              exact hK _ _ hI (Kept.refl _ _) rfl
            refine ssteps_cons (fun a' w' hI hag hf K hK => ?_) ?_
            · obtain ⟨⟨_, h14, rfl⟩, ⟨_, h15, rfl⟩, -⟩ : SFacts _ _ a' w' [14, 15] := hf
              clear hag
              go_wp2_with fail
              exact hK _ _ hI (Kept.refl _ _) rfl
            exact trivial
          · intro vs wz hI hvs
            have q0 : vs 0 = u7 := hvs 0 _ _ rfl rfl
            have q1 : vs 1 = (.pointer (some ⟨g, 0, none⟩)) := hvs 1 _ _ rfl rfl
            have q2 : vs 2 = (.pointer (some ⟨g, 0, none⟩)) := hvs 2 _ _ rfl rfl
            have q3 : vs 3 = (.pointer (some ⟨g, 0, none⟩)) := hvs 3 _ _ rfl rfl
            have q4 : vs 4 = (.string (BA S)) := hvs 4 _ _ rfl rfl
            have q5 : vs 5 = (.pointer (some ⟨g, 0, none⟩)) := hvs 5 _ _ rfl rfl
            have q6 : vs 6 = (.pointer (some ⟨g, 0, none⟩)) := hvs 6 _ _ rfl rfl
            have q7 : vs 7 = (.pointer (some ⟨g, 1, none⟩)) := hvs 7 _ _ rfl rfl
            have q8 : vs 8 = (.int .i64 (c : Int)) := hvs 8 _ _ rfl rfl
            have q9 : vs 9 = (.pointer (some ⟨g, 0, none⟩)) := hvs 9 _ _ rfl rfl
            have q10 : vs 10 = (.pointer (some ⟨g, 0, none⟩)) := hvs 10 _ _ rfl rfl
            have q11 : vs 11 = (.pointer (some ⟨g, 1, none⟩)) := hvs 11 _ _ rfl rfl
            have q12 : vs 12 = (.int .i64 (c : Int)) := hvs 12 _ _ rfl rfl
            have q13 : vs 13 = (.int .i64 ((c : Int) + 1)) := hvs 13 _ _ rfl rfl
            have q14 : vs 14 = (.string (BA [b])) := hvs 14 _ _ rfl rfl
            have q15 : vs 15 = (.bool q) := hvs 15 _ _ rfl rfl
            have q16 : vs 16 = (.agg #[.int .i64 1, .string (BA [b]), .slice none 0 0, .bool q]) := hvs 16 _ _ rfl rfl
            clear hvs
            simp only [List.take_succ_cons, List.take_zero, List.drop_succ_cons, List.drop_zero, putAll, Act.put, List.setIfInBounds_toArray, List.set_cons_zero, List.set_cons_succ, Nat.reduceAdd, q0, q1, q2, q3, q4, q5, q6, q7, q8, q9, q10, q11, q12, q13, q14, q15, q16]
            clear q0 q1 q2 q3 q4 q5 q6 q7 q8 q9 q10 q11 q12 q13 q14 q15 q16
            have HRZ : Hid (RdZ wz g S c false) := Lw.hid (HR5.out.kept hI (fun h => h))
            have KZ : Hid (K1 g wr wz) := Lw.hid (K5.out.then (hI.mono (fun _ _ h => h.elim)))
            have hgz := HRZ.out.lt
            clear hI
            go_wp2_with fail
            refine ((HL.out.call KZ.out).put HRZ.out (.mk 1 [b] [] q) (.slice none 0 0) (WAt.nil _ _) HLC.out HTC.out (by show 1 ≤ _; decide)).mono ?_
            rintro x w4 ⟨v4, rfl, hr4, hl4, _⟩
            have HR4 := Lw.hid hr4; have HL4 := Lw.hid hl4
            clear hr4 hl4
            obtain ⟨⟨g0, g1, g2⟩, gf0, gf1, gf2⟩ := HR4.out.cells
            go_wp2_with fail
            go_roundg (S.length - (c + 1))
            case measure => show S.length - (c + 1) < S.length - c; rw [HN.out]; omega
            case rel => exact LZ.step (HR4.out.at' _ (by omega)) (HL4.out.call (K1.set (K1.refl g w4) _)) HJ.out HSTEP.out (by rw [HN.out]; exact hlt) (by omega) (by rw [HN.out]; omega) (by show 1 + c ≤ _; omega) (by show 1 + c ≤ _; rw [HN.out]; omega)
        | cons d r2 =>
          have hcN : c + 1 < N := by
            have e := congrArg List.length HBR.out
            rw [List.length_drop, HN.out] at e
            simp at e; omega
          have hd2 : decide (c + 1 < N) = true := decide_eq_true hcN
          have hd3 : decide ((c : Int) + 1 < (N : Int)) = true := decide_eq_true (by omega)
          have HDD : Hid (S.drop (c + 2) = r2) := Lw.hid (by rw [show c + 2 = (c + 1) + 1 from rfl, ← List.drop_drop, HD1.out]; rfl)
          have HSTEP : Hid (readG refR .brc q l ⟨S.drop c, false⟩ = readG refR .brc q (putF l (pairR .brc (d :: r2)).1) ⟨S.drop (c + 2), false⟩) := Lw.hid (by rw [HDD.out, HBR.out, h92]; exact readG_pair _ _ _ _ _)
          have eX : (BA S).extract (c + 1) (c + 2) = BA [d] := by rw [BA_extract, List.drop_take, show c + 2 - (c + 1) = 1 by omega, HD1.out]; rfl
          have gd := BA_get (l := [d]) (k := 0) (c := d) rfl
          have hz1 : (BA [d]).size = 1 := BA_size _
          have HP : Hid ((pairR .brc (d :: r2)).1 = .mk 1 [d] [] true) := Lw.hid (by unfold pairR; simp)
          rw [HP.out] at HSTEP
          clear h92 HP
          go_wp2_with fail
          go_quiet (fail)
          obtain ⟨m1, rfl⟩ : ∃ m, m = nq := ⟨_, rfl⟩
          go_wp2_with fail
          go_quiet (fail)
          obtain ⟨m2, rfl⟩ : ∃ m, m = nq := ⟨_, rfl⟩
          go_wp2_with fail
          go_quiet (fail)
          go_wp2_with fail
          go_quiet (fail)
          go_wp2_with fail
          refine ((HL.out.call (by first | exact K1.drewN g _ _ | exact k1d2 g _ _ _ | exact k1d3 g _ _ _ _ | exact k1d4 g _ _ _ _ _)).put (by exact HR.out) (.mk 1 [d] [] true) (.slice none 0 0) (WAt.nil _ _) HLC.out HTC.out (by show 1 ≤ _; decide)).mono ?_
          rintro x w4 ⟨v4, rfl, hr4, hl4, _⟩
          have HR4 := Lw.hid hr4; have HL4 := Lw.hid hl4
          clear hr4 hl4 g0 g1 g2 gf0 gf1 gf2
          obtain ⟨⟨g0, g1, g2⟩, gf0, gf1, gf2⟩ := HR4.out.cells
          go_wp2_with fail
          go_roundg (S.length - (c + 2))
          case measure => show S.length - (c + 2) < S.length - c; rw [HN.out]; omega
          case rel => exact LZ.step (HR4.out.at' _ (by omega)) (HL4.out.call (K1.set (K1.refl g w4) _)) HJ.out HSTEP.out (by rw [HN.out]; exact hlt) (by omega) (by rw [HN.out]; omega) (by show 1 + c ≤ _; omega) (by show 1 + c ≤ _; rw [HN.out]; omega)
      have b92 : ((b.toNat : Int) == 92) = false := u8ne (k := 92) rfl h92
      by_cases h36 : b = 36
      · have b36 : ((b.toNat : Int) == 36) = true := by rw [h36]; rfl
        have HSTEP : Hid (readG refR .brc q l ⟨S.drop c, false⟩ = readG refR .brc q (putF l (dollarG refR (readG refR .brc q []) q (S.drop (c + 1))).1) (dollarG refR (readG refR .brc q []) q (S.drop (c + 1))).2) := Lw.hid (by rw [HBR.out, h36, HD1.out]; exact readG_dollar _ _ _ _)
        have HCW : Hid (∀ M, M < S.length - (c + 1) → CWordZ M) := Lw.hid (fun M hM => HW.out M (by have := HJ.out; omega))
        clear h36
        go_wp2_with fail
        go_quiet (fail)
        obtain ⟨m1, rfl⟩ : ∃ m, m = nq := ⟨_, rfl⟩
        go_wp2_with fail
        go_quiet (fail)
        obtain ⟨m2, rfl⟩ : ∃ m, m = nq := ⟨_, rfl⟩
        go_wp2_with fail
        go_quiet (fail)
        go_wp2_with fail
        refine (z_dollar q _ g S (c + 1) (by exact RdZ.at' (by exact HR.out) _ (by omega)) (by rw [HN.out]; exact hS9) (by rw [HN.out]; omega) HCW).mono ?_
        rintro x w3 ⟨p, ov, c', bad, rfl, hr3, ha3, k3, hbad, himp, hb1, hb2⟩
        have HR3 := Lw.hid hr3
        have K3 : Hid (K1 g wr w3) := Lw.hid (K1.then (K1.set ((K1.refl g wr).then (by first | exact K1.drewN g _ _ | exact k1d2 g _ _ _ | exact k1d3 g _ _ _ _ | exact k1d4 g _ _ _ _ _)) _) k3)
        have HA3 := Lw.hid (ha3.mono (G := fun b => False ∨ (wr.heap.size ≤ b ∧ b < w3.heap.size)) (fun b hb hx => .inr ⟨by simpa using hx, hb⟩))
        have HL3 := Lw.hid (HL.out.call K3.out)
        have HIM := Lw.hid himp; have HBAD := Lw.hid hbad; have HB1 := Lw.hid hb1; have HB2 := Lw.hid hb2
        clear hr3 ha3 k3 himp hbad hb1 hb2
        go_wp2_with fail
        refine (HL3.out.put HR3.out p ov HA3.out HLC.out HTC.out (by have := HB2.out; rw [HN.out] at this; omega)).mono ?_
        rintro x w4 ⟨v4, rfl, hr4, hl4, _⟩
        cases bad with
        | true =>
          have HREL := Lw.hid (LZ.bad hr4 hl4 HJ.out (by rw [HSTEP.out]; cases hd : (dollarG refR (readG refR .brc q []) q (S.drop (c + 1))).2 with | mk s9 b9 => rw [hd] at HBAD; have hb9 : b9 = true := HBAD.out; subst hb9; rw [readG_bad]) (by rw [HN.out]; exact hlt) (by have h1 := HB1.out; have h2 := HJ.out; omega) (by have := HB2.out; omega))
          clear hr4 hl4
          go_wp2_with fail
          go_roundg 0
          case measure => show 0 < S.length - c; rw [HN.out]; omega
          case rel => exact HREL.out
        | false =>
          obtain ⟨hp, hs, hc1, hc2, hc3⟩ := HIM.out rfl
          have HREL := Lw.hid (LZ.step hr4 hl4 HJ.out (by rw [HSTEP.out, ← hp]; cases hd : (dollarG refR (readG refR .brc q []) q (S.drop (c + 1))).2 with | mk s9 b9 => rw [hd] at HBAD hs; have hb9 : b9 = false := HBAD.out; have hs9 : S.drop c' = s9 := hs; subst hb9; rw [hs9]) (by rw [HN.out]; exact hlt) (by omega) (by omega) (by omega) (by omega))
          have hcc : c < c' := by omega
          clear hr4 hl4 hp hs hc1 hc2 hc3
          go_wp2_with fail
          go_roundg (S.length - c')
          case measure => show S.length - c' < S.length - c; rw [HN.out]; omega
          case rel => exact HREL.out
      have b36 : ((b.toNat : Int) == 36) = false := u8ne (k := 36) rfl h36
      by_cases h39 : b = 39
      · have b39 : ((b.toNat : Int) == 39) = true := by rw [h39]; rfl
        have hbr' : S.drop c = 39 :: r := by rw [HBR.out, h39]
        have HB39 := Lw.hid hbr'
        have HSTEP : Hid (readG refR .brc q l ⟨S.drop c, false⟩ = readG refR .brc q (putF l (.mk 1 (cutR 39 r).1 [] true)) ⟨(cutR 39 r).2, false⟩) := Lw.hid (by rw [hbr']; exact readG_single _ _ _ (by decide))
        have hcm := cutR_mass 39 r
        have hrl : r.length + c + 1 = N := by
          have e := congrArg List.length hbr'
          rw [List.length_drop, HN.out] at e
          simp at e; omega
        obtain ⟨T, hT⟩ : ∃ T, (cutR 39 r).1 = T := ⟨_, rfl⟩
        have HT := Lw.hid hT
        rw [hT] at hcm HSTEP
        have HCM : Hid (T.length + c + 1 ≤ N) := Lw.hid (by omega)
        clear h39 hbr' hcm hrl hT
        go_wp2_with fail
        go_quiet (fail)
        obtain ⟨m1, rfl⟩ : ∃ m, m = nq := ⟨_, rfl⟩
        go_wp2_with fail
        go_quiet (fail)
        obtain ⟨m2, rfl⟩ : ∃ m, m = nq := ⟨_, rfl⟩
        go_wp2_with fail
        go_quiet (fail)
        go_wp2_with fail
        refine (z_single _ g S c false (by exact HR.out) (by rw [HN.out]; omega) r HB39.out).mono ?_
        rw [HT.out]
        rintro x w3 ⟨rfl, hr3, hd3, k3⟩
        have HR3 := Lw.hid hr3; have HD3 := Lw.hid hd3
        have K3 : Hid (K1 g wr w3) := Lw.hid (K1.then (by first | exact K1.drewN g _ _ | exact k1d2 g _ _ _ | exact k1d3 g _ _ _ _ | exact k1d4 g _ _ _ _ _) k3)
        have HL3 := Lw.hid (HL.out.call K3.out)
        clear hr3 hd3 k3
        go_wp2_with fail
        refine (HL3.out.put HR3.out (.mk 1 T [] true) (.slice none 0 0) (WAt.nil _ _) HLC.out HTC.out (by have := HCM.out; show T.length ≤ _; omega)).mono ?_
        rintro x w4 ⟨v4, rfl, hr4, hl4, _⟩
        have HREL := Lw.hid (LZ.step hr4 hl4 HJ.out (by rw [HSTEP.out, ← HD3.out]) (by rw [HN.out]; exact hlt) (by omega) (by have := HCM.out; rw [HN.out]; omega) (by show T.length + c ≤ _; omega) (by have := HCM.out; show T.length + c ≤ _; rw [HN.out]; omega))
        clear hr4 hl4
        go_wp2_with fail
        go_roundg (S.length - (c + 1 + T.length + 1))
        case measure => show S.length - (c + 1 + T.length + 1) < S.length - c; rw [HN.out]; omega
        case rel => exact HREL.out
      have b39 : ((b.toNat : Int) == 39) = false := u8ne (k := 39) rfl h39
      by_cases h34 : b = 34
      · have b34 : ((b.toNat : Int) == 34) = true := by rw [h34]; rfl
        have hrl : r.length + c + 1 = N := by
          have e := congrArg List.length HBR.out
          rw [List.length_drop, HN.out] at e
          simp at e; omega
        obtain ⟨R, hR⟩ : ∃ R, readG refR .dbl true [] ⟨S.drop (c + 1), false⟩ = R := ⟨_, rfl⟩
        have HSTEP : Hid (readG refR .brc q l ⟨S.drop c, false⟩ = readG refR .brc q ((quoted0 R.1).foldl putF l) ⟨strip34 R.2.s, R.2.bad⟩) := Lw.hid (by rw [← hR, HD1.out, HBR.out, h34]; exact readG_double _ _ _ (by decide))
        have HRR := Lw.hid hR
        have hcw := HW.out (S.length - (c + 1)) (by have := HJ.out; rw [HN.out]; omega)
        have HCW := Lw.hid hcw
        clear h34 hR hcw
        go_wp2_with fail
        go_quiet (fail)
        obtain ⟨m1, rfl⟩ : ∃ m, m = nq := ⟨_, rfl⟩
        go_wp2_with fail
        go_quiet (fail)
        obtain ⟨m2, rfl⟩ : ∃ m, m = nq := ⟨_, rfl⟩
        go_wp2_with fail
        go_quiet (fail)
        go_wp2_with fail
        refine (HCW.out .dbl true _ g S (c + 1) (by rw [HN.out]; exact hS9) (by rw [HN.out]; omega) (Nat.le_refl _) (by exact RdZ.at' (by exact HR.out) _ (by omega))).mono ?_
        unfold WordZ
        rw [HRR.out]
        rintro x w3 ⟨vi, J, c2, bad, rfl, hr3, ha3, k3, hbad, himp, hb1, hb2, hb3, hb4⟩
        have K3 : Hid (K1 g wr w3) := Lw.hid (K1.then (K1.set ((K1.refl g wr).then (by first | exact K1.drewN g _ _ | exact k1d2 g _ _ _ | exact k1d3 g _ _ _ _ | exact k1d4 g _ _ _ _ _)) _) k3)
        rw [HN.out] at hb1 hb2 hb3
        have HB : Hid (c2 + (c + 1) ≤ 2 * N + 1 ∧ J.length + (c + 1) ≤ N ∧ tmass J + (c + 1) ≤ N) := Lw.hid ⟨hb1, hb2, hb3⟩
        have HIM := Lw.hid himp; have HBAD := Lw.hid hbad
        have hle3 : wr.heap.size ≤ w3.heap.size := by simpa using K3.out.size
        have HA3 := Lw.hid (ha3.mono (G := fun b => wr.heap.size ≤ b ∧ b < w3.heap.size) (fun b hb hx => ⟨by simpa using hx, hb⟩))
        have hg3 := hr3.lt
        have HR4 : Hid (RdZ (w3.setCell ⟨g, 1, none⟩ (.int .i64 ((c2 : Int) + 1))) g S (c2 + 1) bad) := Lw.hid (hr3.at' _ (by omega))
        have HK4 : Hid (K1 g wr (w3.setCell ⟨g, 1, none⟩ (.int .i64 ((c2 : Int) + 1)))) := Lw.hid (K1.set K3.out _)
        have HL4 := Lw.hid (HL.out.call HK4.out)
        have HA4 : Hid (WAt (w3.setCell ⟨g, 1, none⟩ (.int .i64 ((c2 : Int) + 1))) (fun b => wr.heap.size ≤ b ∧ b < w3.heap.size) vi J) := Lw.hid (HA3.out.kept (S := fun b => b = g) (Kept.set (S := fun b => b = g) (Kept.refl _ w3) g 1 (fun _ => rfl) _) (fun b hb e => by have e' : b = g := e; omega))
        clear g0 g1 g2 gf0 gf1 gf2
        obtain ⟨⟨g0, g1, g2⟩, gf0, gf1, gf2⟩ := hr3.cells
        clear hr3 ha3 k3 himp hbad hb1 hb2 hb3 HA3
        have hc2 : c2 ≤ 300000 := by have := HB.out; omega
        have hsz4 : (w3.setCell ⟨g, 1, none⟩ (.int .i64 ((c2 : Int) + 1))).heap.size = w3.heap.size := by simp
        obtain ⟨ia, m, ic, rfl⟩ := HA4.out.slice
        have HME := Lw.hid HA4.out.elem.1
        have hm9 : m ≤ 1000000 := by have h1 := HB.out; have h2 : m = J.length := HME.out; omega
        have HMASS : Hid (tmass (quoted0 J) = tmass J ∧ (quoted0 J).length ≤ J.length + 1) := Lw.hid ⟨(quoted0_mass J).2, (quoted0_mass J).1⟩
        have HEND : Hid (∀ (v' : Value) (wx : World) (P : Nat → Prop), RdZ wx g S (c2 + 1) bad → WLZ w g P ((quoted0 J).foldl putF l) v' wx → LZ w g S a .brc q (if bad then 0 else S.length - (c2 + 1)) v' wx) := Lw.hid (by
          intro v' wx P hr hl
          have hb := HB.out
          cases bad with
          | true =>
            exact LZ.manyBad hr hl HJ.out (by rw [HSTEP.out]; obtain ⟨R1, s9, b9⟩ := R; have hb9 : b9 = true := HBAD.out; subst hb9; rw [readG_bad]) (by rw [HN.out]; exact hlt) (by rw [HN.out]; have := HJ.out; omega) (by rw [HN.out]; omega) (by rw [HN.out]; omega)
          | false =>
            obtain ⟨e1, e2, e3, e4, e5⟩ := HIM.out rfl
            exact LZ.many hr hl HJ.out (by
              rw [HSTEP.out, ← e1]
              have hs : strip34 R.2.s = S.drop (c2 + 1) := by
                rw [← HRR.out]
                exact readG_dbl34 (by rw [HRR.out]; exact HBAD.out) (by rw [HRR.out]; exact e2)
              rw [hs]
              have hb9 : R.2.bad = false := HBAD.out
              rw [hb9]) (by rw [HN.out]; exact hlt) (by omega) (by rw [HN.out]; have := HJ.out; omega) (by omega) (by omega) (by rw [HN.out]; omega) (by rw [HN.out]; omega))
        have hcc : c < c2 + 1 ∨ bad = true := by
          cases bad with
          | true => exact .inr rfl
          | false => obtain ⟨e1, e2, e3, _⟩ := HIM.out rfl; exact .inl (by omega)
        have HCC := Lw.hid hcc
        clear hcc HSTEP HIM HBAD
        cases J with
        | nil =>
          have hmt : ((m : Int) == 0) = true := by rw [show m = 0 from HME.out]; rfl
          have HNV : NilV (.slice ia m ic) := hb4 rfl
          clear hb4
          go_upto_if 187 with fail
          obtain ⟨w4, hw4⟩ : ∃ w4, w3.setCell ⟨g, 1, none⟩ (.int .i64 ((c2 : Int) + 1)) = w4 := ⟨_, rfl⟩
          rw [hw4] at HR4 HL4 HA4 HK4 hsz4
          try rw [hw4]
          have hg4 := HR4.out.lt
          clear g0 g1 g2 gf0 gf1 gf2 hw4 hg3
          have hm0 : m = 0 := HME.out
          subst hm0
          obtain ⟨wo, rfl⟩ : ∃ wo : World, wo = wr := ⟨_, rfl⟩
          have HOW0 : Hid (w4.ownsRow 0 103 4 (.slice ia 0 ic) 0 []) := Lw.hid (by have e : Value.slice ia 0 ic = .slice none 0 0 := HNV; rw [e]; exact World.ownsRow_nil _ _ _ _)
          go_wp2_with (at_builtin; (refine wpList_app rfl _ _ _ rfl EPz _ 0 [] rfl (HOW0.out.alloc _) _ 1 [.int .i64 1, .string ⟨#[]⟩, .slice none 0 0, .bool true] rfl (Rd.lit w4 [.int .i64 1, .string ⟨#[]⟩, .slice none 0 0, .bool true] _ 4 _ 1 (by first | rfl | exact hsz4.symm) rfl (by unfold maxLen; omega)) (pc_one' (.mk 1 [] [] true, .slice none 0 0) rfl) (by unfold maxLen; omega) (by omega) ?_); intro ad9 cap9 w9 ho9 hg9 hf9)
          have hv0 : Value.slice ia 0 ic = .slice none 0 0 := HNV
          rw [hv0] at hg9 hf9
          have hpp := putz_add (w := w4) (F := fun _ => False) (lo := w4.heap.size) (v := .slice none 0 0) (ps := []) (p := .mk 1 [] [] true) (o := .slice none 0 0) (WOwnZ.nil w4 _) (WAt.nil _ _) (Nat.le_refl _) rfl ho9 ((Kept.refl (fun _ => False) w4).alloc _) hg9 hf9
          obtain ⟨vq, psq, hvq, hpsq, howq, hkq⟩ := hpp
          obtain rfl : (Value.slice ad9 1 cap9) = vq := by cases hvq; rfl
          have hk9 : K1 g w4 w9 := hkq.mono (fun b _ hb => by cases hb)
          have hap : WAt w9 (fun b => wo.heap.size ≤ b ∧ b < w9.heap.size) (.slice ad9 1 cap9) [.mk 1 [] [] true] := by
            have e : psq.map Prod.fst = [.mk 1 [] [] true] := hpsq
            rw [← e]
            exact howq.at.mono (fun b hb hx => by rcases hx with hx | hx; (· exact hx.elim); (· have := (howq.blk b hx).1; exact ⟨by omega, hb⟩))
          have HAP := Lw.hid hap
          have HLP : Hid (WLZ w g (fun b => wo.heap.size ≤ b ∧ b < w9.heap.size) l u7 w9) := Lw.hid ((HL.out.call (HK4.out.then hk9)).weak (fun b hb => .inr hb))
          have HRP : Hid (RdZ w9 g S (c2 + 1) bad) := Lw.hid (HR4.out.kept hkq (fun hb => by cases hb))
          clear hvq hpsq howq hkq hk9 hap ho9 hg9 hf9 HOW0 HNV hv0
          go_wp2_with fail
          go_loopg [7, 11] ([Prt.mk 1 [] [] true]).length (fun gk s7 s11 wx => IZ w g S (c2 + 1) bad (fun b => wo.heap.size ≤ b ∧ b < w9.heap.size) [Prt.mk 1 [] [] true] l (.slice ad9 1 cap9) gk s7 s11 wx)
          case atStart => exact ⟨0, l, rfl, Nat.zero_le _, rfl, HRP.out, HLP.out, HAP.out, rfl, Nat.le_refl _, rfl⟩
          case round =>
            obtain ⟨k, l', rfl, hk, rfl, hri, hli, hai, hfold, hll, htt⟩ := hrel
            have HRI := Lw.hid hri; have HLI := Lw.hid hli; have HAI := Lw.hid hai; have HFO := Lw.hid hfold; have HLL := Lw.hid hll; have HTT := Lw.hid htt
            have hm : 1 = ([Prt.mk 1 [] [] true]).length := rfl
            have HM := Lw.hid hm
            clear hri hli hai hfold hll htt
            by_cases hltk : k < ([Prt.mk 1 [] [] true]).length
            · obtain ⟨p, hp⟩ : ∃ p, ([Prt.mk 1 [] [] true])[k]? = some p := ⟨_, List.getElem?_eq_getElem hltk⟩
              have hd : ([Prt.mk 1 [] [] true]).drop k = p :: ([Prt.mk 1 [] [] true]).drop (k + 1) := by
                rw [List.getElem?_eq_getElem hltk] at hp
                rw [List.drop_eq_getElem_cons hltk, Option.some.inj hp]
              have hpm : p ∈ ([Prt.mk 1 [] [] true]) := List.mem_of_getElem? hp
              obtain ⟨bi, off, oa, on, oc, hia, e0, e1, e2, e3, hao⟩ := HAI.out.elem.2 k p hp
              subst hia
              have HAO := Lw.hid hao; have HD := Lw.hid hd
              have hpt : p.text.length ≤ 1000000 := by have := tmass_mem hpm; have h1 := HMASS.out; have hb := HB.out; have h7 : tmass ([Prt.mk 1 [] [] true]) = tmass (quoted0 []) := rfl; omega
              have HPT := Lw.hid hpt
              have hltm : k < 1 := by rw [hm]; exact hltk
              have hbl : bi < wr.heap.size := World.block_lt_of_cell? wr _ e0
              clear hp hd hpm hao hpt hm
              go_wp2_with fail
              refine (WLZ.put HLI.out HRI.out p (.slice oa on oc) HAO.out (by have h0 := HB.out; have h1 := HMASS.out; have h2 := HJ.out; have h3 := HLL.out; have h5 := hk; have h6 : ([Prt.mk 1 [] [] true]).length = (quoted0 []).length := rfl; omega) (by have h0 := HB.out; have h1 := HMASS.out; have h2 := HJ.out; have h3 := HTT.out; have h7 : tmass ([Prt.mk 1 [] [] true]) = tmass (quoted0 []) := rfl; omega) HPT.out).mono ?_
              rintro x w7 ⟨v7, rfl, hr7, hl7, S7, hS, hSP⟩
              have HR7 := Lw.hid hr7; have HL7 := Lw.hid hl7
              have HA7 := Lw.hid (HAI.out.kept hS (fun b hb => hSP b (.inl hb)))
              clear hr7 hl7 hS hSP
              go_wp2_with fail
              go_roundg (([Prt.mk 1 [] [] true]).length - (k + 1))
              case measure => omega
              case rel => exact ⟨k + 1, putF l' p, rfl, hltk, by go_num, HR7.out, HL7.out, HA7.out, by rw [← HFO.out, HD.out, List.foldl_cons], by have h1 := HLL.out; have h2 := (putF_mass l' p).1; omega, by have h1 := HTT.out; have h2 := (putF_mass l' p).2; rw [HD.out] at h1; have h3 : tmass (p :: ([Prt.mk 1 [] [] true]).drop (k + 1)) = p.text.length + tmass (([Prt.mk 1 [] [] true]).drop (k + 1)) := rfl; omega⟩
            · have hke : k = ([Prt.mk 1 [] [] true]).length := by omega
              have hkm : k = 1 := by omega
              have HFE : Hid (l' = (quoted0 []).foldl putF l) := Lw.hid (by
                have := HFO.out
                rw [hke, List.drop_length] at this
                exact this)
              have HREL := Lw.hid (HEND.out _ _ _ HRI.out (by rw [← HFE.out]; exact HLI.out))
              have hmea : (if bad then 0 else S.length - (c2 + 1)) < S.length - c := by
                have h1 := HCC.out
                rw [HN.out]
                cases bad with
                | true => simp; omega
                | false => rcases h1 with h1 | h1; (· simp; omega); (· cases h1)
              have HMEA := Lw.hid hmea
              clear hke hm hmea
              go_wp2_with fail
              go_roundg (if bad then 0 else S.length - (c2 + 1))
              case measure => exact HMEA.out
              case rel => exact HREL.out
        | cons j0 J0 =>
          have hm0 : ((m : Int) == 0) = false := by
            have h1 := HME.out
            simp only [List.length_cons] at h1
            apply beq_eq_false_iff_ne.2
            omega
          go_wp2_with fail
          obtain ⟨w4, hw4⟩ : ∃ w4, w3.setCell ⟨g, 1, none⟩ (.int .i64 ((c2 : Int) + 1)) = w4 := ⟨_, rfl⟩
          rw [hw4] at HR4 HL4 HA4 HK4 hsz4
          try rw [hw4]
          have hg4 := HR4.out.lt
          clear g0 g1 g2 gf0 gf1 gf2 hw4 hg3
          obtain ⟨wo, rfl⟩ : ∃ wo : World, wo = wr := ⟨_, rfl⟩
          have HLP : Hid (WLZ w g (fun b => wo.heap.size ≤ b ∧ b < w3.heap.size) l u7 w4) := Lw.hid (HL4.out.weak (fun b hb => .inr (by rw [hsz4]; exact hb)))
          clear hb4
          go_loopg [7, 11] ((j0 :: J0)).length (fun gk s7 s11 wx => IZ w g S (c2 + 1) bad (fun b => wo.heap.size ≤ b ∧ b < w3.heap.size) (j0 :: J0) l (.slice ia m ic) gk s7 s11 wx)
          case atStart => exact ⟨0, l, rfl, Nat.zero_le _, rfl, HR4.out, HLP.out, HA4.out, rfl, Nat.le_refl _, rfl⟩
          case round =>
            obtain ⟨k, l', rfl, hk, rfl, hri, hli, hai, hfold, hll, htt⟩ := hrel
            have HRI := Lw.hid hri; have HLI := Lw.hid hli; have HAI := Lw.hid hai; have HFO := Lw.hid hfold; have HLL := Lw.hid hll; have HTT := Lw.hid htt
            have hm : m = ((j0 :: J0)).length := HME.out
            have HM := Lw.hid hm
            clear hri hli hai hfold hll htt
            by_cases hltk : k < ((j0 :: J0)).length
            · obtain ⟨p, hp⟩ : ∃ p, ((j0 :: J0))[k]? = some p := ⟨_, List.getElem?_eq_getElem hltk⟩
              have hd : ((j0 :: J0)).drop k = p :: ((j0 :: J0)).drop (k + 1) := by
                rw [List.getElem?_eq_getElem hltk] at hp
                rw [List.drop_eq_getElem_cons hltk, Option.some.inj hp]
              have hpm : p ∈ ((j0 :: J0)) := List.mem_of_getElem? hp
              obtain ⟨bi, off, oa, on, oc, hia, e0, e1, e2, e3, hao⟩ := HAI.out.elem.2 k p hp
              subst hia
              have HAO := Lw.hid hao; have HD := Lw.hid hd
              have hpt : p.text.length ≤ 1000000 := by have := tmass_mem hpm; have h1 := HMASS.out; have hb := HB.out; have h7 : tmass ((j0 :: J0)) = tmass (quoted0 (j0 :: J0)) := rfl; omega
              have HPT := Lw.hid hpt
              have hltm : k < m := by rw [hm]; exact hltk
              have hbl : bi < wr.heap.size := World.block_lt_of_cell? wr _ e0
              clear hp hd hpm hao hpt hm
              go_wp2_with fail
              refine (WLZ.put HLI.out HRI.out p (.slice oa on oc) HAO.out (by have h0 := HB.out; have h1 := HMASS.out; have h2 := HJ.out; have h3 := HLL.out; have h5 := hk; have h6 : ((j0 :: J0)).length = (quoted0 (j0 :: J0)).length := rfl; omega) (by have h0 := HB.out; have h1 := HMASS.out; have h2 := HJ.out; have h3 := HTT.out; have h7 : tmass ((j0 :: J0)) = tmass (quoted0 (j0 :: J0)) := rfl; omega) HPT.out).mono ?_
              rintro x w7 ⟨v7, rfl, hr7, hl7, S7, hS, hSP⟩
              have HR7 := Lw.hid hr7; have HL7 := Lw.hid hl7
              have HA7 := Lw.hid (HAI.out.kept hS (fun b hb => hSP b (.inl hb)))
              clear hr7 hl7 hS hSP
              go_wp2_with fail
              go_roundg (((j0 :: J0)).length - (k + 1))
              case measure => omega
              case rel => exact ⟨k + 1, putF l' p, rfl, hltk, by go_num, HR7.out, HL7.out, HA7.out, by rw [← HFO.out, HD.out, List.foldl_cons], by have h1 := HLL.out; have h2 := (putF_mass l' p).1; omega, by have h1 := HTT.out; have h2 := (putF_mass l' p).2; rw [HD.out] at h1; have h3 : tmass (p :: ((j0 :: J0)).drop (k + 1)) = p.text.length + tmass (((j0 :: J0)).drop (k + 1)) := rfl; omega⟩
            · have hke : k = ((j0 :: J0)).length := by omega
              have hkm : k = m := by omega
              have HFE : Hid (l' = (quoted0 (j0 :: J0)).foldl putF l) := Lw.hid (by
                have := HFO.out
                rw [hke, List.drop_length] at this
                exact this)
              have HREL := Lw.hid (HEND.out _ _ _ HRI.out (by rw [← HFE.out]; exact HLI.out))
              have hmea : (if bad then 0 else S.length - (c2 + 1)) < S.length - c := by
                have h1 := HCC.out
                rw [HN.out]
                cases bad with
                | true => simp; omega
                | false => rcases h1 with h1 | h1; (· simp; omega); (· cases h1)
              have HMEA := Lw.hid hmea
              clear hke hm hmea
              go_wp2_with fail
              go_roundg (if bad then 0 else S.length - (c2 + 1))
              case measure => exact HMEA.out
              case rel => exact HREL.out
      have b34 : ((b.toNat : Int) == 34) = false := u8ne (k := 34) rfl h34
      have HSTEP : Hid (readG refR .brc q l ⟨S.drop c, false⟩ = readG refR .brc q (putF l (.mk 1 [b] [] q)) ⟨S.drop (c + 1), false⟩) := Lw.hid (by rw [HBR.out, HD1.out]; exact readG_one _ _ _ (fun e => he (Option.some.inj e).symm) h92 h36 (fun e => h39 e.1) (fun e => h34 e.1))
      have eX : (BA S).extract c (c + 1) = BA [b] := by rw [BA_extract, List.drop_take, Nat.add_sub_cancel_left, HBR.out]; rfl
      go_wp2_with fail
      go_quiet (fail)
      obtain ⟨m1, rfl⟩ : ∃ m, m = nq := ⟨_, rfl⟩
      go_wp2_with fail
      go_quiet (fail)
      obtain ⟨m2, rfl⟩ : ∃ m, m = nq := ⟨_, rfl⟩
      go_wp2_with fail
      go_quiet (fail)
      obtain ⟨m3, rfl⟩ : ∃ m, m = nq := ⟨_, rfl⟩
      go_wp2_with fail
      have HR5 : Hid (RdZ (wr.drewN (m1 + m2 + m3)) g S c false) := Lw.hid (by exact HR.out)
      have K5 : Hid (K1 g wr (wr.drewN (m1 + m2 + m3))) := Lw.hid (K1.drewN g wr _)
      generalize wr.drewN (m1 + m2 + m3) = w5 at *
      have hg5 := HR5.out.lt
      clear g0 g1 g2 gf0 gf1 gf2
      refine wp_region_tail 17 [stV u7, stV (.pointer (some ⟨g, 0, none⟩)), stV (.pointer (some ⟨g, 0, none⟩)), stV (.pointer (some ⟨g, 0, none⟩)), stV (.string (BA S)), stV (.pointer (some ⟨g, 0, none⟩)), stV (.pointer (some ⟨g, 0, none⟩)), stV (.pointer (some ⟨g, 1, none⟩)), stV (.int .i64 (c : Int)), stV (.pointer (some ⟨g, 0, none⟩)), stV (.pointer (some ⟨g, 0, none⟩)), stV (.pointer (some ⟨g, 1, none⟩)), stV (.int .i64 (c : Int)), stV (.int .i64 ((c : Int) + 1)), stV (.string (BA [b])), stV (.bool q), stV (.agg #[.int .i64 1, .string (BA [b]), .slice none 0 0, .bool q])] (by kernel_rfl) (by kernel_rfl) ?_ ?_
      · -- each operation by itself
        refine ssteps_cons (fun a' w' hI hag hf K hK => ?_) ?_
        · have s7 := hag.same 7 (by decide)
          clear hag
          go_wp2_with fail
          exact hK _ _ hI (Kept.refl _ _) rfl
        refine ssteps_cons (fun a' w' hI hag hf K hK => ?_) ?_
        · have s0 := hag.same 0 (by decide)
          clear hag
          go_wp2_with fail
          exact hK _ _ hI (Kept.refl _ _) rfl
        refine ssteps_cons (fun a' w' hI hag hf K hK => ?_) ?_
        · obtain ⟨⟨_, h1, rfl⟩, -⟩ : SFacts _ _ a' w' [1] := hf
          clear hag
          go_wp2_with fail
          exact hK _ _ hI (Kept.refl _ _) rfl
        refine ssteps_cons (fun a' w' hI hag hf K hK => ?_) ?_
        · obtain ⟨⟨_, h2, rfl⟩, -⟩ : SFacts _ _ a' w' [2] := hf
          clear hag
          go_wp2_with fail
          exact hK _ _ hI (Kept.refl _ _) rfl
        refine ssteps_cons (fun a' w' hI hag hf K hK => ?_) ?_
        · obtain ⟨⟨_, h3, rfl⟩, -⟩ : SFacts _ _ a' w' [3] := hf
          clear hag
          obtain ⟨⟨x0, x1, x2⟩, -⟩ := (HR5.out.kept hI (fun h => h)).cells
          go_wp2_with fail
          exact hK _ _ hI (Kept.refl _ _) rfl
        refine ssteps_cons (fun a' w' hI hag hf K hK => ?_) ?_
        · have s0 := hag.same 0 (by decide)
          clear hag
          go_wp2_with fail
          exact hK _ _ hI (Kept.refl _ _) rfl
        refine ssteps_cons (fun a' w' hI hag hf K hK => ?_) ?_
        · obtain ⟨⟨_, h5, rfl⟩, -⟩ : SFacts _ _ a' w' [5] := hf
          clear hag
          go_wp2_with fail
          exact hK _ _ hI (Kept.refl _ _) rfl
        refine ssteps_cons (fun a' w' hI hag hf K hK => ?_) ?_
        · obtain ⟨⟨_, h6, rfl⟩, -⟩ : SFacts _ _ a' w' [6] := hf
          clear hag
          go_wp2_with fail
          exact hK _ _ hI (Kept.refl _ _) rfl
        refine ssteps_cons (fun a' w' hI hag hf K hK => ?_) ?_
        · obtain ⟨⟨_, h7, rfl⟩, -⟩ : SFacts _ _ a' w' [7] := hf
          clear hag
          obtain ⟨⟨x0, x1, x2⟩, -⟩ := (HR5.out.kept hI (fun h => h)).cells
          go_wp2_with fail
          exact hK _ _ hI (Kept.refl _ _) rfl
        refine ssteps_cons (fun a' w' hI hag hf K hK => ?_) ?_
        · have s0 := hag.same 0 (by decide)
          clear hag
          go_wp2_with fail
          exact hK _ _ hI (Kept.refl _ _) rfl
        refine ssteps_cons (fun a' w' hI hag hf K hK => ?_) ?_
        · obtain ⟨⟨_, h9, rfl⟩, -⟩ : SFacts _ _ a' w' [9] := hf
          clear hag
          go_wp2_with fail
          exact hK _ _ hI (Kept.refl _ _) rfl
        refine ssteps_cons (fun a' w' hI hag hf K hK => ?_) ?_
        · obtain ⟨⟨_, h10, rfl⟩, -⟩ : SFacts _ _ a' w' [10] := hf
          clear hag
          go_wp2_with fail
          exact hK _ _ hI (Kept.refl _ _) rfl
        refine ssteps_cons (fun a' w' hI hag hf K hK => ?_) ?_
        · obtain ⟨⟨_, h11, rfl⟩, -⟩ : SFacts _ _ a' w' [11] := hf
          clear hag
          obtain ⟨⟨x0, x1, x2⟩, -⟩ := (HR5.out.kept hI (fun h => h)).cells
          go_wp2_with fail
          exact hK _ _ hI (Kept.refl _ _) rfl
        refine ssteps_cons (fun a' w' hI hag hf K hK => ?_) ?_
        · obtain ⟨⟨_, h12, rfl⟩, -⟩ : SFacts _ _ a' w' [12] := hf
          clear hag
          go_wp2_with fail
          exact hK _ _ hI (Kept.refl _ _) rfl
        refine ssteps_cons (fun a' w' hI hag hf K hK => ?_) ?_
        · obtain ⟨⟨_, h4, rfl⟩, ⟨_, h8, rfl⟩, ⟨_, h13, rfl⟩, -⟩ : SFacts _ _ a' w' [4, 8, 13] := hf
          clear hag
          go_wp2_with fail
          exact hK _ _ hI (Kept.refl _ _) rfl
        refine ssteps_cons (fun a' w' hI hag hf K hK => ?_) ?_
        · have s2 := hag.same 2 (by decide)
          clear hag
          go_wp2_with fail
          exact hK _ _ hI (Kept.refl _ _) rfl
        refine ssteps_cons (fun a' w' hI hag hf K hK => ?_) ?_
        · obtain ⟨⟨_, h14, rfl⟩, ⟨_, h15, rfl⟩, -⟩ : SFacts _ _ a' w' [14, 15] := hf
          clear hag
          go_wp2_with fail
          exact hK _ _ hI (Kept.refl _ _) rfl
        exact trivial
      · intro vs wz hI hvs
        have q0 : vs 0 = u7 := hvs 0 _ _ rfl rfl
        have q1 : vs 1 = (.pointer (some ⟨g, 0, none⟩)) := hvs 1 _ _ rfl rfl
        have q2 : vs 2 = (.pointer (some ⟨g, 0, none⟩)) := hvs 2 _ _ rfl rfl
        have q3 : vs 3 = (.pointer (some ⟨g, 0, none⟩)) := hvs 3 _ _ rfl rfl
        have q4 : vs 4 = (.string (BA S)) := hvs 4 _ _ rfl rfl
        have q5 : vs 5 = (.pointer (some ⟨g, 0, none⟩)) := hvs 5 _ _ rfl rfl
        have q6 : vs 6 = (.pointer (some ⟨g, 0, none⟩)) := hvs 6 _ _ rfl rfl
        have q7 : vs 7 = (.pointer (some ⟨g, 1, none⟩)) := hvs 7 _ _ rfl rfl
        have q8 : vs 8 = (.int .i64 (c : Int)) := hvs 8 _ _ rfl rfl
        have q9 : vs 9 = (.pointer (some ⟨g, 0, none⟩)) := hvs 9 _ _ rfl rfl
        have q10 : vs 10 = (.pointer (some ⟨g, 0, none⟩)) := hvs 10 _ _ rfl rfl
        have q11 : vs 11 = (.pointer (some ⟨g, 1, none⟩)) := hvs 11 _ _ rfl rfl
        have q12 : vs 12 = (.int .i64 (c : Int)) := hvs 12 _ _ rfl rfl
        have q13 : vs 13 = (.int .i64 ((c : Int) + 1)) := hvs 13 _ _ rfl rfl
        have q14 : vs 14 = (.string (BA [b])) := hvs 14 _ _ rfl rfl
        have q15 : vs 15 = (.bool q) := hvs 15 _ _ rfl rfl
        have q16 : vs 16 = (.agg #[.int .i64 1, .string (BA [b]), .slice none 0 0, .bool q]) := hvs 16 _ _ rfl rfl
        clear hvs
        simp only [List.take_succ_cons, List.take_zero, List.drop_succ_cons, List.drop_zero, putAll, Act.put, List.setIfInBounds_toArray, List.set_cons_zero, List.set_cons_succ, Nat.reduceAdd, q0, q1, q2, q3, q4, q5, q6, q7, q8, q9, q10, q11, q12, q13, q14, q15, q16]
        clear q0 q1 q2 q3 q4 q5 q6 q7 q8 q9 q10 q11 q12 q13 q14 q15 q16
        have HRZ : Hid (RdZ wz g S c false) := Lw.hid (HR5.out.kept hI (fun h => h))
        have KZ : Hid (K1 g wr wz) := Lw.hid (K5.out.then (hI.mono (fun _ _ h => h.elim)))
        have hgz := HRZ.out.lt
        clear hI
        go_wp2_with fail
        refine ((HL.out.call KZ.out).put HRZ.out (.mk 1 [b] [] q) (.slice none 0 0) (WAt.nil _ _) HLC.out HTC.out (by show 1 ≤ _; decide)).mono ?_
        rintro x w4 ⟨v4, rfl, hr4, hl4, _⟩
        have HR4 := Lw.hid hr4; have HL4 := Lw.hid hl4
        clear hr4 hl4
        obtain ⟨⟨g0, g1, g2⟩, gf0, gf1, gf2⟩ := HR4.out.cells
        go_wp2_with fail
        go_roundg (S.length - (c + 1))
        case measure => show S.length - (c + 1) < S.length - c; rw [HN.out]; omega
        case rel => exact LZ.step (HR4.out.at' _ (by omega)) (HL4.out.call (K1.set (K1.refl g w4) _)) HJ.out HSTEP.out (by rw [HN.out]; exact hlt) (by omega) (by rw [HN.out]; omega) (by show 1 + c ≤ _; omega) (by show 1 + c ≤ _; rw [HN.out]; omega)
end Go.Proofs.YtifcgeanippepaaDoor
