/- WordTells: the document's reader: word, at the level dbl. -/
import Derived.Test.YtifcgeanippepaaDoorTellLM
namespace Go.Proofs.YtifcgeanippepaaDoor
open Go Go.RowKit Go.Lw
set_option maxRecDepth 100000
set_option linter.unusedVariables false
set_option linter.unusedSimpArgs false
attribute [local go_sem] BA_toList
set_option maxHeartbeats 20000000 in
theorem wz_dbl (q : Bool) (w : World) (g : Nat) (S : List UInt8) (a : Nat) (hS9 : S.length ≤ 100000) (ha : a ≤ S.length) (h : RdZ w g S a false) (HW : Hid (∀ M, M < S.length - a → CWordZ M)) :
    Calls Tryd.prog 97 #[.pointer (some ⟨g, 0, none⟩), .int .u8 34, .bool q] w (WordZ w g S a .dbl q) := by
  have HST : Hid (LZ w g S a .dbl q (S.length - a) (.slice none 0 0) w) := Lw.hid ⟨a, [], false, rfl, h, WLZ.nil w g h.lt (K1.refl g w), (fun e => (by cases e)), (fun _ => ⟨rfl, Nat.le_refl _, by show 0 + a ≤ a; omega, by show 0 + a ≤ a; omega⟩), by omega, by show 0 + a ≤ _; omega, by show 0 + a ≤ _; omega, fun _ => rfl⟩
  have hzz := BA_size S
  clear h
  go_enter Tryd.func97, Tryd.ntmps97
  go_wp2_with fail
  go_loopg [7] (S.length - a) (fun gk s7 wx => LZ w g S a .dbl q gk s7 wx)
  case atStart => exact HST.out
  case round =>
    obtain ⟨c, l, bad, rfl, hr, hl, h1, h2, h3, h4, h5, h6⟩ := hrel
    obtain ⟨⟨g0, g1, g2⟩, gf0, gf1, gf2⟩ := hr.cells
    have HR := Lw.hid hr; have HL := Lw.hid hl; have H1 := Lw.hid h1; have H2 := Lw.hid h2; have H6 := Lw.hid h6
    have hgl : g < wr.heap.size := hr.lt
    obtain ⟨N, hN⟩ : ∃ N, S.length = N := ⟨_, rfl⟩
    have HN := Lw.hid hN
    rw [hN] at h3 h4 h5 hS9 hzz ha
    clear hr hl h1 h2 h6 HST hN
    by_cases hlt : c < N
    case neg =>
      have hdl : decide (c < N) = false := decide_eq_false hlt
      go_wp2_with fail
      go_quiet (fail)
      go_wp2_with fail
      go_ret
      exact LZ.fin HR.out HL.out H1.out H2.out (fun _ => by rw [List.drop_eq_nil_of_le (by rw [HN.out]; omega)]; exact readG_nil _ _ _ _) (by rw [HN.out]; exact h3) (by rw [HN.out]; exact h4) (by rw [HN.out]; exact h5) H6.out
    have hdl : decide (c < N) = true := decide_eq_true hlt
    cases bad with
    | true =>
      go_wp2_with fail
      go_quiet (fail)
      go_wp2_with fail
      go_ret
      exact LZ.fin HR.out HL.out (fun _ => by first | exact H1.out rfl | exact H1.out trivial) (fun e => (by cases e)) (fun e => (by cases e)) (by rw [HN.out]; exact h3) (by rw [HN.out]; exact h4) (by rw [HN.out]; exact h5) H6.out
    | false =>
      have HJ := Lw.hid (H2.out (by first | rfl | trivial))
      clear H2 H1
      obtain ⟨b, r, hbr⟩ : ∃ b r, S.drop c = b :: r := by
        cases e : S.drop c with
        | nil => have := congrArg List.length e; rw [List.length_drop, HN.out] at this; simp at this; omega
        | cons b r => exact ⟨b, r, rfl⟩
      obtain ⟨hc0, hd1, hl1⟩ := drop_cons hbr
      have gb := BA_get hc0
      have HBR := Lw.hid hbr; have HD1 := Lw.hid hd1
      have hlc : l.length ≤ 100000 := by have := HJ.out; omega
      have htc : tmass l ≤ 1000000 := by have := HJ.out; omega
      have HLC := Lw.hid hlc; have HTC := Lw.hid htc
      clear hbr hc0 hd1 hl1 hlc htc
      by_cases he : b = 34
      · have be : ((b.toNat : Int) == 34) = true := by rw [he]; rfl
        have HFIN : Hid (readG refR .dbl q l ⟨S.drop c, false⟩ = (l, ⟨S.drop c, false⟩)) := Lw.hid (by rw [HBR.out, he]; exact readG_end _ _ _ _ rfl)
        clear he
        go_wp2_with fail
        go_quiet (fail)
        go_wp2_with fail
        go_quiet (fail)
        go_wp2_with fail
        go_ret
        exact LZ.fin HR.out HL.out (fun e => (by cases e)) (fun _ => HJ.out) (fun _ => HFIN.out) (by rw [HN.out]; exact h3) (by rw [HN.out]; exact h4) (by rw [HN.out]; exact h5) H6.out
      have be : ((b.toNat : Int) == 34) = false := u8ne (k := 34) rfl he
      by_cases h92 : b = 92
      · have b92 : ((b.toNat : Int) == 92) = true := by rw [h92]; rfl
        cases r with
        | nil =>
          have hcN : c + 1 = N := by
            have e := congrArg List.length HBR.out
            rw [List.length_drop, HN.out] at e
            simp at e; omega
          have hcN1 : N ≤ c + 1 := by omega
          have hd2 : decide (c + 1 < N) = false := decide_eq_false (by omega)
          have hd3 : decide ((c : Int) + 1 < (N : Int)) = false := decide_eq_false (by omega)
          have HSTEP : Hid (readG refR .dbl q l ⟨S.drop c, false⟩ = readG refR .dbl q (putF l (.mk 1 [b] [] q)) ⟨S.drop (c + 1), false⟩) := Lw.hid (by rw [HD1.out, HBR.out, h92]; exact readG_pr _ _ _ _)
          have eX : (BA S).extract c (c + 1) = BA [b] := by rw [BA_extract, List.drop_take, Nat.add_sub_cancel_left, HBR.out]; rfl
          have b36 : ((b.toNat : Int) == 36) = false := by rw [h92]; rfl
          have b39 : ((b.toNat : Int) == 39) = false := by rw [h92]; rfl
          have b34 : ((b.toNat : Int) == 34) = false := by rw [h92]; rfl
          clear h92 hcN
          go_wp2_with fail
          go_quiet (fail)
          obtain ⟨m1, rfl⟩ : ∃ m, m = nq := ⟨_, rfl⟩
          go_wp2_with fail
          go_quiet (fail)
          obtain ⟨m2, rfl⟩ : ∃ m, m = nq := ⟨_, rfl⟩
          go_wp2_with fail
          go_quiet (fail)
          obtain ⟨m3, rfl⟩ : ∃ m, m = nq := ⟨_, rfl⟩
          go_wp2_with fail
          have HR5 : Hid (RdZ (wr.drewN (m1 + m2 + m3)) g S c false) := Lw.hid (by exact HR.out)
          have K5 : Hid (K1 g wr (wr.drewN (m1 + m2 + m3))) := Lw.hid (K1.drewN g wr _)
          generalize wr.drewN (m1 + m2 + m3) = w5 at *
          have hg5 := HR5.out.lt
          clear g0 g1 g2 gf0 gf1 gf2
          refine wp_region_tail 17 [stV u7, stV (.pointer (some ⟨g, 0, none⟩)), stV (.pointer (some ⟨g, 0, none⟩)), stV (.pointer (some ⟨g, 0, none⟩)), stV (.string (BA S)), stV (.pointer (some ⟨g, 0, none⟩)), stV (.pointer (some ⟨g, 0, none⟩)), stV (.pointer (some ⟨g, 1, none⟩)), stV (.int .i64 (c : Int)), stV (.pointer (some ⟨g, 0, none⟩)), stV (.pointer (some ⟨g, 0, none⟩)), stV (.pointer (some ⟨g, 1, none⟩)), stV (.int .i64 (c : Int)), stV (.int .i64 ((c : Int) + 1)), stV (.string (BA [b])), stV (.bool q), stV (.agg #[.int .i64 1, .string (BA [b]), .slice none 0 0, .bool q])] (by kernel_rfl) (by kernel_rfl) ?_ ?_
          · -- each operation by itself
            refine ssteps_cons (fun a' w' hI hag hf K hK => ?_) ?_
            · have s7 := hag.same 7 (by decide)
              clear hag
              go_wp2_with fail
              exact hK _ _ hI (Kept.refl _ _) rfl
            refine ssteps_cons (fun a' w' hI hag hf K hK => ?_) ?_
            · have s0 := hag.same 0 (by decide)
              clear hag
              go_wp2_with fail
              exact hK _ _ hI (Kept.refl _ _) rfl
            refine ssteps_cons (fun a' w' hI hag hf K hK => ?_) ?_
            · obtain ⟨⟨_, h1, rfl⟩, -⟩ : SFacts _ _ a' w' [1] := hf
              clear hag
              go_wp2_with fail
              exact hK _ _ hI (Kept.refl _ _) rfl
            refine ssteps_cons (fun a' w' hI hag hf K hK => ?_) ?_
            · obtain ⟨⟨_, h2, rfl⟩, -⟩ : SFacts _ _ a' w' [2] := hf
              clear hag
              go_wp2_with fail
              exact hK _ _ hI (Kept.refl _ _) rfl
            refine ssteps_cons (fun a' w' hI hag hf K hK => ?_) ?_
            · obtain ⟨⟨_, h3, rfl⟩, -⟩ : SFacts _ _ a' w' [3] := hf
              clear hag
              obtain ⟨⟨x0, x1, x2⟩, -⟩ := (HR5.out.kept hI (fun h => h)).cells
              go_wp2_with fail
              exact hK _ _ hI (Kept.refl _ _) rfl
            refine ssteps_cons (fun a' w' hI hag hf K hK => ?_) ?_
            · have s0 := hag.same 0 (by decide)
              clear hag
              go_wp2_with fail
              exact hK _ _ hI (Kept.refl _ _) rfl
            refine ssteps_cons (fun a' w' hI hag hf K hK => ?_) ?_
            · obtain ⟨⟨_, h5, rfl⟩, -⟩ : SFacts _ _ a' w' [5] := hf
              clear hag
              go_wp2_with fail
              exact hK _ _ hI (Kept.refl _ _) rfl
            refine ssteps_cons (fun a' w' hI hag hf K hK => ?_) ?_
            · obtain ⟨⟨_, h6, rfl⟩, -⟩ : SFacts _ _ a' w' [6] := hf
              clear hag
              go_wp2_with fail
              exact hK _ _ hI (Kept.refl _ _) rfl
            refine ssteps_cons (fun a' w' hI hag hf K hK => ?_) ?_
            · obtain ⟨⟨_, h7, rfl⟩, -⟩ : SFacts _ _ a' w' [7] := hf
              clear hag
              obtain ⟨⟨x0, x1, x2⟩, -⟩ := (HR5.out.kept hI (fun h => h)).cells
              go_wp2_with fail
              exact hK _ _ hI (Kept.refl _ _) rfl
            refine ssteps_cons (fun a' w' hI hag hf K hK => ?_) ?_
            · have s0 := hag.same 0 (by decide)
              clear hag
              go_wp2_with fail
              exact hK _ _ hI (Kept.refl _ _) rfl
            refine ssteps_cons (fun a' w' hI hag hf K hK => ?_) ?_
            · obtain ⟨⟨_, h9, rfl⟩, -⟩ : SFacts _ _ a' w' [9] := hf
              clear hag
              go_wp2_with fail
              exact hK _ _ hI (Kept.refl _ _) rfl
            refine ssteps_cons (fun a' w' hI hag hf K hK => ?_) ?_
            · obtain ⟨⟨_, h10, rfl⟩, -⟩ : SFacts _ _ a' w' [10] := hf
              clear hag
              go_wp2_with fail
              exact hK _ _ hI (Kept.refl _ _) rfl
            refine ssteps_cons (fun a' w' hI hag hf K hK => ?_) ?_
            · obtain ⟨⟨_, h11, rfl⟩, -⟩ : SFacts _ _ a' w' [11] := hf
              clear hag
              obtain ⟨⟨x0, x1, x2⟩, -⟩ := (HR5.out.kept hI (fun h => h)).cells
              go_wp2_with fail
              exact hK _ _ hI (Kept.refl _ _) rfl
            refine ssteps_cons (fun a' w' hI hag hf K hK => ?_) ?_
            · obtain ⟨⟨_, h12, rfl⟩, -⟩ : SFacts _ _ a' w' [12] := hf
              clear hag
              go_wp2_with fail
              exact hK _ _ hI (Kept.refl _ _) rfl
            refine ssteps_cons (fun a' w' hI hag hf K hK => ?_) ?_
            · obtain ⟨⟨_, h4, rfl⟩, ⟨_, h8, rfl⟩, ⟨_, h13, rfl⟩, -⟩ : SFacts _ _ a' w' [4, 8, 13] := hf
              clear hag
              go_wp2_with fail
              exact hK _ _ hI (Kept.refl _ _) rfl
            refine ssteps_cons (fun a' w' hI hag hf K hK => ?_) ?_
            · have s2 := hag.same 2 (by decide)
              clear hag
              go_wp2_with fail
              exact hK _ _ hI (Kept.refl _ _) rfl
            refine ssteps_cons (fun a' w' hI hag hf K hK => ?_) ?_
            · obtain ⟨⟨_, h14, rfl⟩, ⟨_, h15, rfl⟩, -⟩ : SFacts _ _ a' w' [14, 15] := hf
              clear hag
              go_wp2_with fail
              exact hK _ _ hI (Kept.refl _ _) rfl
            exact trivial
          · intro vs wz hI hvs
            have q0 : vs 0 = u7 := hvs 0 _ _ rfl rfl
            have q1 : vs 1 = (.pointer (some ⟨g, 0, none⟩)) := hvs 1 _ _ rfl rfl
            have q2 : vs 2 = (.pointer (some ⟨g, 0, none⟩)) := hvs 2 _ _ rfl rfl
            have q3 : vs 3 = (.pointer (some ⟨g, 0, none⟩)) := hvs 3 _ _ rfl rfl
            have q4 : vs 4 = (.string (BA S)) := hvs 4 _ _ rfl rfl
            have q5 : vs 5 = (.pointer (some ⟨g, 0, none⟩)) := hvs 5 _ _ rfl rfl
            have q6 : vs 6 = (.pointer (some ⟨g, 0, none⟩)) := hvs 6 _ _ rfl rfl
            have q7 : vs 7 = (.pointer (some ⟨g, 1, none⟩)) := hvs 7 _ _ rfl rfl
            have q8 : vs 8 = (.int .i64 (c : Int)) := hvs 8 _ _ rfl rfl
            have q9 : vs 9 = (.pointer (some ⟨g, 0, none⟩)) := hvs 9 _ _ rfl rfl
            have q10 : vs 10 = (.pointer (some ⟨g, 0, none⟩)) := hvs 10 _ _ rfl rfl
            have q11 : vs 11 = (.pointer (some ⟨g, 1, none⟩)) := hvs 11 _ _ rfl rfl
            have q12 : vs 12 = (.int .i64 (c : Int)) := hvs 12 _ _ rfl rfl
            have q13 : vs 13 = (.int .i64 ((c : Int) + 1)) := hvs 13 _ _ rfl rfl
            have q14 : vs 14 = (.string (BA [b])) := hvs 14 _ _ rfl rfl
            have q15 : vs 15 = (.bool q) := hvs 15 _ _ rfl rfl
            have q16 : vs 16 = (.agg #[.int .i64 1, .string (BA [b]), .slice none 0 0, .bool q]) := hvs 16 _ _ rfl rfl
            clear hvs
            simp only [List.take_succ_cons, List.take_zero, List.drop_succ_cons, List.drop_zero, putAll, Act.put, List.setIfInBounds_toArray, List.set_cons_zero, List.set_cons_succ, Nat.reduceAdd, q0, q1, q2, q3, q4, q5, q6, q7, q8, q9, q10, q11, q12, q13, q14, q15, q16]
            clear q0 q1 q2 q3 q4 q5 q6 q7 q8 q9 q10 q11 q12 q13 q14 q15 q16
            have HRZ : Hid (RdZ wz g S c false) := Lw.hid (HR5.out.kept hI (fun h => h))
            have KZ : Hid (K1 g wr wz) := Lw.hid (K5.out.then (hI.mono (fun _ _ h => h.elim)))
            have hgz := HRZ.out.lt
            clear hI
            go_wp2_with fail
            refine ((HL.out.call KZ.out).put HRZ.out (.mk 1 [b] [] q) (.slice none 0 0) (WAt.nil _ _) HLC.out HTC.out (by show 1 ≤ _; decide)).mono ?_
            rintro x w4 ⟨v4, rfl, hr4, hl4, _⟩
            have HR4 := Lw.hid hr4; have HL4 := Lw.hid hl4
            clear hr4 hl4
            obtain ⟨⟨g0, g1, g2⟩, gf0, gf1, gf2⟩ := HR4.out.cells
            go_wp2_with fail
            go_roundg (S.length - (c + 1))
            case measure => show S.length - (c + 1) < S.length - c; rw [HN.out]; omega
            case rel => exact LZ.step (HR4.out.at' _ (by omega)) (HL4.out.call (K1.set (K1.refl g w4) _)) HJ.out HSTEP.out (by rw [HN.out]; exact hlt) (by omega) (by rw [HN.out]; omega) (by show 1 + c ≤ _; omega) (by show 1 + c ≤ _; rw [HN.out]; omega)
        | cons d r2 =>
          have hcN : c + 1 < N := by
            have e := congrArg List.length HBR.out
            rw [List.length_drop, HN.out] at e
            simp at e; omega
          have hd2 : decide (c + 1 < N) = true := decide_eq_true hcN
          have hd3 : decide ((c : Int) + 1 < (N : Int)) = true := decide_eq_true (by omega)
          have HDD : Hid (S.drop (c + 2) = r2) := Lw.hid (by rw [show c + 2 = (c + 1) + 1 from rfl, ← List.drop_drop, HD1.out]; rfl)
          have HSTEP : Hid (readG refR .dbl q l ⟨S.drop c, false⟩ = readG refR .dbl q (putF l (pairR .dbl (d :: r2)).1) ⟨S.drop (c + 2), false⟩) := Lw.hid (by rw [HDD.out, HBR.out, h92]; exact readG_pair _ _ _ _ _)
          have eX : (BA S).extract (c + 1) (c + 2) = BA [d] := by rw [BA_extract, List.drop_take, show c + 2 - (c + 1) = 1 by omega, HD1.out]; rfl
          have gd := BA_get (l := [d]) (k := 0) (c := d) rfl
          have hz1 : (BA [d]).size = 1 := BA_size _
          have eX2 : (BA S).extract c (c + 2) = BA [92, d] := by rw [BA_extract, List.drop_take, Nat.add_sub_cancel_left, HBR.out, h92]; rfl
          have HSP := Lw.hid (fun w => z_special w d)
          have HP : Hid ((pairR .dbl (d :: r2)).1 = if oddB d = false then .mk 1 [92, d] [] true else .mk 1 [d] [] true) := Lw.hid (by unfold pairR; cases ho : oddB d <;> simp [ho])
          clear h92
          obtain ⟨od, hod⟩ : ∃ od, oddB d = od := ⟨_, rfl⟩
          rw [hod] at HP
          have HSP' := Lw.hid (fun w => (HSP.out w).mono (fun x w' h => by rw [hod] at h; exact h))
          clear HSP hod
          have HSP := HSP'
          clear HSP'
          cases od with
          | true =>
            have HP2 : Hid ((pairR .dbl (d :: r2)).1 = .mk 1 [d] [] true) := Lw.hid (by rw [HP.out]; rfl)
            rw [HP2.out] at HSTEP
            clear HP HP2
            go_wp2_with fail
            go_quiet (fail)
            obtain ⟨m1, rfl⟩ : ∃ m, m = nq := ⟨_, rfl⟩
            go_wp2_with fail
            go_quiet (fail)
            obtain ⟨m2, rfl⟩ : ∃ m, m = nq := ⟨_, rfl⟩
            go_wp2_with fail
            go_quiet (fail)
            go_wp2_with fail
            go_quiet (fail)
            go_wp2_with fail
            refine (HSP.out _).mono ?_
            rintro x _ ⟨rfl, rfl⟩
            go_wp2_with fail
            refine ((HL.out.call (by first | exact K1.drewN g _ _ | exact k1d2 g _ _ _ | exact k1d3 g _ _ _ _ | exact k1d4 g _ _ _ _ _)).put (by exact HR.out) (.mk 1 [d] [] true) (.slice none 0 0) (WAt.nil _ _) HLC.out HTC.out (by show 1 ≤ _; decide)).mono ?_
            rintro x w4 ⟨v4, rfl, hr4, hl4, _⟩
            have HR4 := Lw.hid hr4; have HL4 := Lw.hid hl4
            clear hr4 hl4 g0 g1 g2 gf0 gf1 gf2
            obtain ⟨⟨g0, g1, g2⟩, gf0, gf1, gf2⟩ := HR4.out.cells
            go_wp2_with fail
            go_roundg (S.length - (c + 2))
            case measure => show S.length - (c + 2) < S.length - c; rw [HN.out]; omega
            case rel => exact LZ.step (HR4.out.at' _ (by omega)) (HL4.out.call (K1.set (K1.refl g w4) _)) HJ.out HSTEP.out (by rw [HN.out]; exact hlt) (by omega) (by rw [HN.out]; omega) (by show 1 + c ≤ _; omega) (by show 1 + c ≤ _; rw [HN.out]; omega)
          | false =>
            have HP2 : Hid ((pairR .dbl (d :: r2)).1 = .mk 1 [92, d] [] true) := Lw.hid (by rw [HP.out]; rfl)
            rw [HP2.out] at HSTEP
            clear HP HP2
            go_wp2_with fail
            go_quiet (fail)
            obtain ⟨m1, rfl⟩ : ∃ m, m = nq := ⟨_, rfl⟩
            go_wp2_with fail
            go_quiet (fail)
            obtain ⟨m2, rfl⟩ : ∃ m, m = nq := ⟨_, rfl⟩
            go_wp2_with fail
            go_quiet (fail)
            go_wp2_with fail
            go_quiet (fail)
            go_wp2_with fail
            refine (HSP.out _).mono ?_
            rintro x _ ⟨rfl, rfl⟩
            go_wp2_with fail
            go_quiet (fail)
            go_wp2_with fail
            refine ((HL.out.call (by first | exact K1.drewN g _ _ | exact k1d2 g _ _ _ | exact k1d3 g _ _ _ _ | exact k1d4 g _ _ _ _ _)).put (by exact HR.out) (.mk 1 [92, d] [] true) (.slice none 0 0) (WAt.nil _ _) HLC.out HTC.out (by show 2 ≤ _; decide)).mono ?_
            rintro x w4 ⟨v4, rfl, hr4, hl4, _⟩
            have HR4 := Lw.hid hr4; have HL4 := Lw.hid hl4
            clear hr4 hl4 g0 g1 g2 gf0 gf1 gf2
            obtain ⟨⟨g0, g1, g2⟩, gf0, gf1, gf2⟩ := HR4.out.cells
            go_wp2_with fail
            go_roundg (S.length - (c + 2))
            case measure => show S.length - (c + 2) < S.length - c; rw [HN.out]; omega
            case rel => exact LZ.step (HR4.out.at' _ (by omega)) (HL4.out.call (K1.set (K1.refl g w4) _)) HJ.out HSTEP.out (by rw [HN.out]; exact hlt) (by omega) (by rw [HN.out]; omega) (by show 2 + c ≤ _; omega) (by show 2 + c ≤ _; rw [HN.out]; omega)
      have b92 : ((b.toNat : Int) == 92) = false := u8ne (k := 92) rfl h92
      by_cases h36 : b = 36
      · have b36 : ((b.toNat : Int) == 36) = true := by rw [h36]; rfl
        have HSTEP : Hid (readG refR .dbl q l ⟨S.drop c, false⟩ = readG refR .dbl q (putF l (dollarG refR (readG refR .brc q []) q (S.drop (c + 1))).1) (dollarG refR (readG refR .brc q []) q (S.drop (c + 1))).2) := Lw.hid (by rw [HBR.out, h36, HD1.out]; exact readG_dollar _ _ _ _)
        have HCW : Hid (∀ M, M < S.length - (c + 1) → CWordZ M) := Lw.hid (fun M hM => HW.out M (by have := HJ.out; omega))
        clear h36
        go_wp2_with fail
        go_quiet (fail)
        obtain ⟨m1, rfl⟩ : ∃ m, m = nq := ⟨_, rfl⟩
        go_wp2_with fail
        go_quiet (fail)
        obtain ⟨m2, rfl⟩ : ∃ m, m = nq := ⟨_, rfl⟩
        go_wp2_with fail
        go_quiet (fail)
        go_wp2_with fail
        refine (z_dollar q _ g S (c + 1) (by exact RdZ.at' (by exact HR.out) _ (by omega)) (by rw [HN.out]; exact hS9) (by rw [HN.out]; omega) HCW).mono ?_
        rintro x w3 ⟨p, ov, c', bad, rfl, hr3, ha3, k3, hbad, himp, hb1, hb2⟩
        have HR3 := Lw.hid hr3
        have K3 : Hid (K1 g wr w3) := Lw.hid (K1.then (K1.set ((K1.refl g wr).then (by first | exact K1.drewN g _ _ | exact k1d2 g _ _ _ | exact k1d3 g _ _ _ _ | exact k1d4 g _ _ _ _ _)) _) k3)
        have HA3 := Lw.hid (ha3.mono (G := fun b => False ∨ (wr.heap.size ≤ b ∧ b < w3.heap.size)) (fun b hb hx => .inr ⟨by simpa using hx, hb⟩))
        have HL3 := Lw.hid (HL.out.call K3.out)
        have HIM := Lw.hid himp; have HBAD := Lw.hid hbad; have HB1 := Lw.hid hb1; have HB2 := Lw.hid hb2
        clear hr3 ha3 k3 himp hbad hb1 hb2
        go_wp2_with fail
        refine (HL3.out.put HR3.out p ov HA3.out HLC.out HTC.out (by have := HB2.out; rw [HN.out] at this; omega)).mono ?_
        rintro x w4 ⟨v4, rfl, hr4, hl4, _⟩
        cases bad with
        | true =>
          have HREL := Lw.hid (LZ.bad hr4 hl4 HJ.out (by rw [HSTEP.out]; cases hd : (dollarG refR (readG refR .brc q []) q (S.drop (c + 1))).2 with | mk s9 b9 => rw [hd] at HBAD; have hb9 : b9 = true := HBAD.out; subst hb9; rw [readG_bad]) (by rw [HN.out]; exact hlt) (by have h1 := HB1.out; have h2 := HJ.out; omega) (by have := HB2.out; omega))
          clear hr4 hl4
          go_wp2_with fail
          go_roundg 0
          case measure => show 0 < S.length - c; rw [HN.out]; omega
          case rel => exact HREL.out
        | false =>
          obtain ⟨hp, hs, hc1, hc2, hc3⟩ := HIM.out rfl
          have HREL := Lw.hid (LZ.step hr4 hl4 HJ.out (by rw [HSTEP.out, ← hp]; cases hd : (dollarG refR (readG refR .brc q []) q (S.drop (c + 1))).2 with | mk s9 b9 => rw [hd] at HBAD hs; have hb9 : b9 = false := HBAD.out; have hs9 : S.drop c' = s9 := hs; subst hb9; rw [hs9]) (by rw [HN.out]; exact hlt) (by omega) (by omega) (by omega) (by omega))
          have hcc : c < c' := by omega
          clear hr4 hl4 hp hs hc1 hc2 hc3
          go_wp2_with fail
          go_roundg (S.length - c')
          case measure => show S.length - c' < S.length - c; rw [HN.out]; omega
          case rel => exact HREL.out
      have b36 : ((b.toNat : Int) == 36) = false := u8ne (k := 36) rfl h36
      have HSTEP : Hid (readG refR .dbl q l ⟨S.drop c, false⟩ = readG refR .dbl q (putF l (.mk 1 [b] [] q)) ⟨S.drop (c + 1), false⟩) := Lw.hid (by rw [HBR.out, HD1.out]; exact readG_one _ _ _ (fun e => he (Option.some.inj e).symm) h92 h36 (fun e => e.2 rfl) (fun e => e.2 rfl))
      have eX : (BA S).extract c (c + 1) = BA [b] := by rw [BA_extract, List.drop_take, Nat.add_sub_cancel_left, HBR.out]; rfl
      have b34 := be
      obtain ⟨t39, h39⟩ : ∃ t, ((b.toNat : Int) == 39) = t := ⟨_, rfl⟩
      cases t39 with
      | true =>
        go_wp2_with fail
        go_quiet (fail)
        obtain ⟨m1, rfl⟩ : ∃ m, m = nq := ⟨_, rfl⟩
        go_wp2_with fail
        go_quiet (fail)
        obtain ⟨m2, rfl⟩ : ∃ m, m = nq := ⟨_, rfl⟩
        go_wp2_with fail
        go_quiet (fail)
        obtain ⟨m3, rfl⟩ : ∃ m, m = nq := ⟨_, rfl⟩
        go_wp2_with fail
        have HR5 : Hid (RdZ (wr.drewN (m1 + m2 + m3)) g S c false) := Lw.hid (by exact HR.out)
        have K5 : Hid (K1 g wr (wr.drewN (m1 + m2 + m3))) := Lw.hid (K1.drewN g wr _)
        generalize wr.drewN (m1 + m2 + m3) = w5 at *
        have hg5 := HR5.out.lt
        clear g0 g1 g2 gf0 gf1 gf2
        refine wp_region_tail 17 [stV u7, stV (.pointer (some ⟨g, 0, none⟩)), stV (.pointer (some ⟨g, 0, none⟩)), stV (.pointer (some ⟨g, 0, none⟩)), stV (.string (BA S)), stV (.pointer (some ⟨g, 0, none⟩)), stV (.pointer (some ⟨g, 0, none⟩)), stV (.pointer (some ⟨g, 1, none⟩)), stV (.int .i64 (c : Int)), stV (.pointer (some ⟨g, 0, none⟩)), stV (.pointer (some ⟨g, 0, none⟩)), stV (.pointer (some ⟨g, 1, none⟩)), stV (.int .i64 (c : Int)), stV (.int .i64 ((c : Int) + 1)), stV (.string (BA [b])), stV (.bool q), stV (.agg #[.int .i64 1, .string (BA [b]), .slice none 0 0, .bool q])] (by kernel_rfl) (by kernel_rfl) ?_ ?_
        · -- each operation by itself
          refine ssteps_cons (fun a' w' hI hag hf K hK => ?_) ?_
          · have s7 := hag.same 7 (by decide)
            clear hag
            go_wp2_with fail
            exact hK _ _ hI (Kept.refl _ _) rfl
          refine ssteps_cons (fun a' w' hI hag hf K hK => ?_) ?_
          · have s0 := hag.same 0 (by decide)
            clear hag
            go_wp2_with fail
            exact hK _ _ hI (Kept.refl _ _) rfl
          refine ssteps_cons (fun a' w' hI hag hf K hK => ?_) ?_
          · obtain ⟨⟨_, h1, rfl⟩, -⟩ : SFacts _ _ a' w' [1] := hf
            clear hag
            go_wp2_with fail
            exact hK _ _ hI (Kept.refl _ _) rfl
          refine ssteps_cons (fun a' w' hI hag hf K hK => ?_) ?_
          · obtain ⟨⟨_, h2, rfl⟩, -⟩ : SFacts _ _ a' w' [2] := hf
            clear hag
            go_wp2_with fail
            exact hK _ _ hI (Kept.refl _ _) rfl
          refine ssteps_cons (fun a' w' hI hag hf K hK => ?_) ?_
          · obtain ⟨⟨_, h3, rfl⟩, -⟩ : SFacts _ _ a' w' [3] := hf
            clear hag
            obtain ⟨⟨x0, x1, x2⟩, -⟩ := (HR5.out.kept hI (fun h => h)).cells
            go_wp2_with fail
            exact hK _ _ hI (Kept.refl _ _) rfl
          refine ssteps_cons (fun a' w' hI hag hf K hK => ?_) ?_
          · have s0 := hag.same 0 (by decide)
            clear hag
            go_wp2_with fail
            exact hK _ _ hI (Kept.refl _ _) rfl
          refine ssteps_cons (fun a' w' hI hag hf K hK => ?_) ?_
          · obtain ⟨⟨_, h5, rfl⟩, -⟩ : SFacts _ _ a' w' [5] := hf
            clear hag
            go_wp2_with fail
            exact hK _ _ hI (Kept.refl _ _) rfl
          refine ssteps_cons (fun a' w' hI hag hf K hK => ?_) ?_
          · obtain ⟨⟨_, h6, rfl⟩, -⟩ : SFacts _ _ a' w' [6] := hf
            clear hag
            go_wp2_with fail
            exact hK _ _ hI (Kept.refl _ _) rfl
          refine ssteps_cons (fun a' w' hI hag hf K hK => ?_) ?_
          · obtain ⟨⟨_, h7, rfl⟩, -⟩ : SFacts _ _ a' w' [7] := hf
            clear hag
            obtain ⟨⟨x0, x1, x2⟩, -⟩ := (HR5.out.kept hI (fun h => h)).cells
            go_wp2_with fail
            exact hK _ _ hI (Kept.refl _ _) rfl
          refine ssteps_cons (fun a' w' hI hag hf K hK => ?_) ?_
          · have s0 := hag.same 0 (by decide)
            clear hag
            go_wp2_with fail
            exact hK _ _ hI (Kept.refl _ _) rfl
          refine ssteps_cons (fun a' w' hI hag hf K hK => ?_) ?_
          · obtain ⟨⟨_, h9, rfl⟩, -⟩ : SFacts _ _ a' w' [9] := hf
            clear hag
            go_wp2_with fail
            exact hK _ _ hI (Kept.refl _ _) rfl
          refine ssteps_cons (fun a' w' hI hag hf K hK => ?_) ?_
          · obtain ⟨⟨_, h10, rfl⟩, -⟩ : SFacts _ _ a' w' [10] := hf
            clear hag
            go_wp2_with fail
            exact hK _ _ hI (Kept.refl _ _) rfl
          refine ssteps_cons (fun a' w' hI hag hf K hK => ?_) ?_
          · obtain ⟨⟨_, h11, rfl⟩, -⟩ : SFacts _ _ a' w' [11] := hf
            clear hag
            obtain ⟨⟨x0, x1, x2⟩, -⟩ := (HR5.out.kept hI (fun h => h)).cells
            go_wp2_with fail
            exact hK _ _ hI (Kept.refl _ _) rfl
          refine ssteps_cons (fun a' w' hI hag hf K hK => ?_) ?_
          · obtain ⟨⟨_, h12, rfl⟩, -⟩ : SFacts _ _ a' w' [12] := hf
            clear hag
            go_wp2_with fail
            exact hK _ _ hI (Kept.refl _ _) rfl
          refine ssteps_cons (fun a' w' hI hag hf K hK => ?_) ?_
          · obtain ⟨⟨_, h4, rfl⟩, ⟨_, h8, rfl⟩, ⟨_, h13, rfl⟩, -⟩ : SFacts _ _ a' w' [4, 8, 13] := hf
            clear hag
            go_wp2_with fail
            exact hK _ _ hI (Kept.refl _ _) rfl
          refine ssteps_cons (fun a' w' hI hag hf K hK => ?_) ?_
          · have s2 := hag.same 2 (by decide)
            clear hag
            go_wp2_with fail
            exact hK _ _ hI (Kept.refl _ _) rfl
          refine ssteps_cons (fun a' w' hI hag hf K hK => ?_) ?_
          · obtain ⟨⟨_, h14, rfl⟩, ⟨_, h15, rfl⟩, -⟩ : SFacts _ _ a' w' [14, 15] := hf
            clear hag
            go_wp2_with fail
            exact hK _ _ hI (Kept.refl _ _) rfl
          exact trivial
        · intro vs wz hI hvs
          have q0 : vs 0 = u7 := hvs 0 _ _ rfl rfl
          have q1 : vs 1 = (.pointer (some ⟨g, 0, none⟩)) := hvs 1 _ _ rfl rfl
          have q2 : vs 2 = (.pointer (some ⟨g, 0, none⟩)) := hvs 2 _ _ rfl rfl
          have q3 : vs 3 = (.pointer (some ⟨g, 0, none⟩)) := hvs 3 _ _ rfl rfl
          have q4 : vs 4 = (.string (BA S)) := hvs 4 _ _ rfl rfl
          have q5 : vs 5 = (.pointer (some ⟨g, 0, none⟩)) := hvs 5 _ _ rfl rfl
          have q6 : vs 6 = (.pointer (some ⟨g, 0, none⟩)) := hvs 6 _ _ rfl rfl
          have q7 : vs 7 = (.pointer (some ⟨g, 1, none⟩)) := hvs 7 _ _ rfl rfl
          have q8 : vs 8 = (.int .i64 (c : Int)) := hvs 8 _ _ rfl rfl
          have q9 : vs 9 = (.pointer (some ⟨g, 0, none⟩)) := hvs 9 _ _ rfl rfl
          have q10 : vs 10 = (.pointer (some ⟨g, 0, none⟩)) := hvs 10 _ _ rfl rfl
          have q11 : vs 11 = (.pointer (some ⟨g, 1, none⟩)) := hvs 11 _ _ rfl rfl
          have q12 : vs 12 = (.int .i64 (c : Int)) := hvs 12 _ _ rfl rfl
          have q13 : vs 13 = (.int .i64 ((c : Int) + 1)) := hvs 13 _ _ rfl rfl
          have q14 : vs 14 = (.string (BA [b])) := hvs 14 _ _ rfl rfl
          have q15 : vs 15 = (.bool q) := hvs 15 _ _ rfl rfl
          have q16 : vs 16 = (.agg #[.int .i64 1, .string (BA [b]), .slice none 0 0, .bool q]) := hvs 16 _ _ rfl rfl
          clear hvs
          simp only [List.take_succ_cons, List.take_zero, List.drop_succ_cons, List.drop_zero, putAll, Act.put, List.setIfInBounds_toArray, List.set_cons_zero, List.set_cons_succ, Nat.reduceAdd, q0, q1, q2, q3, q4, q5, q6, q7, q8, q9, q10, q11, q12, q13, q14, q15, q16]
          clear q0 q1 q2 q3 q4 q5 q6 q7 q8 q9 q10 q11 q12 q13 q14 q15 q16
          have HRZ : Hid (RdZ wz g S c false) := Lw.hid (HR5.out.kept hI (fun h => h))
          have KZ : Hid (K1 g wr wz) := Lw.hid (K5.out.then (hI.mono (fun _ _ h => h.elim)))
          have hgz := HRZ.out.lt
          clear hI
          go_wp2_with fail
          refine ((HL.out.call KZ.out).put HRZ.out (.mk 1 [b] [] q) (.slice none 0 0) (WAt.nil _ _) HLC.out HTC.out (by show 1 ≤ _; decide)).mono ?_
          rintro x w4 ⟨v4, rfl, hr4, hl4, _⟩
          have HR4 := Lw.hid hr4; have HL4 := Lw.hid hl4
          clear hr4 hl4
          obtain ⟨⟨g0, g1, g2⟩, gf0, gf1, gf2⟩ := HR4.out.cells
          go_wp2_with fail
          go_roundg (S.length - (c + 1))
          case measure => show S.length - (c + 1) < S.length - c; rw [HN.out]; omega
          case rel => exact LZ.step (HR4.out.at' _ (by omega)) (HL4.out.call (K1.set (K1.refl g w4) _)) HJ.out HSTEP.out (by rw [HN.out]; exact hlt) (by omega) (by rw [HN.out]; omega) (by show 1 + c ≤ _; omega) (by show 1 + c ≤ _; rw [HN.out]; omega)
      | false =>
        go_wp2_with fail
        go_quiet (fail)
        obtain ⟨m1, rfl⟩ : ∃ m, m = nq := ⟨_, rfl⟩
        go_wp2_with fail
        go_quiet (fail)
        obtain ⟨m2, rfl⟩ : ∃ m, m = nq := ⟨_, rfl⟩
        go_wp2_with fail
        go_quiet (fail)
        obtain ⟨m3, rfl⟩ : ∃ m, m = nq := ⟨_, rfl⟩
        go_wp2_with fail
        have HR5 : Hid (RdZ (wr.drewN (m1 + m2 + m3)) g S c false) := Lw.hid (by exact HR.out)
        have K5 : Hid (K1 g wr (wr.drewN (m1 + m2 + m3))) := Lw.hid (K1.drewN g wr _)
        generalize wr.drewN (m1 + m2 + m3) = w5 at *
        have hg5 := HR5.out.lt
        clear g0 g1 g2 gf0 gf1 gf2
        refine wp_region_tail 17 [stV u7, stV (.pointer (some ⟨g, 0, none⟩)), stV (.pointer (some ⟨g, 0, none⟩)), stV (.pointer (some ⟨g, 0, none⟩)), stV (.string (BA S)), stV (.pointer (some ⟨g, 0, none⟩)), stV (.pointer (some ⟨g, 0, none⟩)), stV (.pointer (some ⟨g, 1, none⟩)), stV (.int .i64 (c : Int)), stV (.pointer (some ⟨g, 0, none⟩)), stV (.pointer (some ⟨g, 0, none⟩)), stV (.pointer (some ⟨g, 1, none⟩)), stV (.int .i64 (c : Int)), stV (.int .i64 ((c : Int) + 1)), stV (.string (BA [b])), stV (.bool q), stV (.agg #[.int .i64 1, .string (BA [b]), .slice none 0 0, .bool q])] (by kernel_rfl) (by kernel_rfl) ?_ ?_
        · -- each operation by itself
          refine ssteps_cons (fun a' w' hI hag hf K hK => ?_) ?_
          · have s7 := hag.same 7 (by decide)
            clear hag
            go_wp2_with fail
            exact hK _ _ hI (Kept.refl _ _) rfl
          refine ssteps_cons (fun a' w' hI hag hf K hK => ?_) ?_
          · have s0 := hag.same 0 (by decide)
            clear hag
            go_wp2_with fail
            exact hK _ _ hI (Kept.refl _ _) rfl
          refine ssteps_cons (fun a' w' hI hag hf K hK => ?_) ?_
          · obtain ⟨⟨_, h1, rfl⟩, -⟩ : SFacts _ _ a' w' [1] := hf
            clear hag
            go_wp2_with fail
            exact hK _ _ hI (Kept.refl _ _) rfl
          refine ssteps_cons (fun a' w' hI hag hf K hK => ?_) ?_
          · obtain ⟨⟨_, h2, rfl⟩, -⟩ : SFacts _ _ a' w' [2] := hf
            clear hag
            go_wp2_with fail
            exact hK _ _ hI (Kept.refl _ _) rfl
          refine ssteps_cons (fun a' w' hI hag hf K hK => ?_) ?_
          · obtain ⟨⟨_, h3, rfl⟩, -⟩ : SFacts _ _ a' w' [3] := hf
            clear hag
            obtain ⟨⟨x0, x1, x2⟩, -⟩ := (HR5.out.kept hI (fun h => h)).cells
            go_wp2_with fail
            exact hK _ _ hI (Kept.refl _ _) rfl
          refine ssteps_cons (fun a' w' hI hag hf K hK => ?_) ?_
          · have s0 := hag.same 0 (by decide)
            clear hag
            go_wp2_with fail
            exact hK _ _ hI (Kept.refl _ _) rfl
          refine ssteps_cons (fun a' w' hI hag hf K hK => ?_) ?_
          · obtain ⟨⟨_, h5, rfl⟩, -⟩ : SFacts _ _ a' w' [5] := hf
            clear hag
            go_wp2_with fail
            exact hK _ _ hI (Kept.refl _ _) rfl
          refine ssteps_cons (fun a' w' hI hag hf K hK => ?_) ?_
          · obtain ⟨⟨_, h6, rfl⟩, -⟩ : SFacts _ _ a' w' [6] := hf
            clear hag
            go_wp2_with fail
            exact hK _ _ hI (Kept.refl _ _) rfl
          refine ssteps_cons (fun a' w' hI hag hf K hK => ?_) ?_
          · obtain ⟨⟨_, h7, rfl⟩, -⟩ : SFacts _ _ a' w' [7] := hf
            clear hag
            obtain ⟨⟨x0, x1, x2⟩, -⟩ := (HR5.out.kept hI (fun h => h)).cells
            go_wp2_with fail
            exact hK _ _ hI (Kept.refl _ _) rfl
          refine ssteps_cons (fun a' w' hI hag hf K hK => ?_) ?_
          · have s0 := hag.same 0 (by decide)
            clear hag
            go_wp2_with fail
            exact hK _ _ hI (Kept.refl _ _) rfl
          refine ssteps_cons (fun a' w' hI hag hf K hK => ?_) ?_
          · obtain ⟨⟨_, h9, rfl⟩, -⟩ : SFacts _ _ a' w' [9] := hf
            clear hag
            go_wp2_with fail
            exact hK _ _ hI (Kept.refl _ _) rfl
          refine ssteps_cons (fun a' w' hI hag hf K hK => ?_) ?_
          · obtain ⟨⟨_, h10, rfl⟩, -⟩ : SFacts _ _ a' w' [10] := hf
            clear hag
            go_wp2_with fail
            exact hK _ _ hI (Kept.refl _ _) rfl
          refine ssteps_cons (fun a' w' hI hag hf K hK => ?_) ?_
          · obtain ⟨⟨_, h11, rfl⟩, -⟩ : SFacts _ _ a' w' [11] := hf
            clear hag
            obtain ⟨⟨x0, x1, x2⟩, -⟩ := (HR5.out.kept hI (fun h => h)).cells
            go_wp2_with fail
            exact hK _ _ hI (Kept.refl _ _) rfl
          refine ssteps_cons (fun a' w' hI hag hf K hK => ?_) ?_
          · obtain ⟨⟨_, h12, rfl⟩, -⟩ : SFacts _ _ a' w' [12] := hf
            clear hag
            go_wp2_with fail
            exact hK _ _ hI (Kept.refl _ _) rfl
          refine ssteps_cons (fun a' w' hI hag hf K hK => ?_) ?_
          · obtain ⟨⟨_, h4, rfl⟩, ⟨_, h8, rfl⟩, ⟨_, h13, rfl⟩, -⟩ : SFacts _ _ a' w' [4, 8, 13] := hf
            clear hag
            go_wp2_with fail
            exact hK _ _ hI (Kept.refl _ _) rfl
          refine ssteps_cons (fun a' w' hI hag hf K hK => ?_) ?_
          · have s2 := hag.same 2 (by decide)
            clear hag
            go_wp2_with fail
            exact hK _ _ hI (Kept.refl _ _) rfl
          refine ssteps_cons (fun a' w' hI hag hf K hK => ?_) ?_
          · obtain ⟨⟨_, h14, rfl⟩, ⟨_, h15, rfl⟩, -⟩ : SFacts _ _ a' w' [14, 15] := hf
            clear hag
            go_wp2_with fail
            exact hK _ _ hI (Kept.refl _ _) rfl
          exact trivial
        · intro vs wz hI hvs
          have q0 : vs 0 = u7 := hvs 0 _ _ rfl rfl
          have q1 : vs 1 = (.pointer (some ⟨g, 0, none⟩)) := hvs 1 _ _ rfl rfl
          have q2 : vs 2 = (.pointer (some ⟨g, 0, none⟩)) := hvs 2 _ _ rfl rfl
          have q3 : vs 3 = (.pointer (some ⟨g, 0, none⟩)) := hvs 3 _ _ rfl rfl
          have q4 : vs 4 = (.string (BA S)) := hvs 4 _ _ rfl rfl
          have q5 : vs 5 = (.pointer (some ⟨g, 0, none⟩)) := hvs 5 _ _ rfl rfl
          have q6 : vs 6 = (.pointer (some ⟨g, 0, none⟩)) := hvs 6 _ _ rfl rfl
          have q7 : vs 7 = (.pointer (some ⟨g, 1, none⟩)) := hvs 7 _ _ rfl rfl
          have q8 : vs 8 = (.int .i64 (c : Int)) := hvs 8 _ _ rfl rfl
          have q9 : vs 9 = (.pointer (some ⟨g, 0, none⟩)) := hvs 9 _ _ rfl rfl
          have q10 : vs 10 = (.pointer (some ⟨g, 0, none⟩)) := hvs 10 _ _ rfl rfl
          have q11 : vs 11 = (.pointer (some ⟨g, 1, none⟩)) := hvs 11 _ _ rfl rfl
          have q12 : vs 12 = (.int .i64 (c : Int)) := hvs 12 _ _ rfl rfl
          have q13 : vs 13 = (.int .i64 ((c : Int) + 1)) := hvs 13 _ _ rfl rfl
          have q14 : vs 14 = (.string (BA [b])) := hvs 14 _ _ rfl rfl
          have q15 : vs 15 = (.bool q) := hvs 15 _ _ rfl rfl
          have q16 : vs 16 = (.agg #[.int .i64 1, .string (BA [b]), .slice none 0 0, .bool q]) := hvs 16 _ _ rfl rfl
          clear hvs
          simp only [List.take_succ_cons, List.take_zero, List.drop_succ_cons, List.drop_zero, putAll, Act.put, List.setIfInBounds_toArray, List.set_cons_zero, List.set_cons_succ, Nat.reduceAdd, q0, q1, q2, q3, q4, q5, q6, q7, q8, q9, q10, q11, q12, q13, q14, q15, q16]
          clear q0 q1 q2 q3 q4 q5 q6 q7 q8 q9 q10 q11 q12 q13 q14 q15 q16
          have HRZ : Hid (RdZ wz g S c false) := Lw.hid (HR5.out.kept hI (fun h => h))
          have KZ : Hid (K1 g wr wz) := Lw.hid (K5.out.then (hI.mono (fun _ _ h => h.elim)))
          have hgz := HRZ.out.lt
          clear hI
          go_wp2_with fail
          refine ((HL.out.call KZ.out).put HRZ.out (.mk 1 [b] [] q) (.slice none 0 0) (WAt.nil _ _) HLC.out HTC.out (by show 1 ≤ _; decide)).mono ?_
          rintro x w4 ⟨v4, rfl, hr4, hl4, _⟩
          have HR4 := Lw.hid hr4; have HL4 := Lw.hid hl4
          clear hr4 hl4
          obtain ⟨⟨g0, g1, g2⟩, gf0, gf1, gf2⟩ := HR4.out.cells
          go_wp2_with fail
          go_roundg (S.length - (c + 1))
          case measure => show S.length - (c + 1) < S.length - c; rw [HN.out]; omega
          case rel => exact LZ.step (HR4.out.at' _ (by omega)) (HL4.out.call (K1.set (K1.refl g w4) _)) HJ.out HSTEP.out (by rw [HN.out]; exact hlt) (by omega) (by rw [HN.out]; omega) (by show 1 + c ≤ _; omega) (by show 1 + c ≤ _; rw [HN.out]; omega)
end Go.Proofs.YtifcgeanippepaaDoor
