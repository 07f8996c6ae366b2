/- package lex: a piece; double quotes; curly brackets: by induction. -/
import Derived.Test.YtifcgeanippepaaDoorScan4M
namespace Go.Proofs.YtifcgeanippepaaDoor
open Go Go.RowKit Go.Lw
set_option maxRecDepth 100000
set_option linter.unusedVariables false
set_option linter.unusedSimpArgs false
attribute [local go_sem] BA_toList
set_option maxHeartbeats 16000000 in
theorem piece_ok (n : Nat) (HD : Hid (CDouble n)) (HB : Hid (CBrace n)) : CPiece (n + 1) := by
  intro q w g s a d h ha hs9 hd hn
  obtain ⟨⟨c0, c1, c2, c3⟩, f1, f2, f3⟩ := h.cells
  have hs := BA_size s
  have H := Lw.hid h
  obtain ⟨c, r, hcr⟩ : ∃ c r, s.drop a = c :: r := ⟨_, _, List.drop_eq_getElem_cons ha⟩
  obtain ⟨hc0, hd1, hl1⟩ := drop_cons hcr
  have g0 := BA_get hc0
  have HR := Lw.hid hd1
  rw [hcr]
  obtain ⟨N, hN⟩ : ∃ N, s.length = N := ⟨_, rfl⟩
  have HN := Lw.hid hN
  rw [hN] at hs ha hs9 hl1 hn
  have HL1 : Hid (N - r.length = a + 1) := Lw.hid (by omega)
  have HNN : Hid (2 * (N - (a + 1)) + 2 ≤ n) := Lw.hid (by simp only [need] at hn; omega)
  have hlt : a + 1 ≤ N := ha
  clear h hcr hc0 hd1 hl1 hN hn
  have HA1 : Hid (a + 1 ≤ s.length) := Lw.hid (by rw [HN.out]; exact hlt)
  have HS9 : Hid (s.length ≤ 1000000) := Lw.hid (by rw [HN.out]; exact hs9)
  cases q
  case false =>
    by_cases h92 : c = 92
    · have b92 : ((c.toNat : Int) == 92) = true := by rw [h92]; rfl
      have b39 : ((c.toNat : Int) == 39) = false := by rw [h92]; rfl
      have b34 : ((c.toNat : Int) == 34) = false := by rw [h92]; rfl
      have b36 : ((c.toNat : Int) == 36) = false := by rw [h92]; rfl
      have b96 : ((c.toNat : Int) == 96) = false := by rw [h92]; rfl
      have b40 : ((c.toNat : Int) == 40) = false := by rw [h92]; rfl
      have b41 : ((c.toNat : Int) == 41) = false := by rw [h92]; rfl
      have HE : Hid (scan (n + 1) (.piece false) d (c :: r) = pairF (s.drop (a + 1))) := Lw.hid (by rw [scan_piece]; rw [HR.out]; exact if_pos h92)
      clear h92
      go_enter Tryd.func46, Tryd.ntmps46
      go_wp2_with fail
      go_quiet (fail)
      go_wp2_with fail
      refine (pair_ok _ g s (a + 1) d (H.out.stepAt (a + 1) (by omega)) HA1.out HS9.out (by omega)).mono ?_
      rintro x w' ⟨rfl, h', k'⟩
      go_wp2_with fail
      go_end0
      rw [HE.out]
      exact ⟨rfl, h', ((K1.drewN g w _).set _).then k'⟩
    · skip
      by_cases h39 : c = 39
      · have b92 : ((c.toNat : Int) == 92) = false := by rw [h39]; rfl
        have b39 : ((c.toNat : Int) == 39) = true := by rw [h39]; rfl
        have b34 : ((c.toNat : Int) == 34) = false := by rw [h39]; rfl
        have b36 : ((c.toNat : Int) == 36) = false := by rw [h39]; rfl
        have b96 : ((c.toNat : Int) == 96) = false := by rw [h39]; rfl
        have b40 : ((c.toNat : Int) == 40) = false := by rw [h39]; rfl
        have b41 : ((c.toNat : Int) == 41) = false := by rw [h39]; rfl
        have HE : Hid (scan (n + 1) (.piece false) d (c :: r) = untilF 39 (s.drop (a + 1))) := Lw.hid (by rw [scan_piece]; rw [HR.out, h39]; rfl)
        clear h92 h39
        go_enter Tryd.func46, Tryd.ntmps46
        go_wp2_with fail
        go_quiet (fail)
        go_wp2_with fail
        refine (until_ok _ g s (a + 1) d (H.out.stepAt (a + 1) (by omega)) HA1.out HS9.out (by omega) 39).mono ?_
        rintro x w' ⟨rfl, h', k'⟩
        go_wp2_with fail
        go_end0
        rw [HE.out]
        exact ⟨rfl, h', ((K1.drewN g w _).set _).then k'⟩
      · skip
        by_cases h34 : c = 34
        · have b92 : ((c.toNat : Int) == 92) = false := by rw [h34]; rfl
          have b39 : ((c.toNat : Int) == 39) = false := by rw [h34]; rfl
          have b34 : ((c.toNat : Int) == 34) = true := by rw [h34]; rfl
          have b36 : ((c.toNat : Int) == 36) = false := by rw [h34]; rfl
          have b96 : ((c.toNat : Int) == 96) = false := by rw [h34]; rfl
          have b40 : ((c.toNat : Int) == 40) = false := by rw [h34]; rfl
          have b41 : ((c.toNat : Int) == 41) = false := by rw [h34]; rfl
          have HE : Hid (scan (n + 1) (.piece false) d (c :: r) = downF d (scan n .double (d + 1) (s.drop (a + 1)))) := Lw.hid (by rw [scan_piece]; rw [HR.out, h34]; rfl)
          clear h92 h39 h34
          go_enter Tryd.func46, Tryd.ntmps46
          go_wp2_with fail
          go_quiet (fail)
          go_wp2_with fail
          refine (down_double _ g s (a + 1) d (H.out.stepAt (a + 1) (by omega)) HA1.out HS9.out hd n (by have := HNN.out; simp only [need]; rw [HN.out]; omega) HD).mono ?_
          rintro x w' ⟨rfl, h', k'⟩
          go_wp2_with fail
          go_end0
          rw [HE.out]
          exact ⟨rfl, h', ((K1.drewN g w _).set _).then k'⟩
        · skip
          by_cases h36 : c = 36
          · have b92 : ((c.toNat : Int) == 92) = false := by rw [h36]; rfl
            have b39 : ((c.toNat : Int) == 39) = false := by rw [h36]; rfl
            have b34 : ((c.toNat : Int) == 34) = false := by rw [h36]; rfl
            have b36 : ((c.toNat : Int) == 36) = true := by rw [h36]; rfl
            have b96 : ((c.toNat : Int) == 96) = false := by rw [h36]; rfl
            have b40 : ((c.toNat : Int) == 40) = false := by rw [h36]; rfl
            have b41 : ((c.toNat : Int) == 41) = false := by rw [h36]; rfl
            have HE : Hid (scan (n + 1) (.piece false) d (c :: r) = dollarF n d (s.drop (a + 1))) := Lw.hid (by rw [scan_piece]; rw [HR.out, h36]; rfl)
            clear h92 h39 h34 h36
            go_enter Tryd.func46, Tryd.ntmps46
            go_wp2_with fail
            go_quiet (fail)
            go_wp2_with fail
            refine (dollar_ok _ g s (a + 1) d (H.out.stepAt (a + 1) (by omega)) HA1.out HS9.out hd n (by have := HNN.out; rw [HN.out]; omega) HB).mono ?_
            rintro x w' ⟨rfl, h', k'⟩
            go_wp2_with fail
            go_end0
            rw [HE.out]
            exact ⟨rfl, h', ((K1.drewN g w _).set _).then k'⟩
          · skip
            by_cases h96 : c = 96
            · have b92 : ((c.toNat : Int) == 92) = false := by rw [h96]; rfl
              have b39 : ((c.toNat : Int) == 39) = false := by rw [h96]; rfl
              have b34 : ((c.toNat : Int) == 34) = false := by rw [h96]; rfl
              have b36 : ((c.toNat : Int) == 36) = false := by rw [h96]; rfl
              have b96 : ((c.toNat : Int) == 96) = true := by rw [h96]; rfl
              have b40 : ((c.toNat : Int) == 40) = false := by rw [h96]; rfl
              have b41 : ((c.toNat : Int) == 41) = false := by rw [h96]; rfl
              have HE : Hid (scan (n + 1) (.piece false) d (c :: r) = .error 5) := Lw.hid (by rw [scan_piece]; rw [h96]; rfl)
              clear h92 h39 h34 h36 h96
              go_enter Tryd.func46, Tryd.ntmps46
              go_wp2_with fail
              go_quiet (fail)
              go_wp2_with fail
              refine (fail_any _ g s (a + 1) d 0 (H.out.stepAt (a + 1) (by omega)) 5 5 rfl).mono ?_
              rintro x w' ⟨rfl, h', k'⟩
              go_wp2_with fail
              go_end0
              rw [HE.out]
              exact ⟨rfl, ⟨a + 1, d, HA1.out, Nat.le_refl _, by omega, h', by decide⟩, ((K1.drewN g w _).set _).then k'⟩
            · skip
              by_cases h40 : c = 40
              · have b92 : ((c.toNat : Int) == 92) = false := by rw [h40]; rfl
                have b39 : ((c.toNat : Int) == 39) = false := by rw [h40]; rfl
                have b34 : ((c.toNat : Int) == 34) = false := by rw [h40]; rfl
                have b36 : ((c.toNat : Int) == 36) = false := by rw [h40]; rfl
                have b96 : ((c.toNat : Int) == 96) = false := by rw [h40]; rfl
                have b40 : ((c.toNat : Int) == 40) = true := by rw [h40]; rfl
                have b41 : ((c.toNat : Int) == 41) = false := by rw [h40]; rfl
                have HE : Hid (scan (n + 1) (.piece false) d (c :: r) = .error 5) := Lw.hid (by rw [scan_piece]; rw [h40]; rfl)
                clear h92 h39 h34 h36 h96 h40
                go_enter Tryd.func46, Tryd.ntmps46
                go_wp2_with fail
                go_quiet (fail)
                go_wp2_with fail
                refine (fail_any _ g s (a + 1) d 0 (H.out.stepAt (a + 1) (by omega)) 5 5 rfl).mono ?_
                rintro x w' ⟨rfl, h', k'⟩
                go_wp2_with fail
                go_end0
                rw [HE.out]
                exact ⟨rfl, ⟨a + 1, d, HA1.out, Nat.le_refl _, by omega, h', by decide⟩, ((K1.drewN g w _).set _).then k'⟩
              · skip
                by_cases h41 : c = 41
                · have b92 : ((c.toNat : Int) == 92) = false := by rw [h41]; rfl
                  have b39 : ((c.toNat : Int) == 39) = false := by rw [h41]; rfl
                  have b34 : ((c.toNat : Int) == 34) = false := by rw [h41]; rfl
                  have b36 : ((c.toNat : Int) == 36) = false := by rw [h41]; rfl
                  have b96 : ((c.toNat : Int) == 96) = false := by rw [h41]; rfl
                  have b40 : ((c.toNat : Int) == 40) = false := by rw [h41]; rfl
                  have b41 : ((c.toNat : Int) == 41) = true := by rw [h41]; rfl
                  have HE : Hid (scan (n + 1) (.piece false) d (c :: r) = .error 5) := Lw.hid (by rw [scan_piece]; rw [h41]; rfl)
                  clear h92 h39 h34 h36 h96 h40 h41
                  go_enter Tryd.func46, Tryd.ntmps46
                  go_wp2_with fail
                  go_quiet (fail)
                  go_wp2_with fail
                  refine (fail_any _ g s (a + 1) d 0 (H.out.stepAt (a + 1) (by omega)) 5 5 rfl).mono ?_
                  rintro x w' ⟨rfl, h', k'⟩
                  go_wp2_with fail
                  go_end0
                  rw [HE.out]
                  exact ⟨rfl, ⟨a + 1, d, HA1.out, Nat.le_refl _, by omega, h', by decide⟩, ((K1.drewN g w _).set _).then k'⟩
                · skip
                  have b92 : ((c.toNat : Int) == 92) = false := u8ne (k := 92) rfl h92
                  have b39 : ((c.toNat : Int) == 39) = false := u8ne (k := 39) rfl h39
                  have b34 : ((c.toNat : Int) == 34) = false := u8ne (k := 34) rfl h34
                  have b36 : ((c.toNat : Int) == 36) = false := u8ne (k := 36) rfl h36
                  have b96 : ((c.toNat : Int) == 96) = false := u8ne (k := 96) rfl h96
                  have b40 : ((c.toNat : Int) == 40) = false := u8ne (k := 40) rfl h40
                  have b41 : ((c.toNat : Int) == 41) = false := u8ne (k := 41) rfl h41
                  have HE : Hid (scan (n + 1) (.piece false) d (c :: r) = .ok r) := Lw.hid (by rw [scan_piece]; rw [if_neg h92, if_neg (fun x => h39 x.1), if_neg (fun x => h34 x.1), if_neg h36, if_neg (fun x => x.elim h96 (fun y => y.2.elim h40 h41))])
                  clear h92 h39 h34 h36 h96 h40 h41
                  go_enter Tryd.func46, Tryd.ntmps46
                  go_wp2_with fail
                  go_quiet (fail)
                  go_wp2_with fail
                  go_end0
                  rw [HE.out]
                  refine ⟨rfl, ?_, (K1.drewN g w _).set _⟩
                  show ScAt _ g s _ d 0
                  rw [HN.out, HL1.out]
                  exact (H.out.stepAt (a + 1) (by omega))
  case true =>
    by_cases h92 : c = 92
    · have b92 : ((c.toNat : Int) == 92) = true := by rw [h92]; rfl
      have b39 : ((c.toNat : Int) == 39) = false := by rw [h92]; rfl
      have b34 : ((c.toNat : Int) == 34) = false := by rw [h92]; rfl
      have b36 : ((c.toNat : Int) == 36) = false := by rw [h92]; rfl
      have b96 : ((c.toNat : Int) == 96) = false := by rw [h92]; rfl
      have b40 : ((c.toNat : Int) == 40) = false := by rw [h92]; rfl
      have b41 : ((c.toNat : Int) == 41) = false := by rw [h92]; rfl
      have HE : Hid (scan (n + 1) (.piece true) d (c :: r) = pairF (s.drop (a + 1))) := Lw.hid (by rw [scan_piece]; rw [HR.out]; exact if_pos h92)
      clear h92
      go_enter Tryd.func46, Tryd.ntmps46
      go_wp2_with fail
      go_quiet (fail)
      go_wp2_with fail
      refine (pair_ok _ g s (a + 1) d (H.out.stepAt (a + 1) (by omega)) HA1.out HS9.out (by omega)).mono ?_
      rintro x w' ⟨rfl, h', k'⟩
      go_wp2_with fail
      go_end0
      rw [HE.out]
      exact ⟨rfl, h', ((K1.drewN g w _).set _).then k'⟩
    · skip
      by_cases h39 : c = 39
      · have b92 : ((c.toNat : Int) == 92) = false := by rw [h39]; rfl
        have b39 : ((c.toNat : Int) == 39) = true := by rw [h39]; rfl
        have b34 : ((c.toNat : Int) == 34) = false := by rw [h39]; rfl
        have b36 : ((c.toNat : Int) == 36) = false := by rw [h39]; rfl
        have b96 : ((c.toNat : Int) == 96) = false := by rw [h39]; rfl
        have b40 : ((c.toNat : Int) == 40) = false := by rw [h39]; rfl
        have b41 : ((c.toNat : Int) == 41) = false := by rw [h39]; rfl
        have HE : Hid (scan (n + 1) (.piece true) d (c :: r) = .ok r) := Lw.hid (by rw [scan_piece]; rw [h39]; rfl)
        clear h92 h39
        go_enter Tryd.func46, Tryd.ntmps46
        go_wp2_with fail
        go_quiet (fail)
        go_wp2_with fail
        go_end0
        rw [HE.out]
        refine ⟨rfl, ?_, (K1.drewN g w _).set _⟩
        show ScAt _ g s _ d 0
        rw [HN.out, HL1.out]
        exact (H.out.stepAt (a + 1) (by omega))
      · skip
        by_cases h34 : c = 34
        · have b92 : ((c.toNat : Int) == 92) = false := by rw [h34]; rfl
          have b39 : ((c.toNat : Int) == 39) = false := by rw [h34]; rfl
          have b34 : ((c.toNat : Int) == 34) = true := by rw [h34]; rfl
          have b36 : ((c.toNat : Int) == 36) = false := by rw [h34]; rfl
          have b96 : ((c.toNat : Int) == 96) = false := by rw [h34]; rfl
          have b40 : ((c.toNat : Int) == 40) = false := by rw [h34]; rfl
          have b41 : ((c.toNat : Int) == 41) = false := by rw [h34]; rfl
          have HE : Hid (scan (n + 1) (.piece true) d (c :: r) = .ok r) := Lw.hid (by rw [scan_piece]; rw [h34]; rfl)
          clear h92 h39 h34
          go_enter Tryd.func46, Tryd.ntmps46
          go_wp2_with fail
          go_quiet (fail)
          go_wp2_with fail
          go_end0
          rw [HE.out]
          refine ⟨rfl, ?_, (K1.drewN g w _).set _⟩
          show ScAt _ g s _ d 0
          rw [HN.out, HL1.out]
          exact (H.out.stepAt (a + 1) (by omega))
        · skip
          by_cases h36 : c = 36
          · have b92 : ((c.toNat : Int) == 92) = false := by rw [h36]; rfl
            have b39 : ((c.toNat : Int) == 39) = false := by rw [h36]; rfl
            have b34 : ((c.toNat : Int) == 34) = false := by rw [h36]; rfl
            have b36 : ((c.toNat : Int) == 36) = true := by rw [h36]; rfl
            have b96 : ((c.toNat : Int) == 96) = false := by rw [h36]; rfl
            have b40 : ((c.toNat : Int) == 40) = false := by rw [h36]; rfl
            have b41 : ((c.toNat : Int) == 41) = false := by rw [h36]; rfl
            have HE : Hid (scan (n + 1) (.piece true) d (c :: r) = dollarF n d (s.drop (a + 1))) := Lw.hid (by rw [scan_piece]; rw [HR.out, h36]; rfl)
            clear h92 h39 h34 h36
            go_enter Tryd.func46, Tryd.ntmps46
            go_wp2_with fail
            go_quiet (fail)
            go_wp2_with fail
            refine (dollar_ok _ g s (a + 1) d (H.out.stepAt (a + 1) (by omega)) HA1.out HS9.out hd n (by have := HNN.out; rw [HN.out]; omega) HB).mono ?_
            rintro x w' ⟨rfl, h', k'⟩
            go_wp2_with fail
            go_end0
            rw [HE.out]
            exact ⟨rfl, h', ((K1.drewN g w _).set _).then k'⟩
          · skip
            by_cases h96 : c = 96
            · have b92 : ((c.toNat : Int) == 92) = false := by rw [h96]; rfl
              have b39 : ((c.toNat : Int) == 39) = false := by rw [h96]; rfl
              have b34 : ((c.toNat : Int) == 34) = false := by rw [h96]; rfl
              have b36 : ((c.toNat : Int) == 36) = false := by rw [h96]; rfl
              have b96 : ((c.toNat : Int) == 96) = true := by rw [h96]; rfl
              have b40 : ((c.toNat : Int) == 40) = false := by rw [h96]; rfl
              have b41 : ((c.toNat : Int) == 41) = false := by rw [h96]; rfl
              have HE : Hid (scan (n + 1) (.piece true) d (c :: r) = .error 5) := Lw.hid (by rw [scan_piece]; rw [h96]; rfl)
              clear h92 h39 h34 h36 h96
              go_enter Tryd.func46, Tryd.ntmps46
              go_wp2_with fail
              go_quiet (fail)
              go_wp2_with fail
              refine (fail_any _ g s (a + 1) d 0 (H.out.stepAt (a + 1) (by omega)) 5 5 rfl).mono ?_
              rintro x w' ⟨rfl, h', k'⟩
              go_wp2_with fail
              go_end0
              rw [HE.out]
              exact ⟨rfl, ⟨a + 1, d, HA1.out, Nat.le_refl _, by omega, h', by decide⟩, ((K1.drewN g w _).set _).then k'⟩
            · skip
              by_cases h40 : c = 40
              · have b92 : ((c.toNat : Int) == 92) = false := by rw [h40]; rfl
                have b39 : ((c.toNat : Int) == 39) = false := by rw [h40]; rfl
                have b34 : ((c.toNat : Int) == 34) = false := by rw [h40]; rfl
                have b36 : ((c.toNat : Int) == 36) = false := by rw [h40]; rfl
                have b96 : ((c.toNat : Int) == 96) = false := by rw [h40]; rfl
                have b40 : ((c.toNat : Int) == 40) = true := by rw [h40]; rfl
                have b41 : ((c.toNat : Int) == 41) = false := by rw [h40]; rfl
                have HE : Hid (scan (n + 1) (.piece true) d (c :: r) = .ok r) := Lw.hid (by rw [scan_piece]; rw [h40]; rfl)
                clear h92 h39 h34 h36 h96 h40
                go_enter Tryd.func46, Tryd.ntmps46
                go_wp2_with fail
                go_quiet (fail)
                go_wp2_with fail
                go_end0
                rw [HE.out]
                refine ⟨rfl, ?_, (K1.drewN g w _).set _⟩
                show ScAt _ g s _ d 0
                rw [HN.out, HL1.out]
                exact (H.out.stepAt (a + 1) (by omega))
              · skip
                by_cases h41 : c = 41
                · have b92 : ((c.toNat : Int) == 92) = false := by rw [h41]; rfl
                  have b39 : ((c.toNat : Int) == 39) = false := by rw [h41]; rfl
                  have b34 : ((c.toNat : Int) == 34) = false := by rw [h41]; rfl
                  have b36 : ((c.toNat : Int) == 36) = false := by rw [h41]; rfl
                  have b96 : ((c.toNat : Int) == 96) = false := by rw [h41]; rfl
                  have b40 : ((c.toNat : Int) == 40) = false := by rw [h41]; rfl
                  have b41 : ((c.toNat : Int) == 41) = true := by rw [h41]; rfl
                  have HE : Hid (scan (n + 1) (.piece true) d (c :: r) = .ok r) := Lw.hid (by rw [scan_piece]; rw [h41]; rfl)
                  clear h92 h39 h34 h36 h96 h40 h41
                  go_enter Tryd.func46, Tryd.ntmps46
                  go_wp2_with fail
                  go_quiet (fail)
                  go_wp2_with fail
                  go_end0
                  rw [HE.out]
                  refine ⟨rfl, ?_, (K1.drewN g w _).set _⟩
                  show ScAt _ g s _ d 0
                  rw [HN.out, HL1.out]
                  exact (H.out.stepAt (a + 1) (by omega))
                · skip
                  have b92 : ((c.toNat : Int) == 92) = false := u8ne (k := 92) rfl h92
                  have b39 : ((c.toNat : Int) == 39) = false := u8ne (k := 39) rfl h39
                  have b34 : ((c.toNat : Int) == 34) = false := u8ne (k := 34) rfl h34
                  have b36 : ((c.toNat : Int) == 36) = false := u8ne (k := 36) rfl h36
                  have b96 : ((c.toNat : Int) == 96) = false := u8ne (k := 96) rfl h96
                  have b40 : ((c.toNat : Int) == 40) = false := u8ne (k := 40) rfl h40
                  have b41 : ((c.toNat : Int) == 41) = false := u8ne (k := 41) rfl h41
                  have HE : Hid (scan (n + 1) (.piece true) d (c :: r) = .ok r) := Lw.hid (by rw [scan_piece]; rw [if_neg h92, if_neg (fun x => h39 x.1), if_neg (fun x => h34 x.1), if_neg h36, if_neg (fun x => x.elim h96 (fun y => y.2.elim h40 h41))])
                  clear h92 h39 h34 h36 h96 h40 h41
                  go_enter Tryd.func46, Tryd.ntmps46
                  go_wp2_with fail
                  go_quiet (fail)
                  go_wp2_with fail
                  go_end0
                  rw [HE.out]
                  refine ⟨rfl, ?_, (K1.drewN g w _).set _⟩
                  show ScAt _ g s _ d 0
                  rw [HN.out, HL1.out]
                  exact (H.out.stepAt (a + 1) (by omega))
/-- Where the loop of double (brace) stands. -/
def LpRel (w0 : World) (g : Nat) (s : List UInt8) (d N : Nat) (md : Md) (R0 : Rs) (gk : Nat) (wx : World) (n : Nat) : Prop :=
  (∃ (a m : Nat) (r : List UInt8), gk = N - a + 1 ∧ a + r.length = N ∧ s.drop a = r ∧ ScAt wx g s a d 0 ∧ m ≤ n ∧ need md r.length ≤ m ∧ scan m md d r = R0 ∧ K1 g w0 wx) ∨
  (∃ e, gk = 0 ∧ ScBad wx g s d e ∧ R0 = .error e ∧ K1 g w0 wx)
theorem ok_len {s r r' : List UInt8} {a : Nat} (h : s.drop a = r) (ha : a + r.length = s.length) (ht : Tl r r') : s.drop (s.length - r'.length) = r' ∧ s.length - r'.length + r'.length = s.length ∧ a + (r.length - r'.length) = s.length - r'.length := by
  obtain ⟨k, hk, rfl⟩ := ht
  subst h
  have h1 : ((s.drop a).drop k).length = s.length - a - k := by rw [List.length_drop, List.length_drop]
  rw [List.length_drop] at ha hk
  rw [h1, List.drop_drop, List.length_drop]
  refine ⟨?_, by omega, by omega⟩
  congr 1
  omega
theorem scan_double {c : UInt8} {r : List UInt8} {m d : Nat} (h : ¬ c = 34) : scan (m + 1) .double d (c :: r) = match scan m (.piece true) d (c :: r) with
    | .error e => .error e
    | .ok r' => scan m .double d r' := by
  conv => lhs; unfold scan
  dsimp only
  rw [if_neg h]
  cases scan m (.piece true) d (c :: r) <;> rfl
theorem scan_brace1 {c : UInt8} {r : List UInt8} {m d : Nat} (h1 : ¬ c = 125) (h2 : ¬ c = 10) (h3 : braceB c = true) : scan (m + 1) .brace d (c :: r) = scan m .brace d r := by
  conv => lhs; unfold scan
  dsimp only
  rw [if_neg h1, if_neg h2, if_pos h3]
theorem scan_brace2 {c : UInt8} {r : List UInt8} {m d : Nat} (h1 : ¬ c = 125) (h2 : ¬ c = 10) (h3 : braceB c = false) : scan (m + 1) .brace d (c :: r) = match scan m (.piece false) d (c :: r) with
    | .error e => .error e
    | .ok r' => scan m .brace d r' := by
  conv => lhs; unfold scan
  dsimp only
  rw [if_neg h1, if_neg h2, if_neg (by rw [h3]; decide)]
  cases scan m (.piece false) d (c :: r) <;> rfl
def braceL : List UInt8 := [32, 9, 10, 59, 38, 124, 60, 62, 40, 41, 35]
theorem braceL_has (c : UInt8) : braceL.contains c = braceB c := by
  rw [Bool.eq_iff_iff]
  simp [braceL, braceB, endB, or_assoc]
theorem quiet_add2 {P : Program} {f : FuncId} {args : Array Value} {w : World} {a n : Nat} {v : Value}
    (h : Calls P f args (w.drewN (a + n)) fun e w' => e = .returned v ∧ ∃ m, w' = (w.drewN (a + n)).drewN m) :
    Calls P f args (w.drewN (a + n)) fun e w'' => e = .returned v ∧ ∃ m, w'' = w.drewN (a + m) :=
  h.mono fun _ _ ⟨he, m, hm⟩ => ⟨he, n + m, by rw [hm, World.drewN_drewN, Nat.add_assoc]⟩
set_option maxHeartbeats 16000000 in
theorem double_ok (n : Nat) (IH : Hid (∀ k, k < n → CPiece k)) : CDouble n := by
  intro w g s a d h ha hs9 hd hn
  have hs := BA_size s
  have H := Lw.hid h
  have HL : Hid (a + (s.drop a).length = s.length) := Lw.hid (by rw [List.length_drop]; omega)
  have HND : Hid (need .double (s.drop a).length ≤ n) := Lw.hid (by rw [List.length_drop]; exact hn)
  obtain ⟨N, hN⟩ : ∃ N, s.length = N := ⟨_, rfl⟩
  have HN := Lw.hid hN
  obtain ⟨R0, hR0⟩ : ∃ R0, scan n .double d (s.drop a) = R0 := ⟨_, rfl⟩
  have HR0 := Lw.hid hR0
  rw [hR0]
  rw [hN] at hs ha hs9 HL
  have HS9 : Hid (s.length ≤ 1000000) := Lw.hid (by rw [HN.out]; exact hs9)
  clear h hN hR0 hn
  go_enter Tryd.func77, Tryd.ntmps77
  go_wp2_with fail
  go_loopg [] (N - a + 1) (fun gk wx => LpRel w g s d N .double R0 gk wx n)
  case atStart => exact .inl ⟨a, n, s.drop a, rfl, HL.out, rfl, H.out, Nat.le_refl _, HND.out, HR0.out, K1.refl g w⟩
  case round =>
    rcases hrel with ⟨a, m, r, rfl, hr, hdr, hsc, hmn, hnd, hsn, hk⟩ | ⟨e, rfl, hbad, rfl, hk⟩
    · obtain ⟨⟨c0, c1, c2, c3⟩, f1, f2, f3⟩ := hsc.cells
      have HSC := Lw.hid hsc; have HK := Lw.hid hk; have HDR := Lw.hid hdr; have HSN := Lw.hid hsn; have HRL := Lw.hid hr; have HND2 := Lw.hid hnd
      have haN : a ≤ N := by omega
      clear hsc hk hdr hsn hr hnd
      obtain ⟨m, rfl⟩ : ∃ m', m = m' + 1 := ⟨m - 1, by have := HND2.out; simp only [need] at this; omega⟩
      cases r with
      | nil =>
        have hb : (decide ((0 : Nat) = 0) && decide (a < s.length)) = false := by rw [HN.out]; have := HRL.out; simp at this; simp; omega
        have HB9 := Lw.hid hb
        have HRE : Hid (R0 = .error 5) := Lw.hid (by rw [← HSN.out]; rfl)
        have HA9 : Hid (a ≤ s.length) := Lw.hid (by rw [HN.out]; exact haN)
        clear hb
        go_wp2_with fail
        go_quiet ((go_at_call 43; exact Calls.quiet_of (more_any _ g s a d 0 (HSC.out.drewN _) false HB9.out)))
        go_wp2_with fail
        refine (until_ok _ g s a d (HSC.out.drewN _) HA9.out HS9.out (by omega) 34).mono ?_
        rintro x w' ⟨rfl, h', k'⟩
        go_wp2_with fail
        go_end0
        rw [HDR.out] at h'
        rw [HRE.out]
        exact ⟨rfl, h', (HK.out.then (K1.drewN g _ _)).then k'⟩
      | cons c r =>
        obtain ⟨hc0, hd1, hl1⟩ := drop_cons HDR.out
        have g0 := BA_get hc0
        have HD1 := Lw.hid hd1
        have hlt : a + 1 ≤ N := by rw [HN.out] at hl1; omega
        have HL1 : Hid (a + 1 + r.length = N) := Lw.hid (by rw [HN.out] at hl1; omega)
        have hb : (decide ((0 : Nat) = 0) && decide (a < s.length)) = true := by rw [HN.out]; simp; omega
        have HB9 := Lw.hid hb
        have HA9 : Hid (a ≤ s.length) := Lw.hid (by rw [HN.out]; exact haN)
        have HA8 : Hid (a < s.length) := Lw.hid (by rw [HN.out]; exact hlt)
        clear hb hc0 hd1 hl1
        by_cases h34 : c = 34
        · have b34 : ((c.toNat : Int) != 34) = false := by rw [h34]; rfl
          have HRE : Hid (R0 = untilF 34 (c :: r)) := Lw.hid (by rw [← HSN.out, h34]; rfl)
          clear h34
          go_wp2_with fail
          go_quiet ((go_at_call 43; exact Calls.quiet_of (more_any _ g s a d 0 (HSC.out.drewN _) true HB9.out)))
          go_wp2_with fail
          refine (until_ok _ g s a d (HSC.out.drewN _) HA9.out HS9.out (by omega) 34).mono ?_
          rintro x w' ⟨rfl, h', k'⟩
          go_wp2_with fail
          go_end0
          rw [HDR.out] at h'
          rw [HRE.out]
          exact ⟨rfl, h', (HK.out.then (K1.drewN g _ _)).then k'⟩
        · have b34 : ((c.toNat : Int) != 34) = true := by have := u8ne (k := 34) rfl h34; simpa using this
          go_wp2_with fail
          go_quiet ((go_at_call 43; exact Calls.quiet_of (more_any _ g s a d 0 (HSC.out.drewN _) true HB9.out)))
          go_wp2_with fail
          refine (IH.out m hmn true _ g s a d (HSC.out.drewN _) HA8.out HS9.out hd (by have h1 := HND2.out; have h2 := HL1.out; simp only [need, List.length_cons] at h1 ⊢; rw [HN.out]; omega)).mono ?_
          rintro x w2 ⟨rfl, h', k'⟩
          have K2 := Lw.hid ((HK.out.then (K1.drewN g _ _)).then k')
          rw [HDR.out] at h'
          cases hres : scan m (.piece true) d (c :: r) with
          | error e =>
            rw [hres] at h'
            have HBD : Hid (ScBad w2 g s d e) := Lw.hid h'
            have HRE : Hid (R0 = .error e) := Lw.hid (by rw [← HSN.out, scan_double h34, hres])
            clear hres h' k'
            go_wp2_with fail
            go_roundg 0
            case measure => omega
            case rel => exact .inr ⟨e, rfl, HBD.out, HRE.out, K2.out⟩
          | ok r' =>
            rw [hres] at h'
            have HS2 : Hid (ScAt w2 g s (s.length - r'.length) d 0) := Lw.hid h'
            have hlen := (piece_less hres).len
            have hol := ok_len HDR.out (by rw [HRL.out, HN.out]) (scan_tl m _ _ hres)
            rw [HN.out] at hol HS2
            have HOL := Lw.hid hol
            have HSN2 : Hid (scan m .double d r' = R0) := Lw.hid (by rw [← HSN.out, scan_double h34, hres])
            have HND3 : Hid (need .double r'.length ≤ m) := Lw.hid (by have h1 := HND2.out; simp only [need, List.length_cons] at h1 ⊢; omega)
            have HLEN := Lw.hid hlen
            clear hres h' k' hol hlen
            go_wp2_with fail
            go_roundg (N - (N - r'.length) + 1)
            case measure => have h1 := HLEN.out; have h2 := HL1.out; omega
            case rel => exact .inl ⟨N - r'.length, m, r', rfl, HOL.out.2.1, HOL.out.1, HS2.out, by omega, HND3.out, HSN2.out, K2.out⟩
    · obtain ⟨a', d', ha', hd1, hd2, hsc, he⟩ := hbad
      have HSC := Lw.hid hsc; have HK := Lw.hid hk
      obtain ⟨⟨c0, c1, c2, c3⟩, f1, f2, f3⟩ := hsc.cells
      have hb : (decide (e = 0) && decide (a' < s.length)) = false := by simp [he]
      have HB9 := Lw.hid hb
      have HBAD : Hid (∀ wz, K1 g wr wz → ScAt wz g s a' d' e → ScBad wz g s d e) := Lw.hid (fun wz _ hz => ⟨a', d', ha', hd1, hd2, hz, he⟩)
      have HE0 : Hid (failE e 5 = e) := Lw.hid (if_neg he)
      clear hb hsc hk he ha'
      go_wp2_with fail
      go_quiet ((go_at_call 43; exact Calls.quiet_of (more_any _ g s a' d' e (HSC.out.drewN _) false HB9.out)))
      go_wp2_with fail
      refine (until_bad _ g s d e (HBAD.out _ (K1.drewN g _ _) (HSC.out.drewN _)) HS9.out 34).mono ?_
      rintro x w' ⟨rfl, h', k'⟩
      go_wp2_with fail
      go_end0
      exact ⟨rfl, h', (HK.out.then (K1.drewN g _ _)).then k'⟩
set_option maxHeartbeats 16000000 in
theorem brace_ok (n : Nat) (IH : Hid (∀ k, k < n → CPiece k)) : CBrace n := by
  intro w g s a d h ha hs9 hd hn
  have hs := BA_size s
  have H := Lw.hid h
  have HL : Hid (a + (s.drop a).length = s.length) := Lw.hid (by rw [List.length_drop]; omega)
  have HND : Hid (need .brace (s.drop a).length ≤ n) := Lw.hid (by rw [List.length_drop]; exact hn)
  obtain ⟨N, hN⟩ : ∃ N, s.length = N := ⟨_, rfl⟩
  have HN := Lw.hid hN
  obtain ⟨R0, hR0⟩ : ∃ R0, scan n .brace d (s.drop a) = R0 := ⟨_, rfl⟩
  have HR0 := Lw.hid hR0
  rw [hR0]
  rw [hN] at hs ha hs9 HL
  have HS9 : Hid (s.length ≤ 1000000) := Lw.hid (by rw [HN.out]; exact hs9)
  clear h hN hR0 hn
  have lend : (⟨#[32, 9, 10, 59, 38, 124, 60, 62, 40, 41, 35]⟩ : ByteArray) = BA braceL := rfl
  go_enter Tryd.func104, Tryd.ntmps104
  go_wp2_with fail
  go_loopg [] (N - a + 1) (fun gk wx => LpRel w g s d N .brace R0 gk wx n)
  case atStart => exact .inl ⟨a, n, s.drop a, rfl, HL.out, rfl, H.out, Nat.le_refl _, HND.out, HR0.out, K1.refl g w⟩
  case round =>
    rcases hrel with ⟨a, m, r, rfl, hr, hdr, hsc, hmn, hnd, hsn, hk⟩ | ⟨e, rfl, hbad, rfl, hk⟩
    · obtain ⟨⟨c0, c1, c2, c3⟩, f1, f2, f3⟩ := hsc.cells
      have HSC := Lw.hid hsc; have HK := Lw.hid hk; have HDR := Lw.hid hdr; have HSN := Lw.hid hsn; have HRL := Lw.hid hr; have HND2 := Lw.hid hnd
      have haN : a ≤ N := by omega
      clear hsc hk hdr hsn hr hnd
      obtain ⟨m, rfl⟩ : ∃ m', m = m' + 1 := ⟨m - 1, by have := HND2.out; simp only [need] at this; omega⟩
      cases r with
      | nil =>
        have hb : (decide ((0 : Nat) = 0) && decide (a < s.length)) = false := by rw [HN.out]; have := HRL.out; simp at this; simp; omega
        have HB9 := Lw.hid hb
        have HRE : Hid (R0 = .error 5) := Lw.hid (by rw [← HSN.out]; rfl)
        have HA9 : Hid (a ≤ s.length) := Lw.hid (by rw [HN.out]; exact haN)
        clear hb
        go_wp2_with fail
        go_quiet ((go_at_call 43; exact Calls.quiet_of (more_any _ g s a d 0 (HSC.out.drewN _) false HB9.out)))
        go_wp2_with fail
        go_quiet ((go_at_call 43; exact quiet_add2 (more_any _ g s a d 0 (HSC.out.drewN _) false HB9.out)))
        go_wp2_with fail
        refine (fail_any _ g s a d 0 (HSC.out.drewN _) 5 5 rfl).mono ?_
        rintro x w' ⟨rfl, h', k'⟩
        go_wp2_with fail
        refine bodyPost_ret (results_none rfl _ _ _) rfl ?_
        rw [HRE.out]
        exact ⟨rfl, ⟨a, d, HA9.out, Nat.le_refl _, by omega, h', by decide⟩, (HK.out.then (K1.drewN g _ _)).then k'⟩
      | cons c r =>
        obtain ⟨hc0, hd1, hl1⟩ := drop_cons HDR.out
        have g0 := BA_get hc0
        have HD1 := Lw.hid hd1
        have hlt : a + 1 ≤ N := by rw [HN.out] at hl1; omega
        have HL1 : Hid (a + 1 + r.length = N) := Lw.hid (by rw [HN.out] at hl1; omega)
        have hb : (decide ((0 : Nat) = 0) && decide (a < s.length)) = true := by rw [HN.out]; simp; omega
        have HB9 := Lw.hid hb
        have HA9 : Hid (a ≤ s.length) := Lw.hid (by rw [HN.out]; exact haN)
        have HA8 : Hid (a < s.length) := Lw.hid (by rw [HN.out]; exact hlt)
        clear hb hc0 hd1 hl1
        by_cases h125 : c = 125
        · have b1 : ((c.toNat : Int) != 125) = false := by rw [h125]; rfl
          have HRE : Hid (R0 = .ok r) := Lw.hid (by rw [← HSN.out, h125]; rfl)
          have HE : Hid (N - r.length = a + 1) := Lw.hid (by have := HL1.out; omega)
          clear h125
          go_wp2_with fail
          go_quiet ((go_at_call 43; exact Calls.quiet_of (more_any _ g s a d 0 (HSC.out.drewN _) true HB9.out)))
          go_wp2_with fail
          go_quiet ((go_at_call 43; exact quiet_add2 (more_any _ g s a d 0 (HSC.out.drewN _) true HB9.out)))
          go_wp2_with fail
          go_end0
          rw [HRE.out]
          refine ⟨rfl, ?_, (HK.out.then (K1.drewN g _ _)).set _⟩
          show ScAt _ g s _ d 0
          rw [HN.out, HE.out]
          exact HSC.out.stepAt (a + 1) (by omega)
        · have b1 : ((c.toNat : Int) != 125) = true := by have := u8ne (k := 125) rfl h125; simpa using this
          by_cases h10 : c = 10
          · have b2 : ((c.toNat : Int) != 10) = false := by rw [h10]; rfl
            have HRE : Hid (R0 = .error 5) := Lw.hid (by rw [← HSN.out, h10]; rfl)
            clear h125 h10
            go_wp2_with fail
            go_quiet ((go_at_call 43; exact Calls.quiet_of (more_any _ g s a d 0 (HSC.out.drewN _) true HB9.out)))
            go_wp2_with fail
            go_quiet ((go_at_call 43; exact quiet_add2 (more_any _ g s a d 0 (HSC.out.drewN _) true HB9.out)))
            go_wp2_with fail
            refine (fail_any _ g s a d 0 (HSC.out.drewN _) 5 5 rfl).mono ?_
            rintro x w' ⟨rfl, h', k'⟩
            go_wp2_with fail
            refine bodyPost_ret (results_none rfl _ _ _) rfl ?_
            rw [HRE.out]
            exact ⟨rfl, ⟨a, d, HA9.out, Nat.le_refl _, by omega, h', by decide⟩, (HK.out.then (K1.drewN g _ _)).then k'⟩
          · have b2 : ((c.toNat : Int) != 10) = true := by have := u8ne (k := 10) rfl h10; simpa using this
            go_wp2_with fail
            go_quiet ((go_at_call 43; exact Calls.quiet_of (more_any _ g s a d 0 (HSC.out.drewN _) true HB9.out)))
            go_wp2_with fail
            go_quiet (fail)
            go_wp2_with fail
            cases hbr : braceB c with
            | true =>
              have HSN2 : Hid (scan m .brace d r = R0) := Lw.hid (by rw [← HSN.out, scan_brace1 h125 h10 hbr])
              have HND3 : Hid (need .brace r.length ≤ m) := Lw.hid (by have h1 := HND2.out; simp only [need, List.length_cons] at h1 ⊢; omega)
              have HI := Lw.hid ((idx_in braceL c).1 (by rw [braceL_has]; exact hbr))
              obtain ⟨i, hi⟩ := HI.out
              have HI := Lw.hid hi
              clear hbr h125 h10 hi
              refine (idx_any braceL c (i : Int) HI.out _).mono ?_
              rintro x _ ⟨rfl, rfl⟩
              go_wp2_with fail
              go_roundg (N - (a + 1) + 1)
              case measure => omega
              case rel => exact .inl ⟨a + 1, m, r, rfl, HL1.out, HD1.out, HSC.out.stepAt (a + 1) (by omega), by omega, HND3.out, HSN2.out, (HK.out.then (K1.drewN g _ _)).set _⟩
            | false =>
              have HI := Lw.hid ((idx_in braceL c).2 (by rw [braceL_has]; exact hbr))
              refine (idx_any braceL c (-1) HI.out _).mono ?_
              rintro x _ ⟨rfl, rfl⟩
              go_wp2_with fail
              refine (IH.out m hmn false _ g s a d (HSC.out.drewN _) HA8.out HS9.out hd (by have h1 := HND2.out; have h2 := HL1.out; simp only [need, List.length_cons] at h1 ⊢; rw [HN.out]; omega)).mono ?_
              rintro x w2 ⟨rfl, h', k'⟩
              have K2 := Lw.hid ((HK.out.then (K1.drewN g _ _)).then k')
              rw [HDR.out] at h'
              cases hres : scan m (.piece false) d (c :: r) with
              | error e =>
                rw [hres] at h'
                have HBD : Hid (ScBad w2 g s d e) := Lw.hid h'
                have HRE : Hid (R0 = .error e) := Lw.hid (by rw [← HSN.out, scan_brace2 h125 h10 hbr, hres])
                clear hres h' k'
                go_wp2_with fail
                go_roundg 0
                case measure => omega
                case rel => exact .inr ⟨e, rfl, HBD.out, HRE.out, K2.out⟩
              | ok r' =>
                rw [hres] at h'
                have HS2 : Hid (ScAt w2 g s (s.length - r'.length) d 0) := Lw.hid h'
                have hlen := (piece_less hres).len
                have hol := ok_len HDR.out (by rw [HRL.out, HN.out]) (scan_tl m _ _ hres)
                rw [HN.out] at hol HS2
                have HOL := Lw.hid hol
                have HSN2 : Hid (scan m .brace d r' = R0) := Lw.hid (by rw [← HSN.out, scan_brace2 h125 h10 hbr, hres])
                have HND3 : Hid (need .brace r'.length ≤ m) := Lw.hid (by have h1 := HND2.out; simp only [need, List.length_cons] at h1 ⊢; omega)
                have HLEN := Lw.hid hlen
                clear hres h' k' hol hlen
                go_wp2_with fail
                go_roundg (N - (N - r'.length) + 1)
                case measure => have h1 := HLEN.out; have h2 := HL1.out; omega
                case rel => exact .inl ⟨N - r'.length, m, r', rfl, HOL.out.2.1, HOL.out.1, HS2.out, by omega, HND3.out, HSN2.out, K2.out⟩
    · obtain ⟨a', d', ha', hd1, hd2, hsc, he⟩ := hbad
      have HSC := Lw.hid hsc; have HK := Lw.hid hk
      obtain ⟨⟨c0, c1, c2, c3⟩, f1, f2, f3⟩ := hsc.cells
      have hb : (decide (e = 0) && decide (a' < s.length)) = false := by simp [he]
      have HB9 := Lw.hid hb
      have HBAD : Hid (∀ wz, K1 g wr wz → ScAt wz g s a' d' e → ScBad wz g s d e) := Lw.hid (fun wz _ hz => ⟨a', d', ha', hd1, hd2, hz, he⟩)
      have HE0 : Hid (failE e 5 = e) := Lw.hid (if_neg he)
      clear hb hsc hk he ha'
      go_wp2_with fail
      go_quiet ((go_at_call 43; exact Calls.quiet_of (more_any _ g s a' d' e (HSC.out.drewN _) false HB9.out)))
      go_wp2_with fail
      go_quiet ((go_at_call 43; exact quiet_add2 (more_any _ g s a' d' e (HSC.out.drewN _) false HB9.out)))
      go_wp2_with fail
      refine (fail_any _ g s a' d' e (HSC.out.drewN _) 5 5 rfl).mono ?_
      rintro x w' ⟨rfl, h', k'⟩
      go_wp2_with fail
      refine bodyPost_ret (results_none rfl _ _ _) rfl ?_
      rw [HE0.out] at h'
      exact ⟨rfl, HBAD.out _ ((K1.drewN g _ _).then k') h', (HK.out.then (K1.drewN g _ _)).then k'⟩
theorem scan_all : ∀ n, CPiece n ∧ CDouble n ∧ CBrace n := by
  intro n
  induction n using Nat.strongRecOn with
  | ind n ih =>
    have IH := Lw.hid (fun k (hk : k < n) => (ih k hk).1)
    refine ⟨?_, double_ok n IH, brace_ok n IH⟩
    cases n with
    | zero => intro q w g s a d h ha hs9 hd hn; simp [need] at hn
    | succ n => exact piece_ok n (Lw.hid (ih n (by omega)).2.1) (Lw.hid (ih n (by omega)).2.2)
/-- A piece: what is left behind it. -/
def pieceR (q : Bool) (d : Nat) (r : List UInt8) : Rs := scan (need (.piece q) r.length) (.piece q) d r
theorem piece_any (q : Bool) (w : World) (g : Nat) (s : List UInt8) (a d : Nat) (h : ScAt w g s a d 0) (ha : a < s.length) (hs9 : s.length ≤ 1000000) (hd : d ≤ 16) :
    Calls Tryd.prog 46 #[.pointer (some ⟨g, 0, none⟩), .bool q] w fun x w' => x = .returned (.tuple #[]) ∧ ScRes w' g s d (pieceR q d (s.drop a)) ∧ K1 g w w' := by
  unfold pieceR
  rw [List.length_drop]
  exact (scan_all _).1 q w g s a d h ha hs9 hd (Nat.le_refl _)
end Go.Proofs.YtifcgeanippepaaDoor
