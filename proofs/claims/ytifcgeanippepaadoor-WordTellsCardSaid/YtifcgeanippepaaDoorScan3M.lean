/- package lex: arithmetic. -/
import Derived.Test.YtifcgeanippepaaDoorM03
namespace Go.Proofs.YtifcgeanippepaaDoor
open Go Go.RowKit Go.Lw
set_option maxRecDepth 100000
set_option linter.unusedVariables false
set_option linter.unusedSimpArgs false
attribute [local go_sem] BA_toList
theorem hasPrefix_eq (l p : List UInt8) : Lib.hasPrefix l p = (l.take p.length == p) := by
  unfold Lib.hasPrefix
  induction p generalizing l with
  | nil => simp
  | cons b p ih =>
    cases l with
    | nil => rfl
    | cons c l =>
      rw [List.isPrefixOf_cons_cons, ih l, List.length_cons, List.take_succ_cons]
      show _ = (c == b && _)
      congr 1
      rw [Bool.eq_iff_iff, beq_iff_eq, beq_iff_eq]
      exact eq_comm
theorem hasp2 (l p : List UInt8) (b : Bool) (hb : (l.take p.length == p) = b) (w : World) : Calls Tryd.prog 55 #[.string (BA l), .string (BA p)] w fun e w' => e = .returned (.bool b) ∧ w' = w := by
  refine (Tryd.strings_HasPrefix _ _ w).mono ?_
  rintro e w' ⟨rfl, rfl⟩
  rw [BA_list, BA_list, hasPrefix_eq, hb]
  exact ⟨rfl, rfl⟩
theorem drop_cons {s : List UInt8} {a : Nat} {c : UInt8} {r : List UInt8} (h : s.drop a = c :: r) : s[a]? = some c ∧ s.drop (a + 1) = r ∧ a + r.length + 1 = s.length := by
  have hk : a < s.length := by
    rcases Nat.lt_or_ge a s.length with h' | h'
    · exact h'
    · rw [List.drop_eq_nil_of_le h'] at h; cases h
  have h2 := List.drop_eq_getElem_cons hk
  rw [h] at h2
  obtain ⟨e1, e2⟩ := List.cons.inj h2
  refine ⟨by rw [List.getElem?_eq_getElem hk, e1], e2.symm, ?_⟩
  rw [e2, List.length_drop]; omega
def oddL : List UInt8 := [39, 34, 92, 96, 36, 10]
theorem oddL_has (c : UInt8) : oddL.contains c = oddA c := by
  rw [Bool.eq_iff_iff]
  simp [oddL, oddA, or_assoc]
theorem ar_end {c : UInt8} {r : List UInt8} (h : (c :: r).take 2 = [41, 41]) : arithF 0 (c :: r) = .ok (r.drop 1) := by
  unfold arithF; rw [if_pos ⟨rfl, h⟩]
theorem ar_up {o : Nat} {c : UInt8} {r : List UInt8} (h : ¬ (o = 0 ∧ (c :: r).take 2 = [41, 41])) (h1 : c = 40) : arithF o (c :: r) = arithF (o + 1) r := by
  conv => lhs; unfold arithF
  rw [if_neg h, if_pos h1]
theorem ar_down {o : Nat} {c : UInt8} {r : List UInt8} (h : ¬ (o = 0 ∧ (c :: r).take 2 = [41, 41])) (h1 : ¬ c = 40) (h2 : c = 41) (h3 : 0 < o) : arithF o (c :: r) = arithF (o - 1) r := by
  conv => lhs; unfold arithF
  rw [if_neg h, if_neg h1, if_pos ⟨h2, h3⟩]
theorem ar_bad {o : Nat} {c : UInt8} {r : List UInt8} (h : ¬ (o = 0 ∧ (c :: r).take 2 = [41, 41])) (h1 : ¬ c = 40) (h2 : ¬ (c = 41 ∧ 0 < o)) (h3 : c = 41 ∨ oddA c = true) : arithF o (c :: r) = .error 5 := by
  conv => lhs; unfold arithF
  rw [if_neg h, if_neg h1, if_neg h2, if_pos h3]
theorem ar_go {o : Nat} {c : UInt8} {r : List UInt8} (h : ¬ (o = 0 ∧ (c :: r).take 2 = [41, 41])) (h1 : ¬ c = 40) (h2 : ¬ c = 41) (h3 : ¬ oddA c = true) : arithF o (c :: r) = arithF o r := by
  conv => lhs; unfold arithF
  rw [if_neg h, if_neg h1, if_neg (fun x => h2 x.1), if_neg (fun x => x.elim h2 h3)]
/-- Where the loop stands. -/
def ArRel (w0 : World) (g : Nat) (s : List UInt8) (d N : Nat) (R0 : Rs) (gk : Nat) (v : Value) (wx : World) : Prop :=
  (∃ (a o : Nat) (r : List UInt8), gk = N - a + 1 ∧ a + r.length = N ∧ s.drop a = r ∧ v = .int .i64 (o : Int) ∧ o ≤ a ∧ ScAt wx g s a d 0 ∧ arithF o r = R0 ∧ K1 g w0 wx) ∨
  (∃ a o : Nat, gk = 0 ∧ a ≤ N ∧ v = .int .i64 (o : Int) ∧ o ≤ N + 1 ∧ ScAt wx g s a d 5 ∧ R0 = .error 5 ∧ K1 g w0 wx)
set_option maxHeartbeats 8000000 in
theorem arith_ok (w : World) (g : Nat) (s : List UInt8) (a d : Nat) (h : ScAt w g s a d 0) (ha : a ≤ s.length) (hs9 : s.length ≤ 1000000) (hd : d ≤ 17) :
    Calls Tryd.prog 103 #[.pointer (some ⟨g, 0, none⟩)] w fun x w' => x = .returned (.tuple #[]) ∧ ScRes w' g s d (arithF 0 (s.drop a)) ∧ K1 g w w' := by
  have hs := BA_size s
  have H := Lw.hid h
  have HL : Hid (a + (s.drop a).length = s.length) := Lw.hid (by rw [List.length_drop]; omega)
  obtain ⟨N, hN⟩ : ∃ N, s.length = N := ⟨_, rfl⟩
  have HN := Lw.hid hN
  rw [hN] at hs ha hs9 HL
  obtain ⟨R0, hR0⟩ : ∃ R0, arithF 0 (s.drop a) = R0 := ⟨_, rfl⟩
  have HR0 := Lw.hid hR0
  rw [hR0]
  clear h hN hR0
  have l4141 : (⟨#[41, 41]⟩ : ByteArray) = BA [41, 41] := rfl
  have lodd : (⟨#[39, 34, 92, 96, 36, 10]⟩ : ByteArray) = BA oddL := rfl
  go_enter Tryd.func103, Tryd.ntmps103
  go_wp2_with fail
  go_loopg [2] (N - a + 1) (fun gk s2 wx => ArRel w g s d N R0 gk s2 wx)
  case atStart => exact .inl ⟨a, 0, s.drop a, rfl, HL.out, rfl, rfl, Nat.zero_le _, H.out, HR0.out, Kept.refl _ _⟩
  case round =>
    rcases hrel with ⟨a, o, r, rfl, hr, hdr, rfl, ho, hsc, har, hk⟩ | ⟨a, o, rfl, han, rfl, ho, hsc, rfl, hk⟩
    · have HSC := Lw.hid hsc; have HK := Lw.hid hk; have HDR := Lw.hid hdr; have HAR := Lw.hid har; have HRL := Lw.hid hr
      clear hsc hk hdr har hr
      cases r with
      | nil =>
        have hb : (decide ((0 : Nat) = 0) && decide (a < s.length)) = false := by rw [HN.out]; have := HRL.out; simp at this; simp; omega
        have HB := Lw.hid hb
        have HRE : Hid (R0 = .error 5) := Lw.hid (by rw [← HAR.out]; unfold arithF; rfl)
        clear hb
        go_wp2_with fail
        refine (more_any _ g s a d 0 HSC.out false HB.out).mono ?_
        rintro x _ ⟨rfl, n1, rfl⟩
        go_wp2_with fail
        refine (fail_any _ g s a d 0 (HSC.out.drewN _) 5 5 rfl).mono ?_
        rintro x w' ⟨rfl, h', k'⟩
        go_wp2_with fail
        go_end0
        rw [HRE.out]
        exact ⟨rfl, ⟨a, d, by have := HRL.out; rw [HN.out]; simp at this; omega, Nat.le_refl _, hd, h', by decide⟩, (HK.out.then (K1.drewN g _ n1)).then k'⟩
      | cons c r =>
        obtain ⟨hc0, hd1, hl1⟩ := drop_cons HDR.out
        have g0 := BA_get hc0
        have HD1 := Lw.hid hd1
        have hlt : a + 1 ≤ N := by rw [HN.out] at hl1; omega
        have HL1 : Hid (a + 1 + r.length = N) := Lw.hid (by rw [HN.out] at hl1; omega)
        have hb : (decide ((0 : Nat) = 0) && decide (a < s.length)) = true := by rw [HN.out]; simp; omega
        have HB := Lw.hid hb
        have ht := BA_tail s a N HN.out.symm
        rw [HDR.out] at ht
        clear hb hc0 hd1 hl1
        go_wp2_with fail
        refine (more_any _ g s a d 0 HSC.out true HB.out).mono ?_
        rintro x _ ⟨rfl, n1, rfl⟩
        obtain ⟨⟨c0, c1, c2, c3⟩, f1, f2, f3⟩ := HSC.out.cells
        by_cases ho0 : o = 0
        · subst ho0
          by_cases hp : ((c :: r).take 2 == [41, 41]) = true
          · -- the end
            have HP := Lw.hid hp
            have HE : Hid (R0 = .ok (r.drop 1) ∧ N - (r.drop 1).length = a + 2) := Lw.hid (by
              have h2 : (c :: r).take 2 = [41, 41] := beq_iff_eq.1 hp
              refine ⟨by rw [← HAR.out, ar_end h2], ?_⟩
              have h3 := congrArg List.length h2
              rw [List.length_take] at h3
              simp at h3
              have h4 := HL1.out
              rw [List.length_drop]; omega)
            have ha2 : a + 2 ≤ N := by have h1 := HE.out.2; have h2 := List.length_drop (i := 1) (l := r); omega
            clear hp
            go_wp2_with fail
            go_quiet (fail)
            go_wp2_with fail
            go_quiet ((go_at_call 55; exact quiet_add_same (hasp2 (c :: r) [41, 41] true HP.out _)))
            go_wp2_with fail
            refine bodyPost_ret (results_none rfl _ _ _) rfl ?_
            rw [HE.out.1]
            refine ⟨rfl, ?_, ((HK.out.then (K1.drewN g _ _)).set _)⟩
            show ScAt _ g s _ d 0
            rw [HN.out, HE.out.2]
            exact HSC.out.stepAt (a + 2) (by omega)
          · have hp' : ((c :: r).take 2 == [41, 41]) = false := by simpa using hp
            have HP := Lw.hid hp'
            have HNE : Hid (¬ ((0 : Nat) = 0 ∧ (c :: r).take 2 = [41, 41])) := Lw.hid (fun x => hp (beq_iff_eq.2 x.2))
            have hoo : ((0 : Int) == 0) = true := rfl
            clear hp hp'
            by_cases h40 : c = 40
            · have b40 : ((c.toNat : Int) == 40) = true := u8eq (k := 40) rfl h40
              have HA : Hid (arithF (0 + 1) r = R0) := Lw.hid (by rw [← HAR.out, ar_up HNE.out h40])
              clear h40
              go_wp2_with fail
              go_quiet (fail)
              go_wp2_with fail
              go_quiet ((go_at_call 55; exact quiet_add_same (hasp2 (c :: r) [41, 41] false HP.out _)))
              go_wp2_with fail
              go_roundg (N - (a + 1) + 1)
              case measure => omega
              case rel => exact .inl ⟨a + 1, 0 + 1, r, rfl, HL1.out, HD1.out, by go_num, by omega, HSC.out.stepAt (a + 1) (by omega), HA.out, ((HK.out.then (K1.drewN g _ _)).set _)⟩
            · have b40 : ((c.toNat : Int) == 40) = false := u8ne (k := 40) rfl h40
              by_cases h41 : c = 41
              · have b41 : ((c.toNat : Int) == 41) = true := u8eq (k := 41) rfl h41
                have HA : Hid (R0 = .error 5) := Lw.hid (by rw [← HAR.out, ar_bad HNE.out h40 (fun x => absurd x.2 (by decide)) (.inl h41)])
                clear h40 h41
                go_wp2_with fail
                go_quiet (fail)
                go_wp2_with fail
                go_quiet ((go_at_call 55; exact quiet_add_same (hasp2 (c :: r) [41, 41] false HP.out _)))
                go_wp2_with fail
                clear c0 c1 c2 c3 f1 f2 f3
                refine (fail_any _ g s a d 0 (HSC.out.drewN _) 5 5 rfl).mono ?_
                rintro x w' ⟨rfl, h', k'⟩
                obtain ⟨⟨c0, c1, c2, c3⟩, f1, f2, f3⟩ := h'.cells
                have H' := Lw.hid h'; have K' := Lw.hid ((HK.out.then (K1.drewN g _ _)).then k')
                clear h' k'
                go_wp2_with fail
                go_roundg 0
                case measure => omega
                case rel => exact .inr ⟨a + 1, 0, rfl, hlt, rfl, by omega, H'.out.step0 (a + 1) (by omega), HA.out, K'.out.set _⟩
              · have b41 : ((c.toNat : Int) == 41) = false := u8ne (k := 41) rfl h41
                by_cases hodd : oddA c = true
                · have HI := Lw.hid ((idx_in oddL c).1 (by rw [oddL_has]; exact hodd))
                  have HA : Hid (R0 = .error 5) := Lw.hid (by rw [← HAR.out, ar_bad HNE.out h40 (fun x => absurd x.2 (by decide)) (.inr hodd)])
                  obtain ⟨i, hi⟩ := HI.out
                  have HI := Lw.hid hi
                  clear h40 h41 hodd hi
                  go_wp2_with fail
                  go_quiet (fail)
                  go_wp2_with fail
                  go_quiet ((go_at_call 55; exact quiet_add_same (hasp2 (c :: r) [41, 41] false HP.out _)))
                  go_wp2_with fail
                  refine (idx_any oddL c (i : Int) HI.out _).mono ?_
                  rintro x _ ⟨rfl, rfl⟩
                  go_wp2_with fail
                  clear c0 c1 c2 c3 f1 f2 f3
                  refine (fail_any _ g s a d 0 (HSC.out.drewN _) 5 5 rfl).mono ?_
                  rintro x w' ⟨rfl, h', k'⟩
                  obtain ⟨⟨c0, c1, c2, c3⟩, f1, f2, f3⟩ := h'.cells
                  have H' := Lw.hid h'; have K' := Lw.hid ((HK.out.then (K1.drewN g _ _)).then k')
                  clear h' k'
                  go_wp2_with fail
                  go_roundg 0
                  case measure => omega
                  case rel => exact .inr ⟨a + 1, 0, rfl, hlt, rfl, by omega, H'.out.step0 (a + 1) (by omega), HA.out, K'.out.set _⟩
                · have HI := Lw.hid ((idx_in oddL c).2 (by rw [oddL_has]; simpa using hodd))
                  have HA : Hid (arithF 0 r = R0) := Lw.hid (by rw [← HAR.out, ar_go HNE.out h40 h41 hodd])
                  clear h40 h41 hodd
                  go_wp2_with fail
                  go_quiet (fail)
                  go_wp2_with fail
                  go_quiet ((go_at_call 55; exact quiet_add_same (hasp2 (c :: r) [41, 41] false HP.out _)))
                  go_wp2_with fail
                  refine (idx_any oddL c (-1) HI.out _).mono ?_
                  rintro x _ ⟨rfl, rfl⟩
                  go_wp2_with fail
                  go_roundg (N - (a + 1) + 1)
                  case measure => omega
                  case rel => exact .inl ⟨a + 1, 0, r, rfl, HL1.out, HD1.out, rfl, by omega, HSC.out.stepAt (a + 1) (by omega), HA.out, ((HK.out.then (K1.drewN g _ _)).set _)⟩
        · have HNE : Hid (¬ (o = 0 ∧ (c :: r).take 2 = [41, 41])) := Lw.hid (fun x => ho0 x.1)
          have ho1 : 1 ≤ o := by omega
          have hob : ((o : Int) == 0) = false := by simp; omega
          clear ho0
          by_cases h40 : c = 40
          · have b40 : ((c.toNat : Int) == 40) = true := u8eq (k := 40) rfl h40
            have HA : Hid (arithF (o + 1) r = R0) := Lw.hid (by rw [← HAR.out, ar_up HNE.out h40])
            clear h40
            go_wp2_with fail
            go_quiet (fail)
            go_wp2_with fail
            go_quiet (fail)
            go_wp2_with fail
            go_roundg (N - (a + 1) + 1)
            case measure => omega
            case rel => exact .inl ⟨a + 1, o + 1, r, rfl, HL1.out, HD1.out, by go_num, by omega, HSC.out.stepAt (a + 1) (by omega), HA.out, ((HK.out.then (K1.drewN g _ _)).set _)⟩
          · have b40 : ((c.toNat : Int) == 40) = false := u8ne (k := 40) rfl h40
            by_cases h41 : c = 41
            · have b41 : ((c.toNat : Int) == 41) = true := u8eq (k := 41) rfl h41
              have HA : Hid (arithF (o - 1) r = R0) := Lw.hid (by rw [← HAR.out, ar_down HNE.out h40 h41 (by omega)])
              have ho2 : ((o - 1 : Nat) : Int) = (o : Int) - 1 := by omega
              clear h40 h41
              go_wp2_with fail
              go_quiet (fail)
              go_wp2_with fail
              go_quiet (fail)
              go_wp2_with fail
              go_roundg (N - (a + 1) + 1)
              case measure => omega
              case rel => exact .inl ⟨a + 1, o - 1, r, rfl, HL1.out, HD1.out, by rw [ho2], by omega, HSC.out.stepAt (a + 1) (by omega), HA.out, ((HK.out.then (K1.drewN g _ _)).set _)⟩
            · have b41 : ((c.toNat : Int) == 41) = false := u8ne (k := 41) rfl h41
              by_cases hodd : oddA c = true
              · have HI := Lw.hid ((idx_in oddL c).1 (by rw [oddL_has]; exact hodd))
                have HA : Hid (R0 = .error 5) := Lw.hid (by rw [← HAR.out, ar_bad HNE.out h40 (fun x => h41 x.1) (.inr hodd)])
                obtain ⟨i, hi⟩ := HI.out
                have HI := Lw.hid hi
                clear h40 h41 hodd hi
                go_wp2_with fail
                go_quiet (fail)
                go_wp2_with fail
                go_quiet (fail)
                go_wp2_with fail
                refine (idx_any oddL c (i : Int) HI.out _).mono ?_
                rintro x _ ⟨rfl, rfl⟩
                go_wp2_with fail
                clear c0 c1 c2 c3 f1 f2 f3
                refine (fail_any _ g s a d 0 (HSC.out.drewN _) 5 5 rfl).mono ?_
                rintro x w' ⟨rfl, h', k'⟩
                obtain ⟨⟨c0, c1, c2, c3⟩, f1, f2, f3⟩ := h'.cells
                have H' := Lw.hid h'; have K' := Lw.hid ((HK.out.then (K1.drewN g _ _)).then k')
                clear h' k'
                go_wp2_with fail
                go_roundg 0
                case measure => omega
                case rel => exact .inr ⟨a + 1, o, rfl, hlt, rfl, by omega, H'.out.step0 (a + 1) (by omega), HA.out, K'.out.set _⟩
              · have HI := Lw.hid ((idx_in oddL c).2 (by rw [oddL_has]; simpa using hodd))
                have HA : Hid (arithF o r = R0) := Lw.hid (by rw [← HAR.out, ar_go HNE.out h40 h41 hodd])
                clear h40 h41 hodd
                go_wp2_with fail
                go_quiet (fail)
                go_wp2_with fail
                go_quiet (fail)
                go_wp2_with fail
                refine (idx_any oddL c (-1) HI.out _).mono ?_
                rintro x _ ⟨rfl, rfl⟩
                go_wp2_with fail
                go_roundg (N - (a + 1) + 1)
                case measure => omega
                case rel => exact .inl ⟨a + 1, o, r, rfl, HL1.out, HD1.out, rfl, by omega, HSC.out.stepAt (a + 1) (by omega), HA.out, ((HK.out.then (K1.drewN g _ _)).set _)⟩
    · have HSC := Lw.hid hsc; have HK := Lw.hid hk
      clear hsc hk
      have hb : (decide ((5 : Nat) = 0) && decide (a < s.length)) = false := rfl
      have HB := Lw.hid hb
      clear hb
      go_wp2_with fail
      refine (more_any _ g s a d 5 HSC.out false HB.out).mono ?_
      rintro x _ ⟨rfl, n1, rfl⟩
      go_wp2_with fail
      refine (fail_any _ g s a d 5 (HSC.out.drewN _) 5 5 rfl).mono ?_
      rintro x w' ⟨rfl, h', k'⟩
      go_wp2_with fail
      go_end0
      exact ⟨rfl, ⟨a, d, by rw [HN.out]; exact han, Nat.le_refl _, hd, h', by decide⟩, (HK.out.then (K1.drewN g _ n1)).then k'⟩
end Go.Proofs.YtifcgeanippepaaDoor
