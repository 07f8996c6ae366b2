/- package lex: pieces, one in another: the scanner leaves what the plain scan leaves. -/
import Derived.Test.YtifcgeanippepaaDoorScan3M
namespace Go.Proofs.YtifcgeanippepaaDoor
open Go Go.RowKit Go.Lw
set_option maxRecDepth 100000
set_option linter.unusedVariables false
set_option linter.unusedSimpArgs false
attribute [local go_sem] BA_toList
def CPiece (n : Nat) : Prop := ∀ (q : Bool) (w : World) (g : Nat) (s : List UInt8) (a d : Nat), ScAt w g s a d 0 → a < s.length → s.length ≤ 1000000 → d ≤ 16 → need (.piece q) (s.length - a) ≤ n →
  Calls Tryd.prog 46 #[.pointer (some ⟨g, 0, none⟩), .bool q] w fun x w' => x = .returned (.tuple #[]) ∧ ScRes w' g s d (scan n (.piece q) d (s.drop a)) ∧ K1 g w w'
def CDouble (n : Nat) : Prop := ∀ (w : World) (g : Nat) (s : List UInt8) (a d : Nat), ScAt w g s a d 0 → a ≤ s.length → s.length ≤ 1000000 → d ≤ 16 → need .double (s.length - a) ≤ n →
  Calls Tryd.prog 77 #[.pointer (some ⟨g, 0, none⟩)] w fun x w' => x = .returned (.tuple #[]) ∧ ScRes w' g s d (scan n .double d (s.drop a)) ∧ K1 g w w'
def CBrace (n : Nat) : Prop := ∀ (w : World) (g : Nat) (s : List UInt8) (a d : Nat), ScAt w g s a d 0 → a ≤ s.length → s.length ≤ 1000000 → d ≤ 16 → need .brace (s.length - a) ≤ n →
  Calls Tryd.prog 104 #[.pointer (some ⟨g, 0, none⟩)] w fun x w' => x = .returned (.tuple #[]) ∧ ScRes w' g s d (scan n .brace d (s.drop a)) ∧ K1 g w w'
/-- One deeper. -/
def downF (d : Nat) (res : Rs) : Rs := if 16 < d + 1 then .error 12 else res
set_option maxHeartbeats 2000000 in
theorem down_double (w : World) (g : Nat) (s : List UInt8) (a d : Nat) (h : ScAt w g s a d 0) (ha : a ≤ s.length) (hs9 : s.length ≤ 1000000) (hd : d ≤ 16) (n : Nat) (hn : need .double (s.length - a) ≤ n) (HC : Hid (CDouble n)) :
    Calls Tryd.prog 76 #[.pointer (some ⟨g, 0, none⟩), .func (.func 77) #[.pointer (some ⟨g, 0, none⟩)] #[]] w fun x w' => x = .returned (.tuple #[]) ∧ ScRes w' g s d (downF d (scan n .double (d + 1) (s.drop a))) ∧ K1 g w w' := by
  obtain ⟨⟨c0, c1, c2, c3⟩, f1, f2, f3⟩ := h.cells
  have H := Lw.hid h; have HA := Lw.hid ha; have HS9 := Lw.hid hs9; have HNN := Lw.hid hn
  have H1 : Hid (ScAt (w.setCell ⟨g, 2, none⟩ (.int .i64 ((d : Int) + 1))) g s a (d + 1) 0) := Lw.hid (by have := h.deep' (d + 1); simpa using this)
  clear h ha hs9 hn
  by_cases hd16 : 16 < d + 1
  · have HD : Hid (downF d (scan n .double (d + 1) (s.drop a)) = .error 12) := Lw.hid (if_pos hd16)
    go_enter Tryd.func76, Tryd.ntmps76
    go_wp2_with fail
    refine (fail_any _ g s a (d + 1) 0 H1.out 12 12 rfl).mono ?_
    rintro x w' ⟨rfl, h', k'⟩
    go_wp2_with fail
    refine bodyPost_ret (results_none rfl _ _ _) rfl ?_
    rw [HD.out]
    exact ⟨rfl, ⟨a, d + 1, HA.out, by omega, by omega, h', by decide⟩, ((K1.refl g w).set _).then k'⟩
  · have HD : Hid (downF d (scan n .double (d + 1) (s.drop a)) = scan n .double (d + 1) (s.drop a)) := Lw.hid (if_neg hd16)
    have hd15 : d + 1 ≤ 16 := by omega
    go_enter Tryd.func76, Tryd.ntmps76
    go_wp2_with fail
    refine (HC.out _ g s a (d + 1) H1.out HA.out HS9.out hd15 HNN.out).mono ?_
    rintro x w' ⟨rfl, h', k'⟩
    cases hres : scan n .double (d + 1) (s.drop a) with
    | error e =>
      rw [hres] at h'
      obtain ⟨a', d', ha', hd1, hd2, hsc, he⟩ := h'
      obtain ⟨⟨c0, c1, c2, c3⟩, f1, f2, f3⟩ := hsc.cells
      have HSC := Lw.hid hsc; have HA' := Lw.hid ha'; have K' := Lw.hid k'; have HE := Lw.hid he
      have HRES := Lw.hid hres
      clear hres hsc ha' k' he
      go_wp2_with fail
      go_end0
      rw [HD.out, HRES.out]
      refine ⟨rfl, ⟨a', d' - 1, HA'.out, by omega, by omega, ?_, HE.out⟩, (((K1.refl g w).set _).then K'.out).set _⟩
      have := HSC.out.deep' (d' - 1)
      rw [show ((d' - 1 : Nat) : Int) = (d' : Int) - 1 by omega] at this
      exact this
    | ok r' =>
      rw [hres] at h'
      have hsc : ScAt w' g s (s.length - r'.length) (d + 1) 0 := h'
      obtain ⟨⟨c0, c1, c2, c3⟩, f1, f2, f3⟩ := hsc.cells
      have HSC := Lw.hid hsc; have K' := Lw.hid k'
      have HRES := Lw.hid hres
      clear hres hsc k' h'
      go_wp2_with fail
      go_end0
      rw [HD.out, HRES.out]
      refine ⟨rfl, ?_, (((K1.refl g w).set _).then K'.out).set _⟩
      show ScAt _ g s _ d 0
      have := HSC.out.deep' d
      simpa using this
set_option maxHeartbeats 2000000 in
theorem down_brace (w : World) (g : Nat) (s : List UInt8) (a d : Nat) (h : ScAt w g s a d 0) (ha : a ≤ s.length) (hs9 : s.length ≤ 1000000) (hd : d ≤ 16) (n : Nat) (hn : need .brace (s.length - a) ≤ n) (HC : Hid (CBrace n)) :
    Calls Tryd.prog 76 #[.pointer (some ⟨g, 0, none⟩), .func (.func 104) #[.pointer (some ⟨g, 0, none⟩)] #[]] w fun x w' => x = .returned (.tuple #[]) ∧ ScRes w' g s d (downF d (scan n .brace (d + 1) (s.drop a))) ∧ K1 g w w' := by
  obtain ⟨⟨c0, c1, c2, c3⟩, f1, f2, f3⟩ := h.cells
  have H := Lw.hid h; have HA := Lw.hid ha; have HS9 := Lw.hid hs9; have HNN := Lw.hid hn
  have H1 : Hid (ScAt (w.setCell ⟨g, 2, none⟩ (.int .i64 ((d : Int) + 1))) g s a (d + 1) 0) := Lw.hid (by have := h.deep' (d + 1); simpa using this)
  clear h ha hs9 hn
  by_cases hd16 : 16 < d + 1
  · have HD : Hid (downF d (scan n .brace (d + 1) (s.drop a)) = .error 12) := Lw.hid (if_pos hd16)
    go_enter Tryd.func76, Tryd.ntmps76
    go_wp2_with fail
    refine (fail_any _ g s a (d + 1) 0 H1.out 12 12 rfl).mono ?_
    rintro x w' ⟨rfl, h', k'⟩
    go_wp2_with fail
    refine bodyPost_ret (results_none rfl _ _ _) rfl ?_
    rw [HD.out]
    exact ⟨rfl, ⟨a, d + 1, HA.out, by omega, by omega, h', by decide⟩, ((K1.refl g w).set _).then k'⟩
  · have HD : Hid (downF d (scan n .brace (d + 1) (s.drop a)) = scan n .brace (d + 1) (s.drop a)) := Lw.hid (if_neg hd16)
    have hd15 : d + 1 ≤ 16 := by omega
    go_enter Tryd.func76, Tryd.ntmps76
    go_wp2_with fail
    refine (HC.out _ g s a (d + 1) H1.out HA.out HS9.out hd15 HNN.out).mono ?_
    rintro x w' ⟨rfl, h', k'⟩
    cases hres : scan n .brace (d + 1) (s.drop a) with
    | error e =>
      rw [hres] at h'
      obtain ⟨a', d', ha', hd1, hd2, hsc, he⟩ := h'
      obtain ⟨⟨c0, c1, c2, c3⟩, f1, f2, f3⟩ := hsc.cells
      have HSC := Lw.hid hsc; have HA' := Lw.hid ha'; have K' := Lw.hid k'; have HE := Lw.hid he
      have HRES := Lw.hid hres
      clear hres hsc ha' k' he
      go_wp2_with fail
      go_end0
      rw [HD.out, HRES.out]
      refine ⟨rfl, ⟨a', d' - 1, HA'.out, by omega, by omega, ?_, HE.out⟩, (((K1.refl g w).set _).then K'.out).set _⟩
      have := HSC.out.deep' (d' - 1)
      rw [show ((d' - 1 : Nat) : Int) = (d' : Int) - 1 by omega] at this
      exact this
    | ok r' =>
      rw [hres] at h'
      have hsc : ScAt w' g s (s.length - r'.length) (d + 1) 0 := h'
      obtain ⟨⟨c0, c1, c2, c3⟩, f1, f2, f3⟩ := hsc.cells
      have HSC := Lw.hid hsc; have K' := Lw.hid k'
      have HRES := Lw.hid hres
      clear hres hsc k' h'
      go_wp2_with fail
      go_end0
      rw [HD.out, HRES.out]
      refine ⟨rfl, ?_, (((K1.refl g w).set _).then K'.out).set _⟩
      show ScAt _ g s _ d 0
      have := HSC.out.deep' d
      simpa using this
/-- Behind a dollar. -/
def dollarF (n d : Nat) (r : List UInt8) : Rs :=
  if r.take 2 = [40, 40] then arithF 0 (r.drop 2)
  else if r.take 1 = [40] then .error 5
  else if r.take 1 = [123] then downF d (scan n .brace (d + 1) (r.drop 1))
  else if r.take 1 = [63] then .ok (r.drop 1)
  else .ok (namesF true r)
theorem scan_piece (n d : Nat) (q : Bool) (c : UInt8) (r : List UInt8) : scan (n + 1) (.piece q) d (c :: r) =
    if c = 92 then pairF r
    else if c = 39 ∧ q = false then untilF 39 r
    else if c = 34 ∧ q = false then downF d (scan n .double (d + 1) r)
    else if c = 36 then dollarF n d r
    else if c = 96 ∨ q = false ∧ (c = 40 ∨ c = 41) then .error 5
    else .ok r := rfl
theorem take_len {l : List UInt8} {k : Nat} {p : List UInt8} (h : l.take k = p) (hp : p.length = k) : k ≤ l.length := by
  have := congrArg List.length h
  rw [List.length_take, hp] at this
  omega
theorem names_step {c : UInt8} {r : List UInt8} {first : Bool} (h : letterB c first = true) : namesF first (c :: r) = namesF false r := by
  conv => lhs; unfold namesF
  rw [if_pos h]
theorem names_stop {c : UInt8} {r : List UInt8} {first : Bool} (h : letterB c first = false) : namesF first (c :: r) = c :: r := by
  unfold namesF
  rw [if_neg (by rw [h]; decide)]
set_option maxHeartbeats 8000000 in
theorem dollar_ok (w : World) (g : Nat) (s : List UInt8) (a d : Nat) (h : ScAt w g s a d 0) (ha : a ≤ s.length) (hs9 : s.length ≤ 1000000) (hd : d ≤ 16) (n : Nat) (hn : 2 * (s.length - a) ≤ n) (HC : Hid (CBrace n)) :
    Calls Tryd.prog 78 #[.pointer (some ⟨g, 0, none⟩)] w fun x w' => x = .returned (.tuple #[]) ∧ ScRes w' g s d (dollarF n d (s.drop a)) ∧ K1 g w w' := by
  obtain ⟨⟨c0, c1, c2, c3⟩, f1, f2, f3⟩ := h.cells
  have hs := BA_size s
  have ht := BA_tail s a s.length rfl
  have H := Lw.hid h
  have HL : Hid (a + (s.drop a).length = s.length) := Lw.hid (by rw [List.length_drop]; omega)
  have HD2 : Hid (∀ k, s.drop (a + k) = (s.drop a).drop k) := Lw.hid (fun k => by rw [List.drop_drop])
  obtain ⟨N, hN⟩ : ∃ N, s.length = N := ⟨_, rfl⟩
  have HN := Lw.hid hN
  obtain ⟨R, hR⟩ : ∃ R, s.drop a = R := ⟨_, rfl⟩
  have HR := Lw.hid hR
  rw [hR] at HL HD2 ht ⊢
  rw [hN] at hs ha hs9 HL ht hn
  have HNN := Lw.hid hn
  clear h hN hR hn
  have l4040 : (⟨#[40, 40]⟩ : ByteArray) = BA [40, 40] := rfl
  have l40 : (⟨#[40]⟩ : ByteArray) = BA [40] := rfl
  have l123 : (⟨#[123]⟩ : ByteArray) = BA [123] := rfl
  have l63 : (⟨#[63]⟩ : ByteArray) = BA [63] := rfl
  go_enter Tryd.func78, Tryd.ntmps78
  go_wp2_with fail
  go_quiet (fail)
  go_wp2_with fail
  by_cases t1 : R.take 2 = [40, 40]
  · have HDF : Hid (dollarF n d R = arithF 0 (s.drop (a + 2))) := Lw.hid (by rw [HD2.out]; exact if_pos t1)
    have h2 : a + 2 ≤ N := by have := take_len t1 rfl; have := HL.out; omega
    refine (hasp2 R [40, 40] true (beq_iff_eq.2 t1) _).mono ?_
    rintro x _ ⟨rfl, rfl⟩
    clear t1
    go_wp2_with fail
    refine (arith_ok _ g s (a + 2) d (H.out.stepAt (a + 2) (by omega)) (by rw [HN.out]; exact h2) (by rw [HN.out]; exact hs9) (by omega)).mono ?_
    rintro x w' ⟨rfl, h', k'⟩
    go_wp2_with fail
    go_end0
    rw [HDF.out]
    exact ⟨rfl, h', ((K1.drewN g w _).set _).then k'⟩
  · have hp1 : (R.take [40, 40].length == [40, 40]) = false := beq_eq_false_iff_ne.2 t1
    refine (hasp2 R [40, 40] false hp1 _).mono ?_
    rintro x _ ⟨rfl, rfl⟩
    go_wp2_with fail
    by_cases t2 : R.take 1 = [40]
    · have HDF : Hid (dollarF n d R = .error 5) := Lw.hid (by unfold dollarF; rw [if_neg t1, if_pos t2])
      refine (hasp2 R [40] true (beq_iff_eq.2 t2) _).mono ?_
      rintro x _ ⟨rfl, rfl⟩
      clear t1 t2 hp1
      go_wp2_with fail
      refine (fail_any _ g s a d 0 (H.out.drewN _) 5 5 rfl).mono ?_
      rintro x w' ⟨rfl, h', k'⟩
      go_wp2_with fail
      go_end0
      rw [HDF.out]
      exact ⟨rfl, ⟨a, d, by rw [HN.out]; exact ha, Nat.le_refl _, by omega, h', by decide⟩, (K1.drewN g w nq).then k'⟩
    · have hp2 : (R.take [40].length == [40]) = false := beq_eq_false_iff_ne.2 t2
      refine (hasp2 R [40] false hp2 _).mono ?_
      rintro x _ ⟨rfl, rfl⟩
      go_wp2_with fail
      by_cases t3 : R.take 1 = [123]
      · have HDF : Hid (dollarF n d R = downF d (scan n .brace (d + 1) (s.drop (a + 1)))) := Lw.hid (by rw [HD2.out]; unfold dollarF; rw [if_neg t1, if_neg t2, if_pos t3])
        have h1 : a + 1 ≤ N := by have := take_len t3 rfl; have := HL.out; omega
        refine (hasp2 R [123] true (beq_iff_eq.2 t3) _).mono ?_
        rintro x _ ⟨rfl, rfl⟩
        clear t1 t2 t3 hp1 hp2
        go_wp2_with fail
        refine (down_brace _ g s (a + 1) d (H.out.stepAt (a + 1) (by omega)) (by rw [HN.out]; exact h1) (by rw [HN.out]; exact hs9) hd n (by have := HNN.out; simp only [need]; rw [HN.out]; omega) HC).mono ?_
        rintro x w' ⟨rfl, h', k'⟩
        go_wp2_with fail
        go_end0
        rw [HDF.out]
        exact ⟨rfl, h', ((K1.drewN g w _).set _).then k'⟩
      · have hp3 : (R.take [123].length == [123]) = false := beq_eq_false_iff_ne.2 t3
        refine (hasp2 R [123] false hp3 _).mono ?_
        rintro x _ ⟨rfl, rfl⟩
        go_wp2_with fail
        by_cases t4 : R.take 1 = [63]
        · have h1 : a + 1 ≤ N := by have := take_len t4 rfl; have := HL.out; omega
          have HDF : Hid (dollarF n d R = .ok (R.drop 1) ∧ N - (R.drop 1).length = a + 1) := Lw.hid (by
            refine ⟨by unfold dollarF; rw [if_neg t1, if_neg t2, if_neg t3, if_pos t4], ?_⟩
            have := HL.out
            rw [List.length_drop]; omega)
          refine (hasp2 R [63] true (beq_iff_eq.2 t4) _).mono ?_
          rintro x _ ⟨rfl, rfl⟩
          clear t1 t2 t3 t4 hp1 hp2 hp3
          go_wp2_with fail
          go_end0
          rw [HDF.out.1]
          refine ⟨rfl, ?_, ((K1.drewN g w _).set _)⟩
          show ScAt _ g s _ d 0
          rw [HN.out, HDF.out.2]
          exact H.out.stepAt (a + 1) (by omega)
        · have hp4 : (R.take [63].length == [63]) = false := beq_eq_false_iff_ne.2 t4
          have HDF : Hid (dollarF n d R = .ok (namesF true R)) := Lw.hid (by unfold dollarF; rw [if_neg t1, if_neg t2, if_neg t3, if_neg t4])
          refine (hasp2 R [63] false hp4 _).mono ?_
          rintro x _ ⟨rfl, rfl⟩
          clear t1 t2 t3 t4 hp1 hp2 hp3 hp4
          obtain ⟨R0, hR0⟩ : ∃ R0, namesF true R = R0 := ⟨_, rfl⟩
          rw [hR0] at HDF
          have HR0 := Lw.hid hR0
          clear hR0
          go_wp2_with fail
          go_loopg [] (N - a + 1) (fun gk wx => ∃ (a' : Nat) (r : List UInt8) (first : Bool), gk = N - a' + 1 ∧ a' + r.length = N ∧ s.drop a' = r ∧ a ≤ a' ∧ ((a' : Int) == (a : Int)) = first ∧ ScAt wx g s a' d 0 ∧ namesF first r = R0 ∧ K1 g w wx)
          case atStart => exact ⟨a, R, true, rfl, HL.out, HR.out, Nat.le_refl _, by simp, H.out.drewN _, HR0.out, K1.drewN g w _⟩
          case round =>
            obtain ⟨a', r, first, rfl, hr, hdr, haa, hfirst, hsc, hnm, hk⟩ := hrel
            obtain ⟨⟨c0, c1, c2, c3⟩, f1, f2, f3⟩ := hsc.cells
            have HSC := Lw.hid hsc; have HK := Lw.hid hk; have HDR := Lw.hid hdr; have HNM := Lw.hid hnm; have HRL := Lw.hid hr
            clear hsc hk hdr hnm hr
            cases r with
            | nil =>
              have hb : (decide ((0 : Nat) = 0) && decide (a' < s.length)) = false := by rw [HN.out]; have := HRL.out; simp at this; simp; omega
              have HB := Lw.hid hb
              have HE : Hid (R0 = [] ∧ N - ([] : List UInt8).length = a') := Lw.hid ⟨by rw [← HNM.out]; unfold namesF; rfl, by have := HRL.out; simp at this; simp; omega⟩
              clear hb
              go_wp2_with fail
              go_quiet ((go_at_call 43; exact Calls.quiet_of (more_any _ g s a' d 0 (HSC.out.drewN _) false HB.out)))
              go_wp2_with fail
              go_end0
              rw [HDF.out, HE.out.1]
              refine ⟨rfl, ?_, HK.out.then (K1.drewN g _ _)⟩
              show ScAt _ g s _ d 0
              rw [HN.out, HE.out.2]
              exact HSC.out.drewN _
            | cons c r =>
              obtain ⟨hc0, hd1, hl1⟩ := drop_cons HDR.out
              have g0 := BA_get hc0
              have HD1 := Lw.hid hd1
              have hlt : a' + 1 ≤ N := by rw [HN.out] at hl1; omega
              have HL1 : Hid (a' + 1 + r.length = N) := Lw.hid (by rw [HN.out] at hl1; omega)
              have hb : (decide ((0 : Nat) = 0) && decide (a' < s.length)) = true := by rw [HN.out]; simp; omega
              have HB := Lw.hid hb
              clear hb hc0 hd1 hl1
              cases hlet : letterB c first with
              | true =>
                have HA : Hid (namesF false r = R0) := Lw.hid (by rw [← HNM.out, names_step hlet])
                have HLET := Lw.hid hlet
                clear hlet
                go_wp2_with fail
                go_quiet ((first | (go_at_call 43; exact Calls.quiet_of (more_any _ g s a' d 0 (HSC.out.drewN _) true HB.out)) | (go_at_call 57; exact Calls.quiet_of_same (HLET.out ▸ letter_any _ c first))))
                go_wp2_with fail
                go_roundg (N - (a' + 1) + 1)
                case measure => omega
                case rel => exact ⟨a' + 1, r, false, rfl, HL1.out, HD1.out, by omega, beq_eq_false_iff_ne.2 (by omega), HSC.out.stepAt (a' + 1) (by omega), HA.out, (HK.out.then (K1.drewN g _ _)).set _⟩
              | false =>
                have HE : Hid (R0 = c :: r ∧ N - (c :: r).length = a') := Lw.hid ⟨by rw [← HNM.out, names_stop hlet], by have := HL1.out; rw [List.length_cons]; omega⟩
                have HLET := Lw.hid hlet
                clear hlet
                go_wp2_with fail
                go_quiet ((first | (go_at_call 43; exact Calls.quiet_of (more_any _ g s a' d 0 (HSC.out.drewN _) true HB.out)) | (go_at_call 57; exact Calls.quiet_of_same (HLET.out ▸ letter_any _ c first))))
                go_wp2_with fail
                go_end0
                rw [HDF.out, HE.out.1]
                refine ⟨rfl, ?_, HK.out.then (K1.drewN g _ _)⟩
                show ScAt _ g s _ d 0
                rw [HN.out, HE.out.2]
                exact HSC.out.drewN _
end Go.Proofs.YtifcgeanippepaaDoor
