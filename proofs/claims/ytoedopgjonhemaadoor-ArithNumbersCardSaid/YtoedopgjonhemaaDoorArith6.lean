/- arith: a name's worth; signs ahead; what signs between do. -/
import Derived.Test.YtoedopgjonhemaaDoorArith5
namespace Go.Proofs.YtoedopgjonhemaaDoor
open Go Go.RowKit Go.Lw
set_option maxRecDepth 100000
set_option linter.unusedVariables false
set_option linter.unusedSimpArgs false
attribute [local go_sem] BA_toList
theorem truth_any (w : World) (b : Bool) : Calls Tryd.prog 56 #[.bool b] w fun x w' => x = .returned (.int .i64 (truthI b)) ∧ w' = w := by
  cases b
  all_goals
    go_enter Tryd.func56, Tryd.ntmps56
    go_wp2_with fail
    go_ret
    exact ⟨rfl, rfl⟩
theorem drop_all {l : List UInt8} : (l.dropWhile digitB = []) ↔ l.all digitB = true := by
  constructor
  · intro h
    rw [← List.takeWhile_append_dropWhile (p := digitB) (l := l), h, List.append_nil]
    exact takeWhile_all digitB l
  · intro h
    induction l with
    | nil => rfl
    | cons c r ih =>
      rw [List.all_cons, Bool.and_eq_true] at h
      rw [List.dropWhile_cons, if_pos h.1]
      exact ih h.2
theorem trimS_digs (l : List UInt8) : (Lib.trimS l digsL = []) ↔ l.all digitB = true := by
  have e : (fun c => digsL.contains c) = digitB := funext digs_contains
  unfold Lib.trimS Lib.trimRightS Lib.trimLeftS
  simp only [e]
  constructor
  · intro h
    have h3 := List.all_eq_true.1 (drop_all.1 h)
    by_cases hr : l.reverse.dropWhile digitB = []
    · have := drop_all.1 hr
      rw [List.all_reverse] at this
      exact this
    · exfalso
      have hn := List.head_dropWhile_not digitB (l := l.reverse) hr
      have := h3 _ (List.mem_reverse.2 (List.head_mem hr))
      rw [this] at hn; cases hn
  · intro h
    have h1 : l.reverse.dropWhile digitB = [] := drop_all.2 (by rw [List.all_reverse]; exact h)
    rw [h1]; rfl
theorem parse_bare {s : List UInt8} (h : (bareA s).all digitB = true) (h0 : bareA s ≠ []) : (∃ v, Lib.parseIntB 64 s = .ok v) ∨ Lib.parseIntB 64 s = .range := by
  cases s with
  | nil => exact absurd rfl h0
  | cons c r =>
    have key : ∀ d : UInt8, c.toNat = d.toNat → c = d := fun d h => UInt8.toNat_inj.1 h
    have e1 : (if c.toNat = 43 ∨ c.toNat = 45 then r else c :: r) = bareA (c :: r) := by
      unfold bareA
      by_cases hc : c.toNat = 43 ∨ c.toNat = 45
      · rw [if_pos hc, if_pos (by rcases hc with e | e; exact .inl (congrArg some (key 43 e)); exact .inr (congrArg some (key 45 e)))]; rfl
      · rw [if_neg hc, if_neg (by rintro (e | e) <;> (cases e; exact hc (by decide)))]
    unfold Lib.parseIntB Lib.parseUintB
    simp only
    rw [e1, if_neg h0]
    have hm := parseM_digits (2 ^ 64 - 1) (bareA (c :: r)) 0 h
    rcases hm with ⟨u, hx⟩ | hx
    · rw [hx]
      simp only
      split
      · simp
      · split <;> simp
    · rw [hx]; simp
theorem trimP_any (w : World) (c : UInt8) (r : List UInt8) : Calls Tryd.prog 53 #[.string (BA (c :: r)), .string (BA [c])] w fun x w' => x = .returned (.string (BA r)) ∧ w' = w := by
  refine (Tryd.strings_TrimPrefix (BA (c :: r)) (BA [c]) w).mono ?_
  rintro x w' ⟨rfl, rfl⟩
  refine ⟨?_, rfl⟩
  rw [BA_list, BA_list]
  have e : Lib.trimPrefix (c :: r) [c] = r := by
    unfold Lib.trimPrefix
    rw [if_pos (by simp [Lib.hasPrefix])]
    rfl
  rw [e]; rfl
theorem trimB_any (w : World) (l : List UInt8) (hs9 : l.length ≤ 1000000) : Calls Tryd.prog 54 #[.string (BA l), .string ⟨#[48, 49, 50, 51, 52, 53, 54, 55, 56, 57]⟩] w fun x w' => (∃ t, x = .returned (.string (BA t)) ∧ ((t = []) ↔ l.all digitB = true)) ∧ Kept (fun _ => False) w w' := by
  refine (Go.Proofs.Any.strings_Trim_laid Tryd.lays160 (by kernel_rfl) (BA l) (BA digsL) w (by rw [BA_size]; omega) (by rw [BA_size]; decide) (Go.Proofs.ascii_of_all (by decide))).mono ?_
  rintro x w' ⟨rfl, hb⟩
  exact ⟨⟨_, rfl, trimS_digs l⟩, (Kept.of_below hb).mono (fun k hk h => by omega)⟩
set_option maxHeartbeats 8000000 in
/-- value. -/
theorem value_any (B : Nat) (w : World) (s : List UInt8) (hE : AEnv B w) (hs9 : s.length ≤ 1000000) :
    Calls Tryd.prog 38 #[.string (BA s)] w fun x w' => x = .returned (.tuple #[.int .i64 (valueF s).1, .int .i64 ((valueF s).2 : Int)]) ∧ Kept (fun _ => False) w w' := by
  cases s with
  | nil =>
    have e : Hid (BA [] = ⟨#[]⟩) := Lw.hid rfl
    have hv : valueF [] = (0, 0) := rfl
    rw [hv, e.out]
    go_enter Tryd.func38, Tryd.ntmps38
    go_wp2_with fail
    go_ret2
    exact ⟨rfl, Kept.refl _ _⟩
  | cons c r =>
    obtain ⟨s, hs⟩ : ∃ l, c :: r = l := ⟨_, rfl⟩
    have HE := Lw.hid hE
    have HTP := Lw.hid (fun wx => trimP_any wx c r)
    have hne : (BA s == (⟨#[]⟩ : ByteArray)) = false := BA_ne_nil (by rw [← hs]; simp)
    have hni : s.isEmpty = false := by rw [← hs]; rfl
    have hx : (BA s).extract 0 1 = BA [c] := by rw [BA_head, ← hs]; rfl
    have g0 := BA_get (l := s) (k := 0) (c := c) (by rw [← hs]; rfl)
    have hsz := BA_size s
    obtain ⟨n, hn⟩ : ∃ n, s.length = n := ⟨_, rfl⟩
    have hn1 : 1 ≤ n := by rw [← hn, ← hs]; simp
    rw [hs] at HTP hs9
    rw [hs]
    have hs9' := Lw.hid hs9
    rw [hn] at hsz
    have hsne : s ≠ [] := by rw [← hs]; simp
    clear hE hs9
    obtain ⟨b, hb⟩ : ∃ l, bareA s = l := ⟨_, rfl⟩
    have hbl : b.length ≤ 1000000 := by
      have := hs9'.out
      rw [← hb]; unfold bareA
      split
      · rw [List.length_drop]; omega
      · exact this
    have HV : Hid (valueF s = if b = [] ∨ b.all digitB = false then (0, 5) else match Lib.parseIntB 64 s with | .ok v => (v, 0) | _ => (0, 24)) := Lw.hid (by unfold valueF; rw [if_neg hsne, hb]; rfl)
    have HTB := Lw.hid (fun wx => trimB_any wx b hbl)
    have HNS := Lw.hid (fun h h0 => parse_bare (s := s) (hb.symm ▸ h) (hb.symm ▸ h0))
    have hcs : (c = 43 ∧ b = r) ∨ (c = 45 ∧ b = r) ∨ (((c.toNat : Int) != 43) = true ∧ ((c.toNat : Int) != 45) = true ∧ b = s) := by
      rw [← hb]; unfold bareA; rw [← hs]
      by_cases h1 : c = 43
      · left; subst h1; exact ⟨rfl, rfl⟩
      · by_cases h2 : c = 45
        · right; left; subst h2; exact ⟨rfl, rfl⟩
        · right; right
          have k1 : c.toNat ≠ 43 := fun e => h1 (UInt8.toNat_inj.1 e)
          have k2 : c.toNat ≠ 45 := fun e => h2 (UInt8.toNat_inj.1 e)
          refine ⟨by simp; omega, by simp; omega, ?_⟩
          rw [if_neg]
          rintro (e | e)
          · exact h1 (Option.some.inj e)
          · exact h2 (Option.some.inj e)
    have HPO := Lw.hid (fun wx v h => pint_ok wx s v h hs9'.out)
    have HPR := Lw.hid (fun wx hx h => pint_range B wx s hx h hs9'.out)
    clear hs hb hn hsne
    rcases hcs with ⟨rfl, hb⟩ | ⟨rfl, hb⟩ | ⟨h43, h45, hb⟩
    · have HBV := Lw.hid hb
      go_enter Tryd.func38, Tryd.ntmps38
      go_wp2_with fail
      refine (HTP.out _).mono ?_
      rintro x w1 ⟨rfl, hw1⟩
      have HW1 := Lw.hid hw1
      clear hw1
      by_cases hb0 : b = []
      · have hbe : (BA r == (⟨#[]⟩ : ByteArray)) = true := by rw [← HBV.out, hb0]; rfl
        have hbi : r.isEmpty = true := by rw [← HBV.out, hb0]; rfl
        rw [if_pos (.inl hb0)] at HV
        clear hb0
        go_wp2_with fail
        go_ret2
        rw [HV.out, HW1.out]
        exact ⟨rfl, Kept.refl _ _⟩
      · have hbe : (BA r == (⟨#[]⟩ : ByteArray)) = false := by rw [← HBV.out]; exact BA_ne_nil hb0
        have HB0 := Lw.hid hb0
        have hbi : r.isEmpty = false := by rw [← HBV.out]; cases h : b with
          | nil => exact absurd h hb0
          | cons c l => rfl
        have HTB2 := Lw.hid (HTB.out w1)
        rw [HBV.out] at HTB2
        clear hb0
        go_wp2_with fail
        refine HTB2.out.mono ?_
        rintro x w2 ⟨⟨t, rfl, ht⟩, k2⟩
        have K2 := Lw.hid k2
        clear k2
        by_cases ht0 : t = []
        · have hall : b.all digitB = true := by rw [hb]; exact ht.1 ht0
          have hte : (BA t == (⟨#[]⟩ : ByteArray)) = true := by rw [ht0]; rfl
          have hte2 : (BA t != (⟨#[]⟩ : ByteArray)) = false := by rw [ht0]; rfl
          have hti : t.isEmpty = true := by rw [ht0]; rfl
          have hns := HNS.out hall HB0.out
          rw [if_neg (by rintro (e | e); exact HB0.out e; rw [hall] at e; cases e)] at HV
          refine Or.elim hns (fun hv => ?_) (fun hp => ?_)
          next =>
            obtain ⟨v, hp⟩ := hv
            rw [hp] at HV
            have HP := Lw.hid (fun wx => HPO.out wx v hp)
            clear ht0 ht hall hns hp
            go_wp2_with fail
            refine (HP.out _).mono ?_
            rintro x w3 ⟨rfl, k3⟩
            have K3 := Lw.hid k3
            clear k3
            go_wp2_with fail
            go_ret2
            rw [HV.out]
            rw [HW1.out] at K2
            exact ⟨rfl, K2.out.trans K3.out (fun _ _ h => h)⟩
          next =>
            rw [hp] at HV
            have HP := Lw.hid (fun wx hx => HPR.out wx hx hp)
            clear ht0 ht hall hns hp
            rw [HW1.out] at K2
            go_wp2_with fail
            refine (HP.out _ (HE.out.kept K2.out (fun _ h => h.elim))).mono ?_
            rintro x w3 ⟨⟨n', t', p', rfl⟩, k3⟩
            have K3 := Lw.hid k3
            clear k3
            go_wp2_with fail
            go_ret2
            rw [HV.out]
            exact ⟨rfl, K2.out.trans K3.out (fun _ _ h => h)⟩
        · have hall : b.all digitB = false := by
            rw [hb]
            cases h : r.all digitB with
            | true => exact absurd (ht.2 h) ht0
            | false => rfl
          have hte : (BA t == (⟨#[]⟩ : ByteArray)) = false := BA_ne_nil ht0
          have hte2 : (BA t != (⟨#[]⟩ : ByteArray)) = true := by rw [bne, hte]; rfl
          have hti : t.isEmpty = false := by cases h : t with
            | nil => exact absurd h ht0
            | cons c l => rfl
          rw [if_pos (.inr hall)] at HV
          clear ht0 ht hall
          go_wp2_with fail
          go_ret2
          rw [HV.out]
          rw [HW1.out] at K2
          exact ⟨rfl, K2.out⟩
    · have HBV := Lw.hid hb
      go_enter Tryd.func38, Tryd.ntmps38
      go_wp2_with fail
      refine (HTP.out _).mono ?_
      rintro x w1 ⟨rfl, hw1⟩
      have HW1 := Lw.hid hw1
      clear hw1
      by_cases hb0 : b = []
      · have hbe : (BA r == (⟨#[]⟩ : ByteArray)) = true := by rw [← HBV.out, hb0]; rfl
        have hbi : r.isEmpty = true := by rw [← HBV.out, hb0]; rfl
        rw [if_pos (.inl hb0)] at HV
        clear hb0
        go_wp2_with fail
        go_ret2
        rw [HV.out, HW1.out]
        exact ⟨rfl, Kept.refl _ _⟩
      · have hbe : (BA r == (⟨#[]⟩ : ByteArray)) = false := by rw [← HBV.out]; exact BA_ne_nil hb0
        have HB0 := Lw.hid hb0
        have hbi : r.isEmpty = false := by rw [← HBV.out]; cases h : b with
          | nil => exact absurd h hb0
          | cons c l => rfl
        have HTB2 := Lw.hid (HTB.out w1)
        rw [HBV.out] at HTB2
        clear hb0
        go_wp2_with fail
        refine HTB2.out.mono ?_
        rintro x w2 ⟨⟨t, rfl, ht⟩, k2⟩
        have K2 := Lw.hid k2
        clear k2
        by_cases ht0 : t = []
        · have hall : b.all digitB = true := by rw [hb]; exact ht.1 ht0
          have hte : (BA t == (⟨#[]⟩ : ByteArray)) = true := by rw [ht0]; rfl
          have hte2 : (BA t != (⟨#[]⟩ : ByteArray)) = false := by rw [ht0]; rfl
          have hti : t.isEmpty = true := by rw [ht0]; rfl
          have hns := HNS.out hall HB0.out
          rw [if_neg (by rintro (e | e); exact HB0.out e; rw [hall] at e; cases e)] at HV
          refine Or.elim hns (fun hv => ?_) (fun hp => ?_)
          next =>
            obtain ⟨v, hp⟩ := hv
            rw [hp] at HV
            have HP := Lw.hid (fun wx => HPO.out wx v hp)
            clear ht0 ht hall hns hp
            go_wp2_with fail
            refine (HP.out _).mono ?_
            rintro x w3 ⟨rfl, k3⟩
            have K3 := Lw.hid k3
            clear k3
            go_wp2_with fail
            go_ret2
            rw [HV.out]
            rw [HW1.out] at K2
            exact ⟨rfl, K2.out.trans K3.out (fun _ _ h => h)⟩
          next =>
            rw [hp] at HV
            have HP := Lw.hid (fun wx hx => HPR.out wx hx hp)
            clear ht0 ht hall hns hp
            rw [HW1.out] at K2
            go_wp2_with fail
            refine (HP.out _ (HE.out.kept K2.out (fun _ h => h.elim))).mono ?_
            rintro x w3 ⟨⟨n', t', p', rfl⟩, k3⟩
            have K3 := Lw.hid k3
            clear k3
            go_wp2_with fail
            go_ret2
            rw [HV.out]
            exact ⟨rfl, K2.out.trans K3.out (fun _ _ h => h)⟩
        · have hall : b.all digitB = false := by
            rw [hb]
            cases h : r.all digitB with
            | true => exact absurd (ht.2 h) ht0
            | false => rfl
          have hte : (BA t == (⟨#[]⟩ : ByteArray)) = false := BA_ne_nil ht0
          have hte2 : (BA t != (⟨#[]⟩ : ByteArray)) = true := by rw [bne, hte]; rfl
          have hti : t.isEmpty = false := by cases h : t with
            | nil => exact absurd h ht0
            | cons c l => rfl
          rw [if_pos (.inr hall)] at HV
          clear ht0 ht hall
          go_wp2_with fail
          go_ret2
          rw [HV.out]
          rw [HW1.out] at K2
          exact ⟨rfl, K2.out⟩
    · have HBV := Lw.hid hb
      go_enter Tryd.func38, Tryd.ntmps38
      go_wp2_with fail
      refine (HTP.out _).mono ?_
      rintro x w1 ⟨rfl, hw1⟩
      have HW1 := Lw.hid hw1
      clear hw1
      by_cases hb0 : b = []
      · have hbe : (BA s == (⟨#[]⟩ : ByteArray)) = true := by rw [← HBV.out, hb0]; rfl
        have hbi : s.isEmpty = true := by rw [← HBV.out, hb0]; rfl
        rw [hni] at hbi; cases hbi
      · have hbe : (BA s == (⟨#[]⟩ : ByteArray)) = false := by rw [← HBV.out]; exact BA_ne_nil hb0
        have HB0 := Lw.hid hb0
        have hbi : s.isEmpty = false := by rw [← HBV.out]; cases h : b with
          | nil => exact absurd h hb0
          | cons c l => rfl
        have HTB2 := Lw.hid (HTB.out w1)
        rw [HBV.out] at HTB2
        clear hb0
        go_wp2_with fail
        refine HTB2.out.mono ?_
        rintro x w2 ⟨⟨t, rfl, ht⟩, k2⟩
        have K2 := Lw.hid k2
        clear k2
        by_cases ht0 : t = []
        · have hall : b.all digitB = true := by rw [hb]; exact ht.1 ht0
          have hte : (BA t == (⟨#[]⟩ : ByteArray)) = true := by rw [ht0]; rfl
          have hte2 : (BA t != (⟨#[]⟩ : ByteArray)) = false := by rw [ht0]; rfl
          have hti : t.isEmpty = true := by rw [ht0]; rfl
          have hns := HNS.out hall HB0.out
          rw [if_neg (by rintro (e | e); exact HB0.out e; rw [hall] at e; cases e)] at HV
          refine Or.elim hns (fun hv => ?_) (fun hp => ?_)
          next =>
            obtain ⟨v, hp⟩ := hv
            rw [hp] at HV
            have HP := Lw.hid (fun wx => HPO.out wx v hp)
            clear ht0 ht hall hns hp
            go_wp2_with fail
            refine (HP.out _).mono ?_
            rintro x w3 ⟨rfl, k3⟩
            have K3 := Lw.hid k3
            clear k3
            go_wp2_with fail
            go_ret2
            rw [HV.out]
            rw [HW1.out] at K2
            exact ⟨rfl, K2.out.trans K3.out (fun _ _ h => h)⟩
          next =>
            rw [hp] at HV
            have HP := Lw.hid (fun wx hx => HPR.out wx hx hp)
            clear ht0 ht hall hns hp
            rw [HW1.out] at K2
            go_wp2_with fail
            refine (HP.out _ (HE.out.kept K2.out (fun _ h => h.elim))).mono ?_
            rintro x w3 ⟨⟨n', t', p', rfl⟩, k3⟩
            have K3 := Lw.hid k3
            clear k3
            go_wp2_with fail
            go_ret2
            rw [HV.out]
            exact ⟨rfl, K2.out.trans K3.out (fun _ _ h => h)⟩
        · have hall : b.all digitB = false := by
            rw [hb]
            cases h : s.all digitB with
            | true => exact absurd (ht.2 h) ht0
            | false => rfl
          have hte : (BA t == (⟨#[]⟩ : ByteArray)) = false := BA_ne_nil ht0
          have hte2 : (BA t != (⟨#[]⟩ : ByteArray)) = true := by rw [bne, hte]; rfl
          have hti : t.isEmpty = false := by cases h : t with
            | nil => exact absurd h ht0
            | cons c l => rfl
          rw [if_pos (.inr hall)] at HV
          clear ht0 ht hall
          go_wp2_with fail
          go_ret2
          rw [HV.out]
          rw [HW1.out] at K2
          exact ⟨rfl, K2.out⟩
/-- ahead. -/
theorem ahead_any (w : World) (p : Value) (g : List UInt8) (n : Int) (hg : g ∈ aheadL) :
    Calls Tryd.prog 39 #[p, .string (BA g), .int .i64 n] w fun x w' => x = .returned (.int .i64 (aheadF g n)) ∧ w' = w := by
  simp only [aheadL, List.mem_cons, List.not_mem_nil, or_false] at hg
  rcases hg with rfl | rfl | rfl | rfl
  all_goals
    show Calls _ _ #[_, .string ⟨#[_]⟩, _] _ _
    go_enter Tryd.func39, Tryd.ntmps39
    go_wp2_with fail
    first
      | (refine (truth_any _ _).mono ?_
         rintro x w1 ⟨rfl, rfl⟩
         go_wp2_with fail
         go_ret
         exact ⟨rfl, rfl⟩)
      | (go_ret
         first
           | exact ⟨rfl, rfl⟩
           | exact ⟨congrArg (fun v => Ending.returned (.int .i64 v)) (by simp only [aheadF, Int.zero_sub]; exact (IntWalk.i64_left _).symm), rfl⟩
           | exact ⟨congrArg (fun v => Ending.returned (.int .i64 v)) (by simp [aheadF, IntWalk.i64_left]), rfl⟩)
end Go.Proofs.YtoedopgjonhemaaDoor
