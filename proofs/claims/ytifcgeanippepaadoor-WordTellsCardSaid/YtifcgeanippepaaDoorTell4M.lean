/- WordTells: the document's lexer: double, brace; pieces by induction. -/
import Derived.Test.YtifcgeanippepaaDoorTell3M
namespace Go.Proofs.YtifcgeanippepaaDoor
open Go Go.RowKit Go.Lw
set_option maxRecDepth 100000
set_option linter.unusedVariables false
set_option linter.unusedSimpArgs false
attribute [local go_sem] BA_toList
/-- Where a loop over pieces stands. -/
def DbL (w : World) (s : List UInt8) (N : Nat) (m0 : Md) (d n : Nat) (R0 : Rs) (gk : Nat) (s1 : Value) (wx : World) : Prop :=
  ∃ (b m : Nat) (r : List UInt8), gk = N - b ∧ s1 = .int .i64 (b : Int) ∧ b ≤ N ∧ s.drop b = r ∧ m ≤ n ∧ need m0 r.length ≤ m ∧ scan m m0 d r = R0 ∧ Kept (fun _ => False) w wx
theorem scan_len {m : Nat} {q : Bool} {d b : Nat} {s r r' : List UInt8} (hr : s.drop b = r) (h : scan m (.piece q) d r = .ok r') (hb : b ≤ s.length) : s.drop (s.length - r'.length) = r' ∧ s.length - r'.length ≤ s.length := by
  have hl : b + r.length = s.length := by rw [← hr, List.length_drop]; omega
  exact ⟨(ok_len hr hl (scan_tl m _ _ h)).1, Nat.sub_le _ _⟩
theorem resR_tup {N : Nat} {r : List UInt8} : resR N (.ok r) = .tuple #[.int .i64 ((N - r.length : Nat) : Int), .int .i64 0] := rfl
theorem resR_tupE {N e : Nat} : resR N (.error e) = .tuple #[.int .i64 0, .int .i64 (e : Int)] := rfl
theorem scan_err_ne : ∀ (n : Nat) (m : Md) (d : Nat) (r : List UInt8) {e : Nat}, scan n m d r = .error e → e ≠ 0
  | 0, m, d, r, e, h => by unfold scan at h; cases h; decide
  | n + 1, .piece q, d, r, e, h => by
    unfold scan at h
    split at h
    · cases h; decide
    · have pe : ∀ {r : List UInt8} {e : Nat}, pairF r = .error e → e ≠ 0 := fun {r e} h => by
        unfold pairF at h
        split at h
        · cases h; decide
        · split at h
          · cases h; decide
          · cases h
      have ue : ∀ {r : List UInt8} {e : Nat}, untilF 39 r = .error e → e ≠ 0 := fun {r} => by
        induction r with
        | nil => intro e h; cases h; decide
        | cons x r ih =>
          intro e h
          unfold untilF at h
          split at h
          · cases h
          · exact ih h
      have ae : ∀ {r : List UInt8} {o e : Nat}, arithF o r = .error e → e ≠ 0 := fun {r} => by
        induction r with
        | nil => intro o e h; cases h; decide
        | cons x r ih =>
          intro o e h
          unfold arithF at h
          split at h
          · cases h
          · split at h
            · exact ih h
            · split at h
              · exact ih h
              · split at h
                · cases h; decide
                · exact ih h
      split at h
      · exact pe h
      · split at h
        · exact ue h
        · split at h
          · split at h
            · cases h; decide
            · exact scan_err_ne n _ _ _ h
          · split at h
            · split at h
              · exact ae h
              · split at h
                · cases h; decide
                · split at h
                  · split at h
                    · cases h; decide
                    · exact scan_err_ne n _ _ _ h
                  · split at h <;> cases h
            · split at h
              · cases h; decide
              · cases h
  | n + 1, .double, d, r, e, h => by
    unfold scan at h
    split at h
    · cases h; decide
    · split at h
      · cases h
      · split at h
        · rename_i e' h1
          cases h
          exact scan_err_ne n _ _ _ h1
        · exact scan_err_ne n _ _ _ h
  | n + 1, .brace, d, r, e, h => by
    unfold scan at h
    split at h
    · cases h; decide
    · split at h
      · cases h
      · split at h
        · cases h; decide
        · split at h
          · exact scan_err_ne n _ _ _ h
          · split at h
            · rename_i e' h1
              cases h
              exact scan_err_ne n _ _ _ h1
            · exact scan_err_ne n _ _ _ h
set_option maxHeartbeats 16000000 in
theorem t16_double (n : Nat) (IH : Hid (∀ k, k < n → CPc k)) : CDb n := by
  intro w s a d ha hs9 hd hn
  have hs := BA_size s
  by_cases hdp : 16 < d
  · rw [if_pos hdp]
    have hd17 : ((d : Int) > 16) := by omega
    go_enter Tryd.func128, Tryd.ntmps128
    go_wp2_with fail
    all_goals
      go_ret2
      exact resR_er rfl rfl (Kept.refl _ w)
  rw [if_neg hdp]
  have hd16 : ¬ ((d : Int) > 16) := by omega
  have hd16' : d ≤ 16 := by omega
  obtain ⟨R0, hR0⟩ : ∃ R0, scan n .double d (s.drop a) = R0 := ⟨_, rfl⟩
  have HR0 := Lw.hid hR0
  have HND : Hid (need .double (s.drop a).length ≤ n) := Lw.hid (by rw [List.length_drop]; exact hn)
  rw [hR0]
  obtain ⟨N, hN⟩ : ∃ N, s.length = N := ⟨_, rfl⟩
  have HN := Lw.hid hN
  rw [hN] at hs hs9 ha ⊢
  clear hR0 hdp hn hd hN
  go_enter Tryd.func128, Tryd.ntmps128
  go_wp2_with fail
  go_loopg [1] (N - a) (fun gk s1 wx => DbL w s N .double d n R0 gk s1 wx)
  case atStart => exact ⟨a, n, _, rfl, rfl, ha, rfl, Nat.le_refl _, HND.out, HR0.out, Kept.refl _ w⟩
  case round =>
    obtain ⟨b, m, r, rfl, rfl, hb, hr, hmn, hnd, hsc, hk⟩ := hrel
    have HSC := Lw.hid hsc; have HK := Lw.hid hk; have HRR := Lw.hid hr; have HND2 := Lw.hid hnd; have HMN := Lw.hid hmn
    have hl : r.length = N - b := by rw [← hr, List.length_drop, HN.out]
    clear hsc hk hr hnd hmn HR0 HND
    obtain ⟨m, rfl⟩ : ∃ m', m = m' + 1 := ⟨m - 1, by have := HND2.out; simp only [need] at this; omega⟩
    have HPC := Lw.hid (fun wx (h : b < s.length) (hq : need (.piece true) (s.length - b) ≤ m) => IH.out m (by have := HMN.out; omega) true wx s b d h (by rw [HN.out]; exact hs9) hd16' hq)
    rw [HRR.out, HN.out] at HPC
    cases r with
    | nil =>
      have hna : N ≤ b := by simp at hl; omega
      have HE : Hid (R0 = .error 5) := Lw.hid (by rw [← HSC.out]; rfl)
      clear hl
      go_wp2_with fail
      all_goals
        go_ret2
        exact resR_er HE.out rfl HK.out
    | cons c r =>
      obtain ⟨hc0, hd1, hl1⟩ := drop_cons HRR.out
      have g0 := BA_get hc0
      have HD1 := Lw.hid hd1
      have hna : b < N := by simp at hl; omega
      have HLN : Hid (r.length + (b + 1) = N) := Lw.hid (by simp at hl; omega)
      have HRL : Hid (N - r.length = b + 1) := Lw.hid (by simp at hl; omega)
      clear hl hl1 hc0 hd1
      by_cases hq : c = 34
      · have bq : ((c.toNat : Int) == 34) = true := by rw [hq]; rfl
        have HE : Hid (R0 = .ok r) := Lw.hid (by rw [← HSC.out, hq]; unfold scan; simp)
        clear hq
        go_wp2_with fail
        all_goals
          go_ret2
          exact resR_ok (w2 := w) HE.out HRL.out (by first | rfl | go_num) HK.out
      have bq : ((c.toNat : Int) == 34) = false := u8ne (k := 34) rfl hq
      have HPC2 := Lw.hid (fun wx => HPC.out wx hna (by have h1 := HND2.out; have h2 := HLN.out; simp only [need, List.length_cons] at h1 ⊢; omega))
      clear HPC
      cases hres : scan m (.piece true) d (c :: r) with
      | error e =>
        rw [hres, resR_tupE] at HPC2
        have he0 := scan_err_ne _ _ _ _ hres
        have hE9 : ((e : Int) != 0) = true := by rw [bne_iff_ne]; omega
        have HE : Hid (R0 = .error e) := Lw.hid (by rw [← HSC.out, scan_double hq, hres])
        clear hres he0 hq
        go_wp2_with fail
        refine (HPC2.out _).mono ?_
        rintro x w2 ⟨rfl, k2⟩
        have K2 := Lw.hid (HK.out.trans k2 (fun _ _ h => h))
        clear k2
        go_wp2_with fail
        all_goals
          go_ret2
          exact resR_er HE.out rfl K2.out
      | ok r' =>
        rw [hres, resR_tup] at HPC2
        have hlen := (piece_less hres).len
        have hol := scan_len HRR.out hres (by rw [HN.out]; exact hb)
        rw [HN.out] at hol
        have HOL := Lw.hid hol
        have HSN2 : Hid (scan m .double d r' = R0) := Lw.hid (by rw [← HSC.out, scan_double hq, hres])
        have HND3 : Hid (need .double r'.length ≤ m) := Lw.hid (by have h1 := HND2.out; simp only [need, List.length_cons] at h1 ⊢; omega)
        have hrn : r'.length + (b + 1) ≤ N := by have := HLN.out; omega
        obtain ⟨t, ht⟩ : ∃ t, N - r'.length = t := ⟨_, rfl⟩
        rw [ht] at HPC2 HOL
        have htb : b < t ∧ t ≤ N := by omega
        clear hres hol hlen ht hrn hq
        go_wp2_with fail
        refine (HPC2.out _).mono ?_
        rintro x w2 ⟨rfl, k2⟩
        have K2 := Lw.hid (HK.out.trans k2 (fun _ _ h => h))
        clear k2
        go_wp2_with fail
        go_roundg (N - t)
        case measure => omega
        case rel => exact ⟨t, m, r', rfl, by first | rfl | go_num, htb.2, HOL.out.1, by have := HMN.out; omega, HND3.out, HSN2.out, K2.out⟩
set_option maxHeartbeats 16000000 in
theorem t16_brace (n : Nat) (IH : Hid (∀ k, k < n → CPc k)) : CBr n := by
  intro w s a d ha hs9 hd hn
  have hs := BA_size s
  by_cases hdp : 16 < d
  · rw [if_pos hdp]
    have hd17 : ((d : Int) > 16) := by omega
    go_enter Tryd.func130, Tryd.ntmps130
    go_wp2_with fail
    all_goals
      go_ret2
      exact resR_er rfl rfl (Kept.refl _ w)
  rw [if_neg hdp]
  have hd16 : ¬ ((d : Int) > 16) := by omega
  have hd16' : d ≤ 16 := by omega
  obtain ⟨R0, hR0⟩ : ∃ R0, scan n .brace d (s.drop a) = R0 := ⟨_, rfl⟩
  have HR0 := Lw.hid hR0
  have HND : Hid (need .brace (s.drop a).length ≤ n) := Lw.hid (by rw [List.length_drop]; exact hn)
  rw [hR0]
  obtain ⟨N, hN⟩ : ∃ N, s.length = N := ⟨_, rfl⟩
  have HN := Lw.hid hN
  rw [hN] at hs hs9 ha ⊢
  clear hR0 hdp hn hd hN
  go_enter Tryd.func130, Tryd.ntmps130
  go_wp2_with fail
  go_loopg [1] (N - a) (fun gk s1 wx => DbL w s N .brace d n R0 gk s1 wx)
  case atStart => exact ⟨a, n, _, rfl, rfl, ha, rfl, Nat.le_refl _, HND.out, HR0.out, Kept.refl _ w⟩
  case round =>
    obtain ⟨b, m, r, rfl, rfl, hb, hr, hmn, hnd, hsc, hk⟩ := hrel
    have HSC := Lw.hid hsc; have HK := Lw.hid hk; have HRR := Lw.hid hr; have HND2 := Lw.hid hnd; have HMN := Lw.hid hmn
    have hl : r.length = N - b := by rw [← hr, List.length_drop, HN.out]
    clear hsc hk hr hnd hmn HR0 HND
    obtain ⟨m, rfl⟩ : ∃ m', m = m' + 1 := ⟨m - 1, by have := HND2.out; simp only [need] at this; omega⟩
    have HPC := Lw.hid (fun wx (h : b < s.length) (hq : need (.piece false) (s.length - b) ≤ m) => IH.out m (by have := HMN.out; omega) false wx s b d h (by rw [HN.out]; exact hs9) hd16' hq)
    rw [HRR.out, HN.out] at HPC
    cases r with
    | nil =>
      have hna : N ≤ b := by simp at hl; omega
      have HE : Hid (R0 = .error 5) := Lw.hid (by rw [← HSC.out]; rfl)
      clear hl
      go_wp2_with fail
      all_goals
        go_ret2
        exact resR_er HE.out rfl HK.out
    | cons c r =>
      obtain ⟨hc0, hd1, hl1⟩ := drop_cons HRR.out
      have g0 := BA_get hc0
      have HD1 := Lw.hid hd1
      have hna : b < N := by simp at hl; omega
      have HLN : Hid (r.length + (b + 1) = N) := Lw.hid (by simp at hl; omega)
      have HRL : Hid (N - r.length = b + 1) := Lw.hid (by simp at hl; omega)
      clear hl hl1 hc0 hd1
      by_cases h10 : c = 10
      · have b10 : ((c.toNat : Int) == 10) = true := by rw [h10]; rfl
        have HE : Hid (R0 = .error 5) := Lw.hid (by rw [← HSC.out, h10]; unfold scan; simp)
        clear h10
        go_wp2_with fail
        all_goals
          go_ret2
          exact resR_er HE.out rfl HK.out
      have b10 : ((c.toNat : Int) == 10) = false := u8ne (k := 10) rfl h10
      by_cases hq : c = 125
      · have bq : ((c.toNat : Int) == 125) = true := by rw [hq]; rfl
        have HE : Hid (R0 = .ok r) := Lw.hid (by rw [← HSC.out, hq]; unfold scan; simp)
        clear hq
        go_wp2_with fail
        all_goals
          go_ret2
          exact resR_ok (w2 := w) HE.out HRL.out (by first | rfl | go_num) HK.out
      have bq : ((c.toNat : Int) == 125) = false := u8ne (k := 125) rfl hq
      by_cases hbr : braceB c = true
      · have HSN2 : Hid (scan m .brace d r = R0) := Lw.hid (by rw [← HSC.out, scan_brace1 hq h10 hbr])
        have HND3 : Hid (need .brace r.length ≤ m) := Lw.hid (by have h1 := HND2.out; simp only [need, List.length_cons] at h1 ⊢; omega)
        have hen : endB c = true ∨ c = 40 ∨ c = 41 ∨ c = 35 := by
          unfold braceB at hbr
          simpa [or_assoc] using hbr
        have HEND := Lw.hid (fun wx => t16_ends wx c)
        clear HPC hbr
        cases he : endB c with
        | true =>
          rw [he] at HEND
          clear he hen hq h10
          go_wp2_with fail
          refine (HEND.out _).mono ?_
          rintro e w2 ⟨rfl, rfl⟩
          go_wp2_with fail
          go_roundg (N - (b + 1))
          case measure => omega
          case rel => exact ⟨b + 1, m, r, rfl, by go_num, by omega, HD1.out, by have := HMN.out; omega, HND3.out, HSN2.out, HK.out⟩
        | false =>
          rw [he] at HEND hen
          rcases hen with hh | hh | hh | hh
          · cases hh
          · have b40 : ((c.toNat : Int) == 40) = true := by rw [hh]; rfl
            clear hh he hq h10
            go_wp2_with fail
            refine (HEND.out _).mono ?_
            rintro e w2 ⟨rfl, rfl⟩
            go_wp2_with fail
            go_roundg (N - (b + 1))
            case measure => omega
            case rel => exact ⟨b + 1, m, r, rfl, by go_num, by omega, HD1.out, by have := HMN.out; omega, HND3.out, HSN2.out, HK.out⟩
          · have b41 : ((c.toNat : Int) == 41) = true := by rw [hh]; rfl
            have b40 : ((c.toNat : Int) == 40) = false := by rw [hh]; rfl
            clear hh he hq h10
            go_wp2_with fail
            refine (HEND.out _).mono ?_
            rintro e w2 ⟨rfl, rfl⟩
            go_wp2_with fail
            go_roundg (N - (b + 1))
            case measure => omega
            case rel => exact ⟨b + 1, m, r, rfl, by go_num, by omega, HD1.out, by have := HMN.out; omega, HND3.out, HSN2.out, HK.out⟩
          · have b35 : ((c.toNat : Int) == 35) = true := by rw [hh]; rfl
            have b40 : ((c.toNat : Int) == 40) = false := by rw [hh]; rfl
            have b41 : ((c.toNat : Int) == 41) = false := by rw [hh]; rfl
            clear hh he hq h10
            go_wp2_with fail
            refine (HEND.out _).mono ?_
            rintro e w2 ⟨rfl, rfl⟩
            go_wp2_with fail
            go_roundg (N - (b + 1))
            case measure => omega
            case rel => exact ⟨b + 1, m, r, rfl, by go_num, by omega, HD1.out, by have := HMN.out; omega, HND3.out, HSN2.out, HK.out⟩
      have hbr0 : braceB c = false := by simpa using hbr
      have he : endB c = false := by unfold braceB at hbr0; simp at hbr0; exact hbr0.1.1.1
      have hn40 : ¬ c = 40 := fun e => by rw [e] at hbr0; exact absurd hbr0 (by decide)
      have hn41 : ¬ c = 41 := fun e => by rw [e] at hbr0; exact absurd hbr0 (by decide)
      have hn35 : ¬ c = 35 := fun e => by rw [e] at hbr0; exact absurd hbr0 (by decide)
      have b40 : ((c.toNat : Int) == 40) = false := u8ne (k := 40) rfl hn40
      have b41 : ((c.toNat : Int) == 41) = false := u8ne (k := 41) rfl hn41
      have b35 : ((c.toNat : Int) == 35) = false := u8ne (k := 35) rfl hn35
      have HEND := Lw.hid (fun wx => t16_ends wx c)
      rw [he] at HEND
      clear he hn40 hn41 hn35 hbr
      have HPC2 := Lw.hid (fun wx => HPC.out wx hna (by have h1 := HND2.out; have h2 := HLN.out; simp only [need, List.length_cons] at h1 ⊢; omega))
      clear HPC
      cases hres : scan m (.piece false) d (c :: r) with
      | error e =>
        rw [hres, resR_tupE] at HPC2
        have he0 := scan_err_ne _ _ _ _ hres
        have hE9 : ((e : Int) != 0) = true := by rw [bne_iff_ne]; omega
        have HE : Hid (R0 = .error e) := Lw.hid (by rw [← HSC.out, scan_brace2 hq h10 hbr0, hres])
        clear hres he0 hq h10 hbr0
        go_wp2_with fail
        refine (HEND.out _).mono ?_
        rintro e9 w3 ⟨rfl, hw3⟩; obtain rfl := hw3.symm
        go_wp2_with fail
        refine (HPC2.out _).mono ?_
        rintro x w2 ⟨rfl, k2⟩
        have K2 := Lw.hid (HK.out.trans k2 (fun _ _ h => h))
        clear k2
        go_wp2_with fail
        all_goals
          go_ret2
          exact resR_er HE.out rfl K2.out
      | ok r' =>
        rw [hres, resR_tup] at HPC2
        have hlen := (piece_less hres).len
        have hol := scan_len HRR.out hres (by rw [HN.out]; exact hb)
        rw [HN.out] at hol
        have HOL := Lw.hid hol
        have HSN2 : Hid (scan m .brace d r' = R0) := Lw.hid (by rw [← HSC.out, scan_brace2 hq h10 hbr0, hres])
        have HND3 : Hid (need .brace r'.length ≤ m) := Lw.hid (by have h1 := HND2.out; simp only [need, List.length_cons] at h1 ⊢; omega)
        have hrn : r'.length + (b + 1) ≤ N := by have := HLN.out; omega
        obtain ⟨t, ht⟩ : ∃ t, N - r'.length = t := ⟨_, rfl⟩
        rw [ht] at HPC2 HOL
        have htb : b < t ∧ t ≤ N := by omega
        clear hres hol hlen ht hrn hq h10 hbr0
        go_wp2_with fail
        refine (HEND.out _).mono ?_
        rintro e9 w3 ⟨rfl, hw3⟩; obtain rfl := hw3.symm
        go_wp2_with fail
        refine (HPC2.out _).mono ?_
        rintro x w2 ⟨rfl, k2⟩
        have K2 := Lw.hid (HK.out.trans k2 (fun _ _ h => h))
        clear k2
        go_wp2_with fail
        go_roundg (N - t)
        case measure => omega
        case rel => exact ⟨t, m, r', rfl, by first | rfl | go_num, htb.2, HOL.out.1, by have := HMN.out; omega, HND3.out, HSN2.out, K2.out⟩
theorem t16_all : ∀ n, CPc n ∧ CDb n ∧ CBr n := by
  intro n
  induction n using Nat.strongRecOn with
  | ind n ih =>
    have IH : Hid (∀ k, k < n → CPc k) := Lw.hid (fun k hk => (ih k hk).1)
    refine ⟨?_, t16_double n IH, t16_brace n IH⟩
    cases n with
    | zero => intro q w s a d ha hs9 hd hn; simp [need] at hn
    | succ n => exact t16_piece n (Lw.hid (ih n (Nat.lt_succ_self n)).2.1) (Lw.hid (ih n (Nat.lt_succ_self n)).2.2)
theorem t16_pieceR (w : World) (s : List UInt8) (a : Nat) (ha : a < s.length) (hs9 : s.length ≤ 1000000) :
    Calls Tryd.prog 116 #[.string (BA s), .int .i64 (a : Int), .int .i64 0, .bool false] w fun x w' => x = .returned (resR s.length (pieceR false 0 (s.drop a))) ∧ Kept (fun _ => False) w w' := by
  have h := (t16_all (need (.piece false) (s.drop a).length)).1 false w s a 0 ha hs9 (by omega) (by rw [List.length_drop]; exact Nat.le_refl _)
  exact h
end Go.Proofs.YtifcgeanippepaaDoor
