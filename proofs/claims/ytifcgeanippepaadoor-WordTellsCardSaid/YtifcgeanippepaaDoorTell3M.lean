/- WordTells: the document's lexer: a piece. -/
import Derived.Test.YtifcgeanippepaaDoorM33
namespace Go.Proofs.YtifcgeanippepaaDoor
open Go Go.RowKit Go.Lw
set_option maxRecDepth 100000
set_option linter.unusedVariables false
set_option linter.unusedSimpArgs false
attribute [local go_sem] BA_toList
/-- The contracts, for so many steps. -/
def CPc (n : Nat) : Prop := ∀ (q : Bool) (w : World) (s : List UInt8) (a d : Nat), a < s.length → s.length ≤ 1000000 → d ≤ 16 → need (.piece q) (s.length - a) ≤ n →
  Calls Tryd.prog 116 #[.string (BA s), .int .i64 (a : Int), .int .i64 (d : Int), .bool q] w fun x w' => x = .returned (resR s.length (scan n (.piece q) d (s.drop a))) ∧ Kept (fun _ => False) w w'
def CDb (n : Nat) : Prop := ∀ (w : World) (s : List UInt8) (a d : Nat), a ≤ s.length → s.length ≤ 1000000 → d ≤ 17 → need .double (s.length - a) ≤ n →
  Calls Tryd.prog 128 #[.string (BA s), .int .i64 (a : Int), .int .i64 (d : Int)] w fun x w' => x = .returned (resR s.length (if 16 < d then .error 12 else scan n .double d (s.drop a))) ∧ Kept (fun _ => False) w w'
def CBr (n : Nat) : Prop := ∀ (w : World) (s : List UInt8) (a d : Nat), a ≤ s.length → s.length ≤ 1000000 → d ≤ 17 → need .brace (s.length - a) ≤ n →
  Calls Tryd.prog 130 #[.string (BA s), .int .i64 (a : Int), .int .i64 (d : Int)] w fun x w' => x = .returned (resR s.length (if 16 < d then .error 12 else scan n .brace d (s.drop a))) ∧ Kept (fun _ => False) w w'
section
variable {n d : Nat} {q : Bool} {r : List UInt8}
theorem sp_92 : scan (n + 1) (.piece q) d (92 :: r) = pairF r := by unfold scan; simp
theorem sp_39 : scan (n + 1) (.piece false) d (39 :: r) = untilF 39 r := by unfold scan; simp
theorem sp_34 : scan (n + 1) (.piece false) d (34 :: r) = if 16 < d + 1 then .error 12 else scan n .double (d + 1) r := by
  conv => lhs; unfold scan
  simp only
  rw [if_neg (by decide), if_neg (fun e => by cases e.1), if_pos (by simp)]
theorem sp_36 : scan (n + 1) (.piece q) d (36 :: r) = if r.take 2 = [40, 40] then arithF 0 (r.drop 2)
         else if r.take 1 = [40] then .error 5
         else if r.take 1 = [123] then (if 16 < d + 1 then .error 12 else scan n .brace (d + 1) (r.drop 1))
         else if r.take 1 = [63] then .ok (r.drop 1)
         else .ok (namesF true r) := by
  conv => lhs; unfold scan
  simp only
  rw [if_neg (by decide), if_neg (fun e => by cases e.1), if_neg (fun e => by cases e.1), if_pos trivial]
theorem sp_bad {c : UInt8} (h : c = 96 ∨ q = false ∧ (c = 40 ∨ c = 41)) : scan (n + 1) (.piece q) d (c :: r) = .error 5 := by
  have h1 : ¬ c = 92 := by rcases h with rfl | ⟨_, rfl | rfl⟩ <;> decide
  have h2 : ¬ c = 39 := by rcases h with rfl | ⟨_, rfl | rfl⟩ <;> decide
  have h3 : ¬ c = 34 := by rcases h with rfl | ⟨_, rfl | rfl⟩ <;> decide
  have h4 : ¬ c = 36 := by rcases h with rfl | ⟨_, rfl | rfl⟩ <;> decide
  unfold scan
  simp only
  rw [if_neg h1, if_neg (fun e => h2 e.1), if_neg (fun e => h3 e.1), if_neg h4, if_pos h]
theorem sp_else {c : UInt8} (h1 : ¬ c = 92) (h2 : ¬ (c = 39 ∧ q = false)) (h3 : ¬ (c = 34 ∧ q = false)) (h4 : ¬ c = 36) (h5 : ¬ (c = 96 ∨ q = false ∧ (c = 40 ∨ c = 41))) : scan (n + 1) (.piece q) d (c :: r) = .ok r := by
  unfold scan
  simp only
  rw [if_neg h1, if_neg h2, if_neg h3, if_neg h4, if_neg h5]
end
theorem resR_ok {N b : Nat} {r : List UInt8} {R : Rs} {w w' w2 : World} (h : R = .ok r) (hb : N - r.length = b) {B : Int} (hB : B = (b : Int)) (hk : Kept (fun _ => False) w w') : Ending.returned (.tuple #[.int .i64 B, .int .i64 0]) = .returned (resR N R) ∧ Kept (fun _ => False) w w' := by
  subst h; subst hb; subst hB; exact ⟨rfl, hk⟩
theorem resR_er {N e : Nat} {R : Rs} {w w' : World} (h : R = .error e) {E : Int} (hE : E = (e : Int)) (hk : Kept (fun _ => False) w w') : Ending.returned (.tuple #[.int .i64 0, .int .i64 E]) = .returned (resR N R) ∧ Kept (fun _ => False) w w' := by
  subst h; subst hE; exact ⟨rfl, hk⟩
theorem hd_take1 {r : List UInt8} {k : UInt8} (hk : k ≠ 0) : (r.take 1 = [k]) ↔ hd16 r = k := by
  cases r with
  | nil => exact ⟨fun h => by simp at h, fun h => absurd h.symm hk⟩
  | cons c r => simp [hd16]
theorem hd_take2 {r : List UInt8} {k j : UInt8} (hk : k ≠ 0) (hj : j ≠ 0) : (r.take 2 = [k, j]) ↔ (hd16 r = k ∧ hd16 (r.drop 1) = j) := by
  cases r with
  | nil => exact ⟨fun h => by simp at h, fun h => absurd h.1.symm hk⟩
  | cons c r =>
    cases r with
    | nil => exact ⟨fun h => by simp at h, fun h => absurd h.2.symm hj⟩
    | cons c2 r => simp [hd16]
theorem hd_letter {r : List UInt8} {b : Bool} (h : letterB (hd16 r) b = true) : ∃ c r', r = c :: r' ∧ letterB c b = true := by
  cases r with
  | nil => exfalso; revert h; cases b <;> decide
  | cons c r => exact ⟨c, r, rfl, h⟩
theorem letter_weak16 {c : UInt8} (h : letterB c true = true) : letterB c false = true := by
  unfold letterB at h ⊢
  simp at h
  simp [h]
set_option maxHeartbeats 40000000 in
theorem t16_piece (n : Nat) (HD : Hid (CDb n)) (HB : Hid (CBr n)) : CPc (n + 1) := by
  intro q w s a d ha hs9 hd hn
  have hs := BA_size s
  obtain ⟨c, r, hr⟩ : ∃ c r, s.drop a = c :: r := by
    cases h : s.drop a with
    | nil => have := congrArg List.length h; simp at this; omega
    | cons c r => exact ⟨c, r, rfl⟩
  obtain ⟨hc0, hd1, hl1⟩ := drop_cons hr
  have g0 := BA_get hc0
  have HAT := Lw.hid (fun wx => t16_at wx s (a + 1) hs9 (by omega))
  have HAT1 := Lw.hid (fun wx => t16_at wx s (a + 2) hs9 (by omega))
  have HFI := Lw.hid (fun wx => t16_find wx s (a + 1) 39 hs9 (by omega))
  have HDB := Lw.hid (fun wx => HD.out wx s (a + 1) (d + 1) (by omega) hs9 (by omega) (by simp only [need] at hn ⊢; omega))
  have hd2 : s.drop (a + 2) = r.drop 1 := by rw [← hd1, List.drop_drop]
  have hd3 : s.drop (a + 3) = r.drop 2 := by rw [← hd1, List.drop_drop]
  have HAR := Lw.hid (fun wx (h : a + 3 ≤ s.length) => t16_arith wx s (a + 3) hs9 h)
  have HBR := Lw.hid (fun wx (h : a + 2 ≤ s.length) => HB.out wx s (a + 2) (d + 1) h hs9 (by omega) (by simp only [need] at hn ⊢; omega))
  rw [hd1] at HAT HFI HDB
  rw [hd2] at HAT1 HBR
  rw [hd3] at HAR
  rw [hr]
  obtain ⟨N, hN⟩ : ∃ N, s.length = N := ⟨_, rfl⟩
  have HN := Lw.hid hN
  rw [hN] at hs ha hs9 hl1 HFI HDB HAR HBR ⊢
  have hna : a < N := by omega
  have HRL : Hid (N - r.length = a + 1) := Lw.hid (by omega)
  have HLN : Hid (a + r.length + 1 = N) := Lw.hid hl1
  obtain ⟨R0, hR0⟩ : ∃ R0, scan (n + 1) (.piece q) d (c :: r) = R0 := ⟨_, rfl⟩
  have HSC := Lw.hid hR0
  have HD1 := Lw.hid hd1; have HD2 := Lw.hid hd2
  rw [hR0]
  clear hR0 hN hn hr hc0 hd1 hd2 hd3 HD HB hl1
  have ne := fun (k : UInt8) (h : ¬ c = k) => @u8ne c k _ rfl h
  have HNE := Lw.hid ne
  clear ne
  by_cases h : c = 92
  · skip
    have b92 : ((c.toNat : Int) == 92) = true := by rw [h]; rfl
    have b39 : ((c.toNat : Int) == 39) = false := by rw [h]; rfl
    have b34 : ((c.toNat : Int) == 34) = false := by rw [h]; rfl
    have b96 : ((c.toNat : Int) == 96) = false := by rw [h]; rfl
    have b40 : ((c.toNat : Int) == 40) = false := by rw [h]; rfl
    have b41 : ((c.toNat : Int) == 41) = false := by rw [h]; rfl
    have b36 : ((c.toNat : Int) == 36) = false := by rw [h]; rfl
    have HP : Hid (R0 = pairF r) := Lw.hid (by rw [← HSC.out, h]; exact sp_92)
    clear h
    cases r with
    | nil =>
      have hge : N ≤ a + 1 := by have := HLN.out; simp at this; omega
      have HE : Hid (R0 = .error 5) := Lw.hid HP.out
      go_enter Tryd.func116, Tryd.ntmps116
      go_wp2_with fail
      all_goals
        go_ret2
        exact resR_er HE.out rfl (Kept.refl _ w)
    | cons e r =>
      have hlt : a + 1 < N := by have := HLN.out; simp at this; omega
      have g1 := BA_get (l := s) (k := a + 1) (c := e) (by rw [← List.head?_drop, HD1.out]; rfl)
      have HRL2 : Hid (N - r.length = a + 2) := Lw.hid (by have := HLN.out; simp at this; omega)
      by_cases h10 : e = 10
      · have c10 : ((e.toNat : Int) == 10) = true := by rw [h10]; rfl
        have HE : Hid (R0 = .error 5) := Lw.hid (by rw [HP.out]; exact if_pos h10)
        clear h10
        go_enter Tryd.func116, Tryd.ntmps116
        go_wp2_with fail
        all_goals
          go_ret2
          exact resR_er HE.out rfl (Kept.refl _ w)
      · have c10 : ((e.toNat : Int) == 10) = false := u8ne (k := 10) rfl h10
        have HE : Hid (R0 = .ok r) := Lw.hid (by rw [HP.out]; exact if_neg h10)
        clear h10
        go_enter Tryd.func116, Tryd.ntmps116
        go_wp2_with fail
        all_goals
          go_ret2
          exact resR_ok (w2 := w) HE.out HRL2.out (by first | rfl | go_num) (Kept.refl _ w)
  have b92 : ((c.toNat : Int) == 92) = false := u8ne (k := 92) rfl h
  have h92 := h
  clear h
  by_cases h : c = 39
  · skip
    have b92 : ((c.toNat : Int) == 92) = false := by rw [h]; rfl
    have b39 : ((c.toNat : Int) == 39) = true := by rw [h]; rfl
    have b34 : ((c.toNat : Int) == 34) = false := by rw [h]; rfl
    have b96 : ((c.toNat : Int) == 96) = false := by rw [h]; rfl
    have b40 : ((c.toNat : Int) == 40) = false := by rw [h]; rfl
    have b41 : ((c.toNat : Int) == 41) = false := by rw [h]; rfl
    have b36 : ((c.toNat : Int) == 36) = false := by rw [h]; rfl
    cases q with
    | false =>
      have HP : Hid (untilF 39 r = R0) := Lw.hid (by rw [← HSC.out, h]; exact sp_39.symm)
      clear h
      rw [HP.out] at HFI
      go_enter Tryd.func116, Tryd.ntmps116
      go_wp2_with fail
      refine (HFI.out _).mono ?_
      rintro x w2 ⟨rfl, k2⟩
      have K2 := Lw.hid k2
      clear k2
      cases R0 with
      | ok r2 =>
        unfold resR
        go_wp2_with fail
        go_ret2
        exact ⟨rfl, K2.out⟩
      | error e2 =>
        unfold resR
        go_wp2_with fail
        go_ret2
        exact ⟨rfl, K2.out⟩
    | true =>
      have HE : Hid (R0 = .ok r) := Lw.hid (by rw [← HSC.out]; exact sp_else (by rw [h]; decide) (fun e => by cases e.2) (fun e => by cases e.2) (by rw [h]; decide) (by rw [h]; decide))
      clear h
      go_enter Tryd.func116, Tryd.ntmps116
      go_wp2_with fail
      all_goals
        go_ret2
        exact resR_ok (w2 := w) HE.out HRL.out (by first | rfl | go_num) (Kept.refl _ w)
  have b39 : ((c.toNat : Int) == 39) = false := u8ne (k := 39) rfl h
  have h39 := h
  clear h
  by_cases h : c = 34
  · skip
    have b92 : ((c.toNat : Int) == 92) = false := by rw [h]; rfl
    have b39 : ((c.toNat : Int) == 39) = false := by rw [h]; rfl
    have b34 : ((c.toNat : Int) == 34) = true := by rw [h]; rfl
    have b96 : ((c.toNat : Int) == 96) = false := by rw [h]; rfl
    have b40 : ((c.toNat : Int) == 40) = false := by rw [h]; rfl
    have b41 : ((c.toNat : Int) == 41) = false := by rw [h]; rfl
    have b36 : ((c.toNat : Int) == 36) = false := by rw [h]; rfl
    cases q with
    | false =>
      have HP : Hid ((if 16 < d + 1 then .error 12 else scan n .double (d + 1) r : Rs) = R0) := Lw.hid (by rw [← HSC.out, h]; exact sp_34.symm)
      clear h
      rw [HP.out] at HDB
      go_enter Tryd.func116, Tryd.ntmps116
      go_wp2_with fail
      refine (HDB.out _).mono ?_
      rintro x w2 ⟨rfl, k2⟩
      have K2 := Lw.hid k2
      clear k2
      cases R0 with
      | ok r2 =>
        unfold resR
        go_wp2_with fail
        go_ret2
        exact ⟨rfl, K2.out⟩
      | error e2 =>
        unfold resR
        go_wp2_with fail
        go_ret2
        exact ⟨rfl, K2.out⟩
    | true =>
      have HE : Hid (R0 = .ok r) := Lw.hid (by rw [← HSC.out]; exact sp_else (by rw [h]; decide) (fun e => by cases e.2) (fun e => by cases e.2) (by rw [h]; decide) (by rw [h]; decide))
      clear h
      go_enter Tryd.func116, Tryd.ntmps116
      go_wp2_with fail
      all_goals
        go_ret2
        exact resR_ok (w2 := w) HE.out HRL.out (by first | rfl | go_num) (Kept.refl _ w)
  have b34 : ((c.toNat : Int) == 34) = false := u8ne (k := 34) rfl h
  have h34 := h
  clear h
  by_cases h : c = 96
  · skip
    have b92 : ((c.toNat : Int) == 92) = false := by rw [h]; rfl
    have b39 : ((c.toNat : Int) == 39) = false := by rw [h]; rfl
    have b34 : ((c.toNat : Int) == 34) = false := by rw [h]; rfl
    have b96 : ((c.toNat : Int) == 96) = true := by rw [h]; rfl
    have b40 : ((c.toNat : Int) == 40) = false := by rw [h]; rfl
    have b41 : ((c.toNat : Int) == 41) = false := by rw [h]; rfl
    have b36 : ((c.toNat : Int) == 36) = false := by rw [h]; rfl
    have HE : Hid (R0 = .error 5) := Lw.hid (by rw [← HSC.out]; exact sp_bad (.inl h))
    clear h
    go_enter Tryd.func116, Tryd.ntmps116
    go_wp2_with fail
    all_goals
      go_ret2
      exact resR_er HE.out rfl (Kept.refl _ w)
  have b96 : ((c.toNat : Int) == 96) = false := u8ne (k := 96) rfl h
  have h96 := h
  clear h
  by_cases h : c = 40
  · skip
    have b92 : ((c.toNat : Int) == 92) = false := by rw [h]; rfl
    have b39 : ((c.toNat : Int) == 39) = false := by rw [h]; rfl
    have b34 : ((c.toNat : Int) == 34) = false := by rw [h]; rfl
    have b96 : ((c.toNat : Int) == 96) = false := by rw [h]; rfl
    have b40 : ((c.toNat : Int) == 40) = true := by rw [h]; rfl
    have b41 : ((c.toNat : Int) == 41) = false := by rw [h]; rfl
    have b36 : ((c.toNat : Int) == 36) = false := by rw [h]; rfl
    cases q with
    | false =>
      have HE : Hid (R0 = .error 5) := Lw.hid (by rw [← HSC.out]; exact sp_bad (.inr ⟨rfl, .inl h⟩))
      clear h
      go_enter Tryd.func116, Tryd.ntmps116
      go_wp2_with fail
      all_goals
        go_ret2
        exact resR_er HE.out rfl (Kept.refl _ w)
    | true =>
      have HE : Hid (R0 = .ok r) := Lw.hid (by rw [← HSC.out]; exact sp_else (by rw [h]; decide) (fun e => by cases e.2) (fun e => by cases e.2) (by rw [h]; decide) (by rw [h]; decide))
      clear h
      go_enter Tryd.func116, Tryd.ntmps116
      go_wp2_with fail
      all_goals
        go_ret2
        exact resR_ok (w2 := w) HE.out HRL.out (by first | rfl | go_num) (Kept.refl _ w)
  have b40 : ((c.toNat : Int) == 40) = false := u8ne (k := 40) rfl h
  have h40 := h
  clear h
  by_cases h : c = 41
  · skip
    have b92 : ((c.toNat : Int) == 92) = false := by rw [h]; rfl
    have b39 : ((c.toNat : Int) == 39) = false := by rw [h]; rfl
    have b34 : ((c.toNat : Int) == 34) = false := by rw [h]; rfl
    have b96 : ((c.toNat : Int) == 96) = false := by rw [h]; rfl
    have b40 : ((c.toNat : Int) == 40) = false := by rw [h]; rfl
    have b41 : ((c.toNat : Int) == 41) = true := by rw [h]; rfl
    have b36 : ((c.toNat : Int) == 36) = false := by rw [h]; rfl
    cases q with
    | false =>
      have HE : Hid (R0 = .error 5) := Lw.hid (by rw [← HSC.out]; exact sp_bad (.inr ⟨rfl, .inr h⟩))
      clear h
      go_enter Tryd.func116, Tryd.ntmps116
      go_wp2_with fail
      all_goals
        go_ret2
        exact resR_er HE.out rfl (Kept.refl _ w)
    | true =>
      have HE : Hid (R0 = .ok r) := Lw.hid (by rw [← HSC.out]; exact sp_else (by rw [h]; decide) (fun e => by cases e.2) (fun e => by cases e.2) (by rw [h]; decide) (by rw [h]; decide))
      clear h
      go_enter Tryd.func116, Tryd.ntmps116
      go_wp2_with fail
      all_goals
        go_ret2
        exact resR_ok (w2 := w) HE.out HRL.out (by first | rfl | go_num) (Kept.refl _ w)
  have b41 : ((c.toNat : Int) == 41) = false := u8ne (k := 41) rfl h
  have h41 := h
  clear h
  by_cases h : c = 36
  · skip
    have b92 : ((c.toNat : Int) == 92) = false := by rw [h]; rfl
    have b39 : ((c.toNat : Int) == 39) = false := by rw [h]; rfl
    have b34 : ((c.toNat : Int) == 34) = false := by rw [h]; rfl
    have b96 : ((c.toNat : Int) == 96) = false := by rw [h]; rfl
    have b40 : ((c.toNat : Int) == 40) = false := by rw [h]; rfl
    have b41 : ((c.toNat : Int) == 41) = false := by rw [h]; rfl
    have b36 : ((c.toNat : Int) == 36) = true := by rw [h]; rfl
    have HP : Hid (R0 = scan (n + 1) (.piece q) d (36 :: r)) := Lw.hid (by rw [← HSC.out, h])
    clear h
    have HX : Hid (∀ k : UInt8, hd16 r = k → ((hd16 r).toNat : Int) = (k.toNat : Int)) := Lw.hid (fun k e => by rw [e])
    obtain ⟨x, hx⟩ : ∃ x, hd16 r = x := ⟨_, rfl⟩
    obtain ⟨y, hy⟩ : ∃ y, hd16 (r.drop 1) = y := ⟨_, rfl⟩
    rw [hx] at HAT
    rw [hy] at HAT1
    have HXX := Lw.hid hx; have HYY := Lw.hid hy
    clear hx hy HX
    by_cases h40 : x = 40
    · have x40 : ((x.toNat : Int) == 40) = true := by rw [h40]; rfl
      by_cases h41 : y = 40
      · have y40 : ((y.toNat : Int) == 40) = true := by rw [h41]; rfl
        have ht : r.take 2 = [40, 40] := (hd_take2 (by decide) (by decide)).2 ⟨by rw [HXX.out, h40], by rw [HYY.out, h41]⟩
        have h3 : a + 3 ≤ N := by have h5 := HLN.out; have h6 := congrArg List.length ht; rw [List.length_take] at h6; simp at h6; omega
        have HE : Hid (arithF 0 (r.drop 2) = R0) := Lw.hid (by rw [HP.out, sp_36, if_pos ht])
        have HAR2 := Lw.hid (fun wx => HAR.out wx h3)
        rw [HE.out] at HAR2
        clear ht h40 h41 HAR
        go_enter Tryd.func116, Tryd.ntmps116
        go_wp2_with fail
        refine (HAT.out _).mono ?_
        rintro e w2 ⟨rfl, hw2⟩; obtain rfl := hw2.symm
        go_wp2_with fail
        refine (HAT1.out _).mono ?_
        rintro e w2 ⟨rfl, hw2⟩; obtain rfl := hw2.symm
        go_wp2_with fail
        refine (HAR2.out _).mono ?_
        rintro x2 w3 ⟨rfl, k2⟩
        have K2 := Lw.hid k2
        clear k2
        cases R0 with
        | ok r2 =>
          unfold resR
          go_wp2_with fail
          go_ret2
          exact ⟨rfl, K2.out⟩
        | error e2 =>
          unfold resR
          go_wp2_with fail
          go_ret2
          exact ⟨rfl, K2.out⟩
      · have y40 : ((y.toNat : Int) == 40) = false := u8ne (k := 40) rfl h41
        have HE : Hid (R0 = .error 5) := Lw.hid (by rw [HP.out, sp_36, if_neg (fun e => h41 (HYY.out.symm.trans ((hd_take2 (by decide) (by decide)).1 e).2)), if_pos ((hd_take1 (by decide)).2 (by rw [HXX.out, h40]))])
        clear h40 h41
        go_enter Tryd.func116, Tryd.ntmps116
        go_wp2_with fail
        refine (HAT.out _).mono ?_
        rintro e w2 ⟨rfl, hw2⟩; obtain rfl := hw2.symm
        go_wp2_with fail
        refine (HAT1.out _).mono ?_
        rintro e w2 ⟨rfl, hw2⟩; obtain rfl := hw2.symm
        go_wp2_with fail
        refine (HAT.out _).mono ?_
        rintro e w2 ⟨rfl, hw2⟩; obtain rfl := hw2.symm
        go_wp2_with fail
        all_goals
          go_ret2
          exact resR_er HE.out rfl (Kept.refl _ w)
    have x40 : ((x.toNat : Int) == 40) = false := u8ne (k := 40) rfl h40
    have HN2 : Hid (¬ r.take 2 = [40, 40] ∧ ¬ r.take 1 = [40]) := Lw.hid ⟨fun e => h40 (HXX.out.symm.trans ((hd_take2 (by decide) (by decide)).1 e).1), fun e => h40 (HXX.out.symm.trans ((hd_take1 (by decide)).1 e))⟩
    clear h40
    by_cases h123 : x = 123
    · have x123 : ((x.toNat : Int) == 123) = true := by rw [h123]; rfl
      have ht : r.take 1 = [123] := (hd_take1 (by decide)).2 (by rw [HXX.out, h123])
      have h2 : a + 2 ≤ N := by have h5 := HLN.out; have h6 := congrArg List.length ht; rw [List.length_take] at h6; simp at h6; omega
      have HE : Hid ((if 16 < d + 1 then .error 12 else scan n .brace (d + 1) (r.drop 1) : Rs) = R0) := Lw.hid (by rw [HP.out, sp_36, if_neg HN2.out.1, if_neg HN2.out.2, if_pos ht])
      have HBR2 := Lw.hid (fun wx => HBR.out wx h2)
      rw [HE.out] at HBR2
      clear ht h123 HBR
      go_enter Tryd.func116, Tryd.ntmps116
      go_wp2_with fail
      refine (HAT.out _).mono ?_
      rintro e w2 ⟨rfl, hw2⟩; obtain rfl := hw2.symm
      go_wp2_with fail
      refine (HAT.out _).mono ?_
      rintro e w2 ⟨rfl, hw2⟩; obtain rfl := hw2.symm
      go_wp2_with fail
      refine (HAT.out _).mono ?_
      rintro e w2 ⟨rfl, hw2⟩; obtain rfl := hw2.symm
      go_wp2_with fail
      refine (HBR2.out _).mono ?_
      rintro x2 w3 ⟨rfl, k2⟩
      have K2 := Lw.hid k2
      clear k2
      cases R0 with
      | ok r2 =>
        unfold resR
        go_wp2_with fail
        go_ret2
        exact ⟨rfl, K2.out⟩
      | error e2 =>
        unfold resR
        go_wp2_with fail
        go_ret2
        exact ⟨rfl, K2.out⟩
    have x123 : ((x.toNat : Int) == 123) = false := u8ne (k := 123) rfl h123
    have HN3 : Hid (¬ r.take 1 = [123]) := Lw.hid (fun e => h123 (HXX.out.symm.trans ((hd_take1 (by decide)).1 e)))
    clear h123
    by_cases h63 : x = 63
    · have x63 : ((x.toNat : Int) == 63) = true := by rw [h63]; rfl
      have ht : r.take 1 = [63] := (hd_take1 (by decide)).2 (by rw [HXX.out, h63])
      have HE : Hid (R0 = .ok (r.drop 1)) := Lw.hid (by rw [HP.out, sp_36, if_neg HN2.out.1, if_neg HN2.out.2, if_neg HN3.out, if_pos ht])
      have HRL2 : Hid (N - (r.drop 1).length = a + 2) := Lw.hid (by have h5 := HLN.out; have h6 := congrArg List.length ht; rw [List.length_take] at h6; rw [List.length_drop]; simp at h6; omega)
      clear ht h63
      go_enter Tryd.func116, Tryd.ntmps116
      go_wp2_with fail
      refine (HAT.out _).mono ?_
      rintro e w2 ⟨rfl, hw2⟩; obtain rfl := hw2.symm
      go_wp2_with fail
      refine (HAT.out _).mono ?_
      rintro e w2 ⟨rfl, hw2⟩; obtain rfl := hw2.symm
      go_wp2_with fail
      refine (HAT.out _).mono ?_
      rintro e w2 ⟨rfl, hw2⟩; obtain rfl := hw2.symm
      go_wp2_with fail
      refine (HAT.out _).mono ?_
      rintro e w2 ⟨rfl, hw2⟩; obtain rfl := hw2.symm
      go_wp2_with fail
      all_goals
        go_ret2
        exact resR_ok (w2 := w) HE.out HRL2.out (by first | rfl | go_num) (Kept.refl _ w)
    have x63 : ((x.toNat : Int) == 63) = false := u8ne (k := 63) rfl h63
    have HNM : Hid (R0 = .ok (namesF true r)) := Lw.hid (by rw [HP.out, sp_36, if_neg HN2.out.1, if_neg HN2.out.2, if_neg HN3.out, if_neg (fun e => h63 (HXX.out.symm.trans ((hd_take1 (by decide)).1 e)))])
    clear h63
    cases hst : letterB x true with
    | false =>
      have HSTF : Hid (Calls Tryd.prog 131 #[.int .u8 (x.toNat : Int)] w fun e w' => e = .returned (.bool false) ∧ w' = w) := Lw.hid (by have := t16_start w x; rw [hst] at this; exact this)
      have HE : Hid (R0 = .ok r) := Lw.hid (by
        rw [HNM.out]
        cases r with
        | nil => rfl
        | cons c2 r2 =>
          have : c2 = x := HXX.out
          rw [names_stop (by rw [this]; exact hst)])
      clear hst
      go_enter Tryd.func116, Tryd.ntmps116
      go_wp2_with fail
      refine (HAT.out _).mono ?_
      rintro e w2 ⟨rfl, hw2⟩; obtain rfl := hw2.symm
      go_wp2_with fail
      refine (HAT.out _).mono ?_
      rintro e w2 ⟨rfl, hw2⟩; obtain rfl := hw2.symm
      go_wp2_with fail
      refine (HAT.out _).mono ?_
      rintro e w2 ⟨rfl, hw2⟩; obtain rfl := hw2.symm
      go_wp2_with fail
      refine (HAT.out _).mono ?_
      rintro e w2 ⟨rfl, hw2⟩; obtain rfl := hw2.symm
      go_wp2_with fail
      refine (HAT.out _).mono ?_
      rintro e w2 ⟨rfl, hw2⟩; obtain rfl := hw2.symm
      go_wp2_with fail
      refine HSTF.out.mono ?_
      rintro e w2 ⟨rfl, hw2⟩; obtain rfl := hw2.symm
      go_wp2_with fail
      all_goals
        go_ret2
        exact resR_ok (w2 := w) HE.out HRL.out (by first | rfl | go_num) (Kept.refl _ w)
    | true =>
      have HSTT : Hid (Calls Tryd.prog 131 #[.int .u8 (x.toNat : Int)] w fun e w' => e = .returned (.bool true) ∧ w' = w) := Lw.hid (by have := t16_start w x; rw [hst] at this; exact this)
      obtain ⟨c1, r1, hr1, hl1⟩ := hd_letter (r := r) (b := true) (by rw [HXX.out]; exact hst)
      have HST : Hid (∃ R, R0 = .ok R ∧ namesF false r = R) := Lw.hid ⟨_, HNM.out, by rw [hr1, names_step hl1, names_step (letter_weak16 hl1)]⟩
      clear hr1 hl1 hst
      go_enter Tryd.func116, Tryd.ntmps116
      go_wp2_with fail
      refine (HAT.out _).mono ?_
      rintro e w2 ⟨rfl, hw2⟩; obtain rfl := hw2.symm
      go_wp2_with fail
      refine (HAT.out _).mono ?_
      rintro e w2 ⟨rfl, hw2⟩; obtain rfl := hw2.symm
      go_wp2_with fail
      refine (HAT.out _).mono ?_
      rintro e w2 ⟨rfl, hw2⟩; obtain rfl := hw2.symm
      go_wp2_with fail
      refine (HAT.out _).mono ?_
      rintro e w2 ⟨rfl, hw2⟩; obtain rfl := hw2.symm
      go_wp2_with fail
      refine (HAT.out _).mono ?_
      rintro e w2 ⟨rfl, hw2⟩; obtain rfl := hw2.symm
      go_wp2_with fail
      refine HSTT.out.mono ?_
      rintro e w2 ⟨rfl, hw2⟩; obtain rfl := hw2.symm
      go_wp2_with fail
      go_loopg [1] (N - (a + 1)) (fun gk s1 wx => ∃ (b : Nat) (r' : List UInt8), gk = N - b ∧ s1 = .int .i64 (b : Int) ∧ b ≤ N ∧ s.drop b = r' ∧ (∃ R, R0 = .ok R ∧ namesF false r' = R) ∧ Kept (fun _ => False) w wx)
      case atStart => exact ⟨a + 1, r, rfl, by first | rfl | go_num, by omega, HD1.out, HST.out, Kept.refl _ w⟩
      case round =>
        obtain ⟨b, r', rfl, rfl, hb, hr', hR, hk⟩ := hrel
        have HR := Lw.hid hR; have HK := Lw.hid hk; have HRR := Lw.hid hr'
        have HA := Lw.hid (fun wx => t16_at wx s b (by rw [HN.out]; exact hs9) (by omega))
        rw [hr'] at HA
        have hl : r'.length = N - b := by rw [← hr', List.length_drop, HN.out]
        have HLL := Lw.hid hl
        obtain ⟨z, hz⟩ : ∃ z, hd16 r' = z := ⟨_, rfl⟩
        rw [hz] at HA
        have HZ := Lw.hid hz
        clear hR hk hr' hz HST hl
        have HS1 := Lw.hid (fun wx => t16_start wx z)
        have HS2 := Lw.hid (fun wx => t16_digit wx z)
        cases h1 : letterB z true with
        | true =>
          rw [h1] at HS1
          have hls : letterB z false = true := letter_weak16 h1
          clear h1
          obtain ⟨c2, r2, hr2, hl2⟩ := hd_letter (r := r') (b := false) (by rw [HZ.out]; exact hls)
          have hd2' : s.drop (b + 1) = r2 := by rw [← List.drop_drop, HRR.out, hr2]; rfl
          have HD9 := Lw.hid hd2'
          have HR9 : Hid (∃ R, R0 = .ok R ∧ namesF false r2 = R) := Lw.hid (by obtain ⟨R, e1, e2⟩ := HR.out; exact ⟨R, e1, by rw [← e2, hr2, names_step hl2]⟩)
          have hbN : b < N := by have := HLL.out; rw [hr2] at this; simp at this; omega
          clear hls hr2 hl2 hd2'
          go_wp2_with fail
          refine (HA.out _).mono ?_
          rintro e w2 ⟨rfl, hw2⟩; obtain rfl := hw2.symm
          go_wp2_with fail
          refine (HS1.out _).mono ?_
          rintro e w2 ⟨rfl, hw2⟩; obtain rfl := hw2.symm
          go_wp2_with fail
          go_roundg (N - (b + 1))
          case measure => omega
          case rel => exact ⟨b + 1, r2, rfl, by go_num, hbN, HD9.out, HR9.out, HK.out⟩
        | false =>
          rw [h1] at HS1
          cases h2 : digitB z with
          | true =>
            rw [h2] at HS2
            have hls : letterB z false = true := by unfold letterB; rw [h2]; simp
            clear h1 h2
            obtain ⟨c2, r2, hr2, hl2⟩ := hd_letter (r := r') (b := false) (by rw [HZ.out]; exact hls)
            have hd2' : s.drop (b + 1) = r2 := by rw [← List.drop_drop, HRR.out, hr2]; rfl
            have HD9 := Lw.hid hd2'
            have HR9 : Hid (∃ R, R0 = .ok R ∧ namesF false r2 = R) := Lw.hid (by obtain ⟨R, e1, e2⟩ := HR.out; exact ⟨R, e1, by rw [← e2, hr2, names_step hl2]⟩)
            have hbN : b < N := by have := HLL.out; rw [hr2] at this; simp at this; omega
            clear hls hr2 hl2 hd2'
            go_wp2_with fail
            refine (HA.out _).mono ?_
            rintro e w2 ⟨rfl, hw2⟩; obtain rfl := hw2.symm
            go_wp2_with fail
            refine (HS1.out _).mono ?_
            rintro e w2 ⟨rfl, hw2⟩; obtain rfl := hw2.symm
            go_wp2_with fail
            refine (HA.out _).mono ?_
            rintro e w2 ⟨rfl, hw2⟩; obtain rfl := hw2.symm
            go_wp2_with fail
            refine (HS2.out _).mono ?_
            rintro e w2 ⟨rfl, hw2⟩; obtain rfl := hw2.symm
            go_wp2_with fail
            go_roundg (N - (b + 1))
            case measure => omega
            case rel => exact ⟨b + 1, r2, rfl, by go_num, hbN, HD9.out, HR9.out, HK.out⟩
          | false =>
            rw [h2] at HS2
            have hls : letterB z false = false := by unfold letterB at h1 ⊢; rw [h2]; simp at h1 ⊢; exact h1
            have HE : Hid (R0 = .ok r') := Lw.hid (by
              obtain ⟨R, e1, e2⟩ := HR.out
              rw [e1, ← e2]
              have hz := HZ.out
              cases r' with
              | nil => rfl
              | cons c2 r2 =>
                have : c2 = z := hz
                rw [names_stop (by rw [this]; exact hls)])
            have HB9 : Hid (N - r'.length = b) := Lw.hid (by have := HLL.out; omega)
            clear hls h1 h2
            go_wp2_with fail
            refine (HA.out _).mono ?_
            rintro e w2 ⟨rfl, hw2⟩; obtain rfl := hw2.symm
            go_wp2_with fail
            refine (HS1.out _).mono ?_
            rintro e w2 ⟨rfl, hw2⟩; obtain rfl := hw2.symm
            go_wp2_with fail
            refine (HA.out _).mono ?_
            rintro e w2 ⟨rfl, hw2⟩; obtain rfl := hw2.symm
            go_wp2_with fail
            refine (HS2.out _).mono ?_
            rintro e w2 ⟨rfl, hw2⟩; obtain rfl := hw2.symm
            go_wp2_with fail
            all_goals
              go_ret2
              exact resR_ok (w2 := w) HE.out HB9.out (by first | rfl | go_num) HK.out
  have b36 : ((c.toNat : Int) == 36) = false := u8ne (k := 36) rfl h
  have h36 := h
  clear h
  have HE : Hid (R0 = .ok r) := Lw.hid (by rw [← HSC.out]; exact sp_else h92 (fun e => h39 e.1) (fun e => h34 e.1) h36 (fun e => e.elim h96 (fun e => e.2.elim h40 h41)))
  clear h92 h39 h34 h36 h96 h40 h41
  cases q
  all_goals
    go_enter Tryd.func116, Tryd.ntmps116
    go_wp2_with fail
    all_goals
      go_ret2
      exact resR_ok (w2 := w) HE.out HRL.out (by first | rfl | go_num) (Kept.refl _ w)
end Go.Proofs.YtifcgeanippepaaDoor
