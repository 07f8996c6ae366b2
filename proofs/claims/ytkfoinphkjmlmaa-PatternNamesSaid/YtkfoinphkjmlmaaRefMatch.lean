/- longwireref21.match. -/
import Derived.Test.YtkfoinphkjmlmaaRefAlive
namespace Go.Proofs.Ytkfoinphkjmlmaa
open Go Go.RowKit Go.Lw
set_option maxRecDepth 100000
set_option linter.unusedVariables false
attribute [local go_sem] BA_toList
/-- A pattern's pieces, all of them. -/
def PL (r : List UInt8) : List Pc := piecesF r.length r
theorem PL_nil : PL [] = [] := rfl
theorem PL_cons (c : UInt8) (cs : List UInt8) : PL (c :: cs) = (pieceF c cs).1 :: PL (pieceF c cs).2 := by
  unfold PL
  show (pieceF c cs).1 :: piecesF cs.length (pieceF c cs).2 = _
  rw [piecesF_fuel cs.length (pieceF c cs).2.length _ (pieceF_len c cs) (Nat.le_refl _)]
theorem piece_star {c : UInt8} (h : c.toNat = 42) (cs : List UInt8) : pieceF c cs = (⟨true, false, noneF⟩, cs) := if_pos h
theorem piece_quest {c : UInt8} (h : c.toNat = 63) (cs : List UInt8) : pieceF c cs = (⟨false, false, fun _ => true⟩, cs) := by
  unfold pieceF; rw [if_neg (by omega), if_pos h]
theorem piece_set' {c : UInt8} (h : c.toNat = 91) {cs r : List UInt8} {g : Nat → Bool} (hc : closedF cs = some (g, r)) : pieceF c cs = (⟨false, false, g⟩, r) := by
  unfold pieceF; rw [if_neg (by omega), if_neg (by omega), if_pos h, hc]
theorem piece_own {c : UInt8} (h1 : ¬ c.toNat = 42) (h2 : ¬ c.toNat = 63) {cs : List UInt8} (hc : c.toNat = 91 → closedF cs = none) : pieceF c cs = (⟨false, true, fun i => if i = (takenF c cs).1.toNat then true else false⟩, (takenF c cs).2) := by
  unfold pieceF; rw [if_neg h1, if_neg h2]
  by_cases h3 : c.toNat = 91
  · rw [if_pos h3, hc h3]
  · rw [if_neg h3]
def RMatch (l s : List UInt8) (r : List UInt8) (k : Nat) : Prop := ∀ (w : World) (q : List UInt8) (a : Nat), s.drop a = q → a + q.length = s.length →
    Calls Try.prog 12 #[.string (BA l), .int .i64 (k : Int), .string (BA s), .int .i64 (a : Int)] w fun e w' => e = .returned (.bool (matchR (PL r) q)) ∧ w = w'
set_option maxHeartbeats 1000000 in
theorem rmatch_nil (l s : List UInt8) (hl : l.length ≤ 1000000) (hsl : s.length ≤ 1000000) (k : Nat) (hk : k = l.length) : RMatch l s [] k := by
  intro w q a hq ha
  have hs := BA_size l; have hs2 := BA_size s
  obtain ⟨n, hn⟩ : ∃ n, l.length = n := ⟨_, rfl⟩
  obtain ⟨n2, hn2⟩ : ∃ n2, s.length = n2 := ⟨_, rfl⟩
  rw [hn] at hs hl hk; rw [hn2] at hs2 hsl ha
  subst hk
  clear hn hn2 hq
  cases q with
  | nil =>
    obtain rfl : a = n2 := by simpa using ha
    clear ha
    have HR : Hid (matchR (PL []) [] = true) := Lw.hid (by rw [PL_nil, matchR_nil]; rfl)
    go_enter Try.func12, Try.ntmps12
    go_wp2_with fail
    go_ret
    exact ⟨by rw [HR.out]; rfl, rfl⟩
  | cons c q =>
    have hne : a + 1 ≤ n2 := by simp at ha; omega
    have hb : ((a : Int) == (n2 : Int)) = false := by simp; omega
    clear ha
    have HR : Hid (matchR (PL []) (c :: q) = false) := Lw.hid (by rw [PL_nil, matchR_nil]; rfl)
    go_enter Try.func12, Try.ntmps12
    go_wp2_with fail
    go_ret
    exact ⟨by rw [HR.out]; rfl, rfl⟩
set_option maxHeartbeats 1000000 in
/-- No bytes are left, and no star is there. -/
theorem rmatch_end (l s : List UInt8) (hl : l.length ≤ 1000000) (hsl : s.length ≤ 1000000) (k : Nat) (c : UInt8) (cs : List UInt8) (h : l.drop k = c :: cs) (h1 : ¬ c.toNat = 42) (w : World) (a : Nat) (ha : a = s.length) :
    Calls Try.prog 12 #[.string (BA l), .int .i64 (k : Int), .string (BA s), .int .i64 (a : Int)] w fun e w' => e = .returned (.bool (matchR (PL (c :: cs)) [])) ∧ w = w' := by
  have HR : Hid (matchR (PL (c :: cs)) [] = false) := Lw.hid (by
    rw [PL_cons, matchR_end]
    have : (pieceF c cs).1.any = false := by
      unfold pieceF
      rw [if_neg h1]
      split
      · rfl
      · split <;> rfl
    rw [this]; rfl)
  have hs := BA_size l; have hs2 := BA_size s
  have g0 := BA_get (drop_at h).1
  have hk := (drop_at h).2.2
  obtain ⟨n, hn⟩ : ∃ n, l.length = n := ⟨_, rfl⟩
  obtain ⟨n2, hn2⟩ : ∃ n2, s.length = n2 := ⟨_, rfl⟩
  rw [hn] at hs hl hk; rw [hn2] at hs2 hsl ha
  subst ha
  have hk9 : k + 1 ≤ n := by omega
  have hkb : ((k : Int) == (n : Int)) = false := by simp; omega
  have b1 : ((c.toNat : Int) == 42) = false := byte_ne h1
  clear hn hn2 hk h h1
  go_enter Try.func12, Try.ntmps12
  go_wp2_with fail
  go_ret
  exact ⟨by rw [HR.out]; rfl, rfl⟩
set_option maxHeartbeats 1000000 in
theorem rmatch_quest (l s : List UInt8) (hl : l.length ≤ 1000000) (hsl : s.length ≤ 1000000) (k : Nat) (c : UInt8) (cs : List UInt8) (h : l.drop k = c :: cs) (h1 : c.toNat = 63) (ih : RMatch l s cs (k + 1)) (w : World) (a : Nat) (d : UInt8) (q : List UInt8) (hd : s.drop a = d :: q) :
    Calls Try.prog 12 #[.string (BA l), .int .i64 (k : Int), .string (BA s), .int .i64 (a : Int)] w fun e w' => e = .returned (.bool (matchR (PL (c :: cs)) (d :: q))) ∧ w = w' := by
  have HR : Hid (matchR (PL (c :: cs)) (d :: q) = matchR (PL cs) q) := Lw.hid (by
    rw [PL_cons, piece_quest h1, matchR_one rfl]; rfl)
  have hs := BA_size l; have hs2 := BA_size s
  have g0 := BA_get (drop_at h).1
  have hk := (drop_at h).2.2
  have hq := (drop_at hd).2.2
  have ih' := ih w q (a + 1) (drop_at hd).2.1 (by omega)
  have IH := Lw.hid ih'
  obtain ⟨n, hn⟩ : ∃ n, l.length = n := ⟨_, rfl⟩
  obtain ⟨n2, hn2⟩ : ∃ n2, s.length = n2 := ⟨_, rfl⟩
  rw [hn] at hs hl hk; rw [hn2] at hs2 hsl hq
  have hk9 : k + 1 ≤ n := by omega
  have hq9 : a + 1 ≤ n2 := by omega
  have hkb : ((k : Int) == (n : Int)) = false := by simp; omega
  have hqb : ((a : Int) == (n2 : Int)) = false := by simp; omega
  have b1 : ((c.toNat : Int) == 42) = false := byte_ne (n := 42) (by omega)
  have b2 : ((c.toNat : Int) == 63) = true := byte_eq h1
  clear hn hn2 hk h h1 ih ih' hd hq
  go_enter Try.func12, Try.ntmps12
  go_wp2_with fail
  refine IH.out.mono ?_
  rintro e _ ⟨rfl, rfl⟩
  go_wp2_with fail
  go_ret
  exact ⟨by rw [HR.out]; rfl, rfl⟩
set_option maxHeartbeats 2000000 in
theorem rmatch_own (l s : List UInt8) (hl : l.length ≤ 1000000) (hsl : s.length ≤ 1000000) (k : Nat) (c : UInt8) (cs : List UInt8) (h : l.drop k = c :: cs) (h1 : ¬ c.toNat = 42) (h2 : ¬ c.toNat = 63) (h3 : c.toNat = 91 → closedF cs = none) (ih : RMatch l s (takenF c cs).2 (k + takenN c cs)) (w : World) (a : Nat) (d : UInt8) (q : List UInt8) (hd : s.drop a = d :: q) :
    Calls Try.prog 12 #[.string (BA l), .int .i64 (k : Int), .string (BA s), .int .i64 (a : Int)] w fun e w' => e = .returned (.bool (matchR (PL (c :: cs)) (d :: q))) ∧ w = w' := by
  have HR : Hid (matchR (PL (c :: cs)) (d :: q) = ((if d.toNat = (takenF c cs).1.toNat then true else false) && matchR (PL (takenF c cs).2) q)) := Lw.hid (by
    rw [PL_cons, piece_own h1 h2 h3, matchR_one rfl])
  have hs := BA_size l; have hs2 := BA_size s
  have g0 := BA_get (drop_at h).1
  have g1 := BA_get (drop_at hd).1
  have hk := (drop_at h).2.2
  have hq := (drop_at hd).2.2
  have HD := Lw.hid h; have HL := Lw.hid hl
  have htk := (takenN_drop h).2.1
  have ih' := ih w q (a + 1) (drop_at hd).2.1 (by omega)
  have IH := Lw.hid ih'
  have HE : Hid (c.toNat = 91 → endF l cs = -1) := Lw.hid (fun x => endF_none (h3 x))
  obtain ⟨N1, hN⟩ : ∃ N1, takenN c cs = N1 := ⟨_, rfl⟩
  obtain ⟨⟨c1, r1⟩, har⟩ : ∃ x, takenF c cs = x := ⟨_, rfl⟩
  have HN := Lw.hid hN; have HAR := Lw.hid har
  rw [hN, har] at IH
  rw [har] at HR
  rw [hN] at htk
  simp only at IH HR
  obtain ⟨n, hn⟩ : ∃ n, l.length = n := ⟨_, rfl⟩
  obtain ⟨n2, hn2⟩ : ∃ n2, s.length = n2 := ⟨_, rfl⟩
  rw [hn] at hs hl hk; rw [hn2] at hs2 hsl hq
  have hk9 : k + 1 ≤ n := by omega
  have hN9 : k + N1 ≤ n := by omega
  have hq9 : a + 1 ≤ n2 := by omega
  have hkb : ((k : Int) == (n : Int)) = false := by simp; omega
  have hqb : ((a : Int) == (n2 : Int)) = false := by simp; omega
  have b1 : ((c.toNat : Int) == 42) = false := byte_ne h1
  have b2 : ((c.toNat : Int) == 63) = false := byte_ne h2
  by_cases h91 : c.toNat = 91
  · have b3 : ((c.toNat : Int) == 91) = true := byte_eq h91
    have HE1 := Lw.hid (HE.out h91)
    by_cases he : c1.toNat = d.toNat
    · have hb : ((c1.toNat : Int) == (d.toNat : Int)) = true := byte_eq he
      have HR2 : Hid (matchR (PL (c :: cs)) (d :: q) = matchR (PL r1) q) := Lw.hid (by rw [HR.out, if_pos he.symm]; rfl)
      clear hn hn2 hk h h1 h2 h3 h91 he ih ih' hd hq hN har htk HE HR
      go_enter Try.func12, Try.ntmps12
      go_wp2_with fail
      refine (setEnd_any w l k c cs HD.out HL.out).mono ?_
      rw [HE1.out]
      rintro e _ ⟨rfl, rfl⟩
      go_wp2_with fail
      refine (byteAt_any w l k c cs HD.out HL.out).mono ?_
      rw [HAR.out, HN.out]
      rintro e _ ⟨rfl, rfl⟩
      go_wp2_with fail
      refine IH.out.mono ?_
      rintro e _ ⟨rfl, rfl⟩
      go_wp2_with fail
      go_ret
      exact ⟨by rw [HR2.out]; rfl, rfl⟩
    · have hb : ((c1.toNat : Int) == (d.toNat : Int)) = false := byte_ne he
      have HR2 : Hid (matchR (PL (c :: cs)) (d :: q) = false) := Lw.hid (by rw [HR.out, if_neg (fun x => he x.symm)]; rfl)
      clear hn hn2 hk h h1 h2 h3 h91 he ih ih' hd hq hN har htk HE HR
      go_enter Try.func12, Try.ntmps12
      go_wp2_with fail
      refine (setEnd_any w l k c cs HD.out HL.out).mono ?_
      rw [HE1.out]
      rintro e _ ⟨rfl, rfl⟩
      go_wp2_with fail
      refine (byteAt_any w l k c cs HD.out HL.out).mono ?_
      rw [HAR.out, HN.out]
      rintro e _ ⟨rfl, rfl⟩
      go_wp2_with fail
      go_ret
      exact ⟨by rw [HR2.out]; rfl, rfl⟩
  · have b3 : ((c.toNat : Int) == 91) = false := byte_ne h91
    by_cases he : c1.toNat = d.toNat
    · have hb : ((c1.toNat : Int) == (d.toNat : Int)) = true := byte_eq he
      have HR2 : Hid (matchR (PL (c :: cs)) (d :: q) = matchR (PL r1) q) := Lw.hid (by rw [HR.out, if_pos he.symm]; rfl)
      clear hn hn2 hk h h1 h2 h3 h91 he ih ih' hd hq hN har htk HE HR
      go_enter Try.func12, Try.ntmps12
      go_wp2_with fail
      refine (byteAt_any w l k c cs HD.out HL.out).mono ?_
      rw [HAR.out, HN.out]
      rintro e _ ⟨rfl, rfl⟩
      go_wp2_with fail
      refine IH.out.mono ?_
      rintro e _ ⟨rfl, rfl⟩
      go_wp2_with fail
      go_ret
      exact ⟨by rw [HR2.out]; rfl, rfl⟩
    · have hb : ((c1.toNat : Int) == (d.toNat : Int)) = false := byte_ne he
      have HR2 : Hid (matchR (PL (c :: cs)) (d :: q) = false) := Lw.hid (by rw [HR.out, if_neg (fun x => he x.symm)]; rfl)
      clear hn hn2 hk h h1 h2 h3 h91 he ih ih' hd hq hN har htk HE HR
      go_enter Try.func12, Try.ntmps12
      go_wp2_with fail
      refine (byteAt_any w l k c cs HD.out HL.out).mono ?_
      rw [HAR.out, HN.out]
      rintro e _ ⟨rfl, rfl⟩
      go_wp2_with fail
      go_ret
      exact ⟨by rw [HR2.out]; rfl, rfl⟩
set_option maxHeartbeats 2000000 in
theorem rmatch_set (l s : List UInt8) (hl : l.length ≤ 1000000) (hsl : s.length ≤ 1000000) (k : Nat) (c : UInt8) (cs : List UInt8) (h : l.drop k = c :: cs) (h1 : c.toNat = 91) (g : Nat → Bool) (r : List UInt8) (hcf : closedF cs = some (g, r)) (E : Nat) (hE : endF l cs = (E : Int)) (hE2 : E + r.length = l.length) (ih : RMatch l s r E) (w : World) (a : Nat) (d : UInt8) (q : List UInt8) (hd : s.drop a = d :: q) :
    Calls Try.prog 12 #[.string (BA l), .int .i64 (k : Int), .string (BA s), .int .i64 (a : Int)] w fun e w' => e = .returned (.bool (matchR (PL (c :: cs)) (d :: q))) ∧ w = w' := by
  have HR : Hid (matchR (PL (c :: cs)) (d :: q) = (g d.toNat && matchR (PL r) q)) := Lw.hid (by
    rw [PL_cons, piece_set' h1 hcf, matchR_one rfl])
  have hs := BA_size l; have hs2 := BA_size s
  have g0 := BA_get (drop_at h).1
  have g1 := BA_get (drop_at hd).1
  have hk := (drop_at h).2.2
  have hq := (drop_at hd).2.2
  have HD := Lw.hid h; have HL := Lw.hid hl
  have ih' := ih w q (a + 1) (drop_at hd).2.1 (by omega)
  have IH := Lw.hid ih'
  have HM := Lw.hid (member_any w l k c cs h hl g r hcf E hE2 d)
  have HE := Lw.hid hE
  obtain ⟨n, hn⟩ : ∃ n, l.length = n := ⟨_, rfl⟩
  obtain ⟨n2, hn2⟩ : ∃ n2, s.length = n2 := ⟨_, rfl⟩
  rw [hn] at hs hl hk hE2; rw [hn2] at hs2 hsl hq
  have hk9 : k + 1 ≤ n := by omega
  have hE9 : E ≤ n := by omega
  have hE0 : (0 : Int) ≤ (E : Int) := by omega
  have hq9 : a + 1 ≤ n2 := by omega
  have hkb : ((k : Int) == (n : Int)) = false := by simp; omega
  have hqb : ((a : Int) == (n2 : Int)) = false := by simp; omega
  have b1 : ((c.toNat : Int) == 42) = false := byte_ne (n := 42) (by omega)
  have b2 : ((c.toNat : Int) == 63) = false := byte_ne (n := 63) (by omega)
  have b3 : ((c.toNat : Int) == 91) = true := byte_eq h1
  cases hg : g d.toNat with
  | true =>
    have HR2 : Hid (matchR (PL (c :: cs)) (d :: q) = matchR (PL r) q) := Lw.hid (by rw [HR.out, hg]; rfl)
    have HG := Lw.hid hg
    clear hn hn2 hk h h1 ih ih' hd hq hcf hE hE2 HR hg
    go_enter Try.func12, Try.ntmps12
    go_wp2_with fail
    refine (setEnd_any w l k c cs HD.out HL.out).mono ?_
    rw [HE.out]
    rintro e _ ⟨rfl, rfl⟩
    go_wp2_with fail
    refine HM.out.mono ?_
    rw [HG.out]
    rintro e _ ⟨rfl, rfl⟩
    go_wp2_with fail
    refine IH.out.mono ?_
    rintro e _ ⟨rfl, rfl⟩
    go_wp2_with fail
    go_ret
    exact ⟨by rw [HR2.out]; rfl, rfl⟩
  | false =>
    have HR2 : Hid (matchR (PL (c :: cs)) (d :: q) = false) := Lw.hid (by rw [HR.out, hg]; rfl)
    have HG := Lw.hid hg
    clear hn hn2 hk h h1 ih ih' hd hq hcf hE hE2 HR hg
    go_enter Try.func12, Try.ntmps12
    go_wp2_with fail
    refine (setEnd_any w l k c cs HD.out HL.out).mono ?_
    rw [HE.out]
    rintro e _ ⟨rfl, rfl⟩
    go_wp2_with fail
    refine HM.out.mono ?_
    rw [HG.out]
    rintro e _ ⟨rfl, rfl⟩
    go_wp2_with fail
    go_ret
    exact ⟨by rw [HR2.out]; rfl, rfl⟩
set_option maxHeartbeats 2000000 in
theorem rmatch_star (l s : List UInt8) (hl : l.length ≤ 1000000) (hsl : s.length ≤ 1000000) (k : Nat) (c : UInt8) (cs : List UInt8) (h : l.drop k = c :: cs) (h1 : c.toNat = 42) (ih : RMatch l s cs (k + 1)) (w : World) (a : Nat) (q : List UInt8) (hd : s.drop a = q) (ha : a + q.length = s.length) :
    Calls Try.prog 12 #[.string (BA l), .int .i64 (k : Int), .string (BA s), .int .i64 (a : Int)] w fun e w' => e = .returned (.bool (matchR (PL (c :: cs)) q)) ∧ w = w' := by
  have hR0 : matchR (PL (c :: cs)) q = true ↔ ∃ j, j ≤ q.length ∧ matchR (PL cs) (q.drop j) = true := by
    rw [PL_cons, piece_star h1]
    exact matchR_any rfl (PL cs) q
  obtain ⟨R, hR⟩ : ∃ R, matchR (PL (c :: cs)) q = R := ⟨_, rfl⟩
  rw [hR] at hR0 ⊢
  have HR := Lw.hid hR0
  have hs := BA_size l; have hs2 := BA_size s
  have g0 := BA_get (drop_at h).1
  have hk := (drop_at h).2.2
  have IH : Hid (∀ (w : World) (j : Nat), a ≤ j → j ≤ s.length → Calls Try.prog 12 #[.string (BA l), .int .i64 ((k + 1 : Nat) : Int), .string (BA s), .int .i64 (j : Int)] w fun e w' => e = .returned (.bool (matchR (PL cs) (q.drop (j - a)))) ∧ w = w') := Lw.hid (fun w j h1 h2 => ih w (q.drop (j - a)) j (by rw [← hd, List.drop_drop, show a + (j - a) = j by omega]) (by rw [List.length_drop]; omega))
  obtain ⟨n, hn⟩ : ∃ n, l.length = n := ⟨_, rfl⟩
  obtain ⟨n2, hn2⟩ : ∃ n2, s.length = n2 := ⟨_, rfl⟩
  rw [hn] at hs hl hk; rw [hn2] at hs2 hsl ha IH
  have HA := Lw.hid ha
  have hk9 : k + 1 ≤ n := by omega
  have ha9 : a ≤ n2 := by omega
  have hkb : ((k : Int) == (n : Int)) = false := by simp; omega
  have b1 : ((c.toNat : Int) == 42) = true := byte_eq h1
  clear hn hn2 hk h h1 ih hd hR hR0 ha
  go_enter Try.func12, Try.ntmps12
  go_wp2_with fail
  go_loopg [9] (n2 + 1 - a) (fun gk s9 wx => ∃ j : Nat, gk = n2 + 1 - j ∧ s9 = .int .i64 (j : Int) ∧ a ≤ j ∧ j ≤ n2 + 1 ∧ (∀ i, i + a < j → matchR (PL cs) (q.drop i) = false) ∧ wx = w)
  case atStart => exact ⟨a, rfl, rfl, Nat.le_refl _, by omega, fun i hi => absurd hi (by omega), rfl⟩
  case round =>
    obtain ⟨j, rfl, rfl, hj1, hj2, hj3, rfl⟩ := hrel
    have HJ := Lw.hid hj3
    clear hj3
    by_cases hlt : j ≤ n2
    · cases hm : matchR (PL cs) (q.drop (j - a)) with
      | true =>
        have HM := Lw.hid hm
        have HT : Hid (R = true) := Lw.hid (HR.out.2 ⟨j - a, by have := HA.out; omega, hm⟩)
        clear hm
        go_wp2_with fail
        refine (IH.out wr j hj1 hlt).mono ?_
        rw [HM.out]
        rintro e _ ⟨rfl, rfl⟩
        go_wp2_with fail
        go_ret
        exact ⟨by rw [HT.out]; rfl, rfl⟩
      | false =>
        have HM := Lw.hid hm
        clear hm
        go_wp2_with fail
        refine (IH.out wr j hj1 hlt).mono ?_
        rw [HM.out]
        rintro e _ ⟨rfl, rfl⟩
        go_wp2_with fail
        go_roundg (n2 + 1 - (j + 1))
        case measure => omega
        case rel => exact ⟨j + 1, rfl, by go_num, by omega, by omega, fun i hi => by
          by_cases e : i + a < j
          · exact HJ.out i e
          · rw [show i = j - a by omega]; exact HM.out, rfl⟩
    · have HF : Hid (R = false) := Lw.hid (by
        cases hRR : R with
        | false => rfl
        | true =>
          obtain ⟨i, hi, e⟩ := HR.out.1 hRR
          have := HA.out
          rw [HJ.out i (by omega)] at e; cases e)
      have hge : n2 + 1 ≤ j := by omega
      clear hlt
      go_wp2_with fail
      go_ret
      exact ⟨by rw [HF.out]; rfl, rfl⟩
theorem takenF_suf (c : UInt8) (l : List UInt8) : (takenF c l).2 <:+ l := by
  cases l with
  | nil => exact List.suffix_refl _
  | cons d l =>
    by_cases h : c.toNat = 92
    · rw [show takenF c (d :: l) = (d, l) from if_pos h]; exact List.suffix_cons d l
    · rw [show takenF c (d :: l) = (c, d :: l) from if_neg h]; exact List.suffix_refl _
theorem itemF_suf (c : UInt8) (l : List UInt8) : (itemF c l).2.2 <:+ l := by
  have h := takenF_suf c l
  unfold itemF
  split
  · rename_i d e r he
    rw [he] at h
    split
    · exact (takenF_suf e r).trans (((List.suffix_cons e r).trans (List.suffix_cons d _)).trans h)
    · exact h
  · exact h
theorem setF_suf : ∀ (n : Nat) (first : Bool) (l : List UInt8) (f : Nat → Bool), (setF n first l f).2 <:+ l
  | 0, _, l, _ => List.suffix_refl _
  | n + 1, first, l, f => by
    unfold setF
    split
    · exact List.suffix_refl _
    · rename_i c l
      split
      · exact List.suffix_refl _
      · exact ((setF_suf n false _ _).trans (itemF_suf c l)).trans (List.suffix_cons c l)
theorem closedF_suf {cs r : List UInt8} {g : Nat → Bool} (h : closedF cs = some (g, r)) : r <:+ cs := by
  unfold closedF at h
  have h1 := setF_suf (cutpF cs [33]).1.length true (cutpF cs [33]).1 noneF
  have h2 : (cutpF cs [33]).1 <:+ cs := by
    unfold cutpF
    split
    · exact List.drop_suffix _ _
    · exact List.suffix_refl _
  split at h
  · cases h
  · rename_i c r' he
    rw [he] at h1
    simp only [Option.some.injEq, Prod.mk.injEq] at h
    rw [← h.2]
    exact ((List.suffix_cons c r').trans h1).trans h2
theorem rmatch_any (l s : List UInt8) (hl : l.length ≤ 1000000) (hsl : s.length ≤ 1000000) : ∀ (m : Nat) (r : List UInt8) (k : Nat), r.length ≤ m → l.drop k = r → k + r.length = l.length → RMatch l s r k := by
  intro m
  induction m with
  | zero =>
    intro r k hm hd hk
    obtain rfl : r = [] := List.eq_nil_of_length_eq_zero (by omega)
    exact rmatch_nil l s hl hsl k (by simpa using hk)
  | succ m ih =>
    intro r k hm hd hk
    cases r with
    | nil => exact rmatch_nil l s hl hsl k (by simpa using hk)
    | cons c cs =>
      rw [List.length_cons] at hm hk
      intro w q a hq ha
      by_cases h1 : c.toNat = 42
      · exact rmatch_star l s hl hsl k c cs hd h1 (ih cs (k + 1) (by omega) (drop_at hd).2.1 (by omega)) w a q hq ha
      · cases q with
        | nil => exact rmatch_end l s hl hsl k c cs hd h1 w a (by simpa using ha)
        | cons d q =>
          by_cases h2 : c.toNat = 63
          · exact rmatch_quest l s hl hsl k c cs hd h2 (ih cs (k + 1) (by omega) (drop_at hd).2.1 (by omega)) w a d q hq
          · have hown : (c.toNat = 91 → closedF cs = none) → Calls Try.prog 12 #[.string (BA l), .int .i64 (k : Int), .string (BA s), .int .i64 (a : Int)] w fun e w' => e = .returned (.bool (matchR (PL (c :: cs)) (d :: q))) ∧ w = w' := fun h3 => by
              have ht := takenN_drop hd
              have hl2 := takenF_len c cs
              exact rmatch_own l s hl hsl k c cs hd h1 h2 h3 (ih _ _ (by omega) ht.1 (by omega)) w a d q hq
            by_cases h3 : c.toNat = 91
            · cases hcf : closedF cs with
              | none => exact hown (fun _ => hcf)
              | some x =>
                obtain ⟨g, r⟩ := x
                obtain ⟨E, hE, hE2⟩ := endF_some hcf (l := l) (by omega)
                have hr := closedF_len hcf
                have hsuf : r <:+ l := ((closedF_suf hcf).trans (List.suffix_cons c cs)).trans (hd ▸ List.drop_suffix k l)
                have hdE : l.drop E = r := by
                  have := List.suffix_iff_eq_drop.1 hsuf
                  rw [this, show l.length - r.length = E by omega]
                exact rmatch_set l s hl hsl k c cs hd h3 g r hcf E hE hE2 (ih r E (by omega) hdE hE2) w a d q hq
            · exact hown (fun x => absurd x h3)
end Go.Proofs.Ytkfoinphkjmlmaa
