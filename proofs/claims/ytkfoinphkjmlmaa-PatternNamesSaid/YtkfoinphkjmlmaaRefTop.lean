/- longwireref21.Match, Alive. -/
import Derived.Test.YtkfoinphkjmlmaaRefMatch
namespace Go.Proofs.Ytkfoinphkjmlmaa
open Go Go.RowKit Go.Lw
set_option maxRecDepth 100000
set_option linter.unusedVariables false
attribute [local go_sem] BA_toList
theorem matchF_nodot {p s : List UInt8} (h : ∀ c q, s = c :: q → ¬ c.toNat = 46) : matchF p s = matchR (PL p) s := by
  have : dotF (piecesF p.length p) s = true := by
    unfold dotF
    cases s with
    | nil => rfl
    | cons c q => simp only; rw [if_neg (h c q rfl)]
  unfold matchF
  rw [this]; rfl
theorem matchF_none {s q : List UInt8} {c : UInt8} (h : c.toNat = 46) : matchF [] (c :: q) = false := by
  unfold matchF dotF
  simp only [if_pos h]
  rfl
theorem matchF_alive {p q : List UInt8} {c d : UInt8} (h : c.toNat = 46) (ha : (!(pieceF d p).1.own) = true) : matchF (d :: p) (c :: q) = false := by
  have h1 : piecesF (d :: p).length (d :: p) = (pieceF d p).1 :: PL (pieceF d p).2 := PL_cons d p
  have h2 : (pieceF d p).1.own = false := by simpa using ha
  unfold matchF dotF
  rw [h1]
  simp only [if_pos h, h2]
  rfl
theorem piece_own_any {c : UInt8} {cs : List UInt8} (h : (pieceF c cs).1.own = true) : (pieceF c cs).1.any = false := by
  unfold pieceF at h ⊢
  split at h
  · cases h
  · split at h
    · cases h
    · rename_i h1 h2
      rw [if_neg h1, if_neg h2]
      split <;> rfl
theorem matchF_own {p q : List UInt8} {c d : UInt8} (h : c.toNat = 46) (ha : (!(pieceF d p).1.own) = false) : matchF (d :: p) (c :: q) = matchR (PL (d :: p)) (c :: q) := by
  have h1 : piecesF (d :: p).length (d :: p) = (pieceF d p).1 :: PL (pieceF d p).2 := PL_cons d p
  have h2 : (pieceF d p).1.own = true := by simpa using ha
  unfold matchF dotF
  rw [PL_cons, h1]
  simp only [if_pos h, h2]
  rw [matchR_one (piece_own_any h2), h]
  cases (pieceF d p).1.f 46 <;> rfl
set_option maxHeartbeats 2000000 in
theorem rMatch_any (w : World) (p s : List UInt8) (hp : p.length ≤ 100000) (hsl : s.length ≤ 100000) :
    Calls Try.prog 5 #[.string (BA p), .string (BA s)] w fun e w' => e = .returned (.bool (matchF p s)) ∧ w = w' := by
  have IH := Lw.hid (fun w : World => rmatch_any p s (by omega) (by omega) p.length p 0 (Nat.le_refl _) rfl (by omega) w s 0 rfl (by omega))
  have hs := BA_size p; have hs2 := BA_size s
  cases s with
  | nil =>
    have HR := Lw.hid (matchF_nodot (p := p) (s := []) (fun c q h => by cases h))
    clear hs
    go_enter Try.func5, Try.ntmps5
    go_wp2_with fail
    refine (IH.out w).mono ?_
    rintro e _ ⟨rfl, rfl⟩
    go_wp2_with fail
    go_ret
    exact ⟨by rw [HR.out]; rfl, rfl⟩
  | cons c q =>
    have hs2 : (BA (c :: q)).size = q.length + 1 := BA_size _
    have g0 := BA_get (l := c :: q) (k := 0) rfl
    by_cases h46 : c.toNat = 46
    · have b1 : ((c.toNat : Int) == 46) = true := byte_eq h46
      cases p with
      | nil =>
        have HR := Lw.hid (matchF_none (s := []) (q := q) h46)
        have hs : (BA []).size = 0 := BA_size _
        clear h46
        go_enter Try.func5, Try.ntmps5
        go_wp2_with fail
        go_ret
        exact ⟨by rw [HR.out]; rfl, rfl⟩
      | cons d p =>
        have hs : (BA (d :: p)).size = p.length + 1 := BA_size _
        have HA := Lw.hid (ralive_any w (d :: p) 0 d p rfl (by omega))
        cases ha : (!(pieceF d p).1.own) with
        | true =>
          have HR := Lw.hid (matchF_alive (q := q) h46 ha)
          have HA2 := Lw.hid ha
          clear h46 ha
          go_enter Try.func5, Try.ntmps5
          go_wp2_with fail
          refine HA.out.mono ?_
          rw [HA2.out]
          rintro e _ ⟨rfl, rfl⟩
          go_wp2_with fail
          go_ret
          exact ⟨by rw [HR.out]; rfl, rfl⟩
        | false =>
          have HR := Lw.hid (matchF_own (q := q) h46 ha)
          have HA2 := Lw.hid ha
          clear h46 ha
          go_enter Try.func5, Try.ntmps5
          go_wp2_with fail
          refine HA.out.mono ?_
          rw [HA2.out]
          rintro e _ ⟨rfl, rfl⟩
          go_wp2_with fail
          refine (IH.out w).mono ?_
          rintro e _ ⟨rfl, rfl⟩
          go_wp2_with fail
          go_ret
          exact ⟨by rw [HR.out]; rfl, rfl⟩
    · have b1 : ((c.toNat : Int) == 46) = false := byte_ne h46
      have HR := Lw.hid (matchF_nodot (p := p) (s := c :: q) (fun c' q' h => by cases h; exact h46))
      clear h46
      go_enter Try.func5, Try.ntmps5
      go_wp2_with fail
      refine (IH.out w).mono ?_
      rintro e _ ⟨rfl, rfl⟩
      go_wp2_with fail
      go_ret
      exact ⟨by rw [HR.out]; rfl, rfl⟩
theorem pieceF_own_rest {c : UInt8} {cs : List UInt8} (h : (pieceF c cs).1.own = true) : (pieceF c cs).2 = (takenF c cs).2 := by
  unfold pieceF at h ⊢
  split at h
  · cases h
  · split at h
    · cases h
    · rename_i h1 h2
      rw [if_neg h1, if_neg h2]
      split at h
      · cases h
      · rfl
theorem aliveF_nil : aliveF [] = false := rfl
theorem aliveF_cons (c : UInt8) (cs : List UInt8) : aliveF (c :: cs) = (!(pieceF c cs).1.own || aliveF (pieceF c cs).2) := by
  show (PL (c :: cs)).any _ = _
  rw [PL_cons, List.any_cons]
  rfl
end Go.Proofs.Ytkfoinphkjmlmaa
