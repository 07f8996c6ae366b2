/- longwireref21.alive. -/
import Derived.Test.YtkfoinphkjmlmaaMember
namespace Go.Proofs.Ytkfoinphkjmlmaa
open Go Go.RowKit Go.Lw
set_option maxRecDepth 100000
set_option linter.unusedVariables false
attribute [local go_sem] BA_toList
theorem byte_eq {c : UInt8} {n : Nat} (h : c.toNat = n) : ((c.toNat : Int) == (n : Int)) = true := by rw [h]; simp
theorem byte_ne {c : UInt8} {n : Nat} (h : ¬ c.toNat = n) : ((c.toNat : Int) == (n : Int)) = false := by simp; omega
theorem endF_none {l cs : List UInt8} (h : closedF cs = none) : endF l cs = -1 := by unfold endF; rw [h]
theorem endF_some {l cs r : List UInt8} {g : Nat → Bool} (h : closedF cs = some (g, r)) (hr : cs.length ≤ l.length) : ∃ E : Nat, endF l cs = (E : Int) ∧ E + r.length = l.length := by
  have h1 := closedF_len h
  refine ⟨l.length - r.length, ?_, by omega⟩
  unfold endF; rw [h]
  simp only
  omega
set_option maxHeartbeats 4000000 in
theorem ralive_any (w : World) (l : List UInt8) (k : Nat) (c : UInt8) (cs : List UInt8) (h : l.drop k = c :: cs) (hl : l.length ≤ 1000000) :
    Calls Try.prog 11 #[.string (BA l), .int .i64 (k : Int)] w fun e w' => e = .returned (.bool (!(pieceF c cs).1.own)) ∧ w = w' := by
  have HD := Lw.hid h; have HL := Lw.hid hl
  have hs := BA_size l
  have g0 := BA_get (drop_at h).1
  have hk := (drop_at h).2.2
  have hcl : Hid (cs.length ≤ l.length) := Lw.hid (by omega)
  obtain ⟨n, hn⟩ : ∃ n, l.length = n := ⟨_, rfl⟩
  rw [hn] at hs hk hl
  have hk9 : k + 1 ≤ n := by omega
  clear h hk hn
  by_cases h1 : c.toNat = 42
  · have HR : Hid ((!(pieceF c cs).1.own) = true) := Lw.hid (by unfold pieceF; rw [if_pos h1]; rfl)
    have b1 : ((c.toNat : Int) == 42) = true := byte_eq h1
    clear h1
    go_enter Try.func11, Try.ntmps11
    go_wp2_with fail
    go_ret
    exact ⟨by rw [HR.out]; rfl, rfl⟩
  · by_cases h2 : c.toNat = 63
    · have HR : Hid ((!(pieceF c cs).1.own) = true) := Lw.hid (by unfold pieceF; rw [if_neg h1, if_pos h2]; rfl)
      have b1 : ((c.toNat : Int) == 42) = false := byte_ne h1
      have b2 : ((c.toNat : Int) == 63) = true := byte_eq h2
      clear h1 h2
      go_enter Try.func11, Try.ntmps11
      go_wp2_with fail
      go_ret
      exact ⟨by rw [HR.out]; rfl, rfl⟩
    · have b1 : ((c.toNat : Int) == 42) = false := byte_ne h1
      have b2 : ((c.toNat : Int) == 63) = false := byte_ne h2
      by_cases h3 : c.toNat = 91
      · have b3 : ((c.toNat : Int) == 91) = true := byte_eq h3
        cases hcf : closedF cs with
        | none =>
          have HR : Hid ((!(pieceF c cs).1.own) = false) := Lw.hid (by unfold pieceF; rw [if_neg h1, if_neg h2, if_pos h3, hcf]; rfl)
          have HE := Lw.hid (endF_none (l := l) hcf)
          clear h1 h2 h3 hcf
          go_enter Try.func11, Try.ntmps11
          go_wp2_with fail
          refine (setEnd_any w l k c cs HD.out HL.out).mono ?_
          rw [HE.out]
          rintro e _ ⟨rfl, rfl⟩
          go_wp2_with fail
          go_ret
          exact ⟨by rw [HR.out]; rfl, rfl⟩
        | some x =>
          obtain ⟨g, r⟩ := x
          have HR : Hid ((!(pieceF c cs).1.own) = true) := Lw.hid (by unfold pieceF; rw [if_neg h1, if_neg h2, if_pos h3, hcf]; rfl)
          obtain ⟨E, hE, hE2⟩ := endF_some hcf hcl.out
          have HE := Lw.hid hE
          have hE0 : (0 : Int) ≤ (E : Int) := by omega
          clear h1 h2 h3 hcf hE hE2
          go_enter Try.func11, Try.ntmps11
          go_wp2_with fail
          refine (setEnd_any w l k c cs HD.out HL.out).mono ?_
          rw [HE.out]
          rintro e _ ⟨rfl, rfl⟩
          go_wp2_with fail
          go_ret
          exact ⟨by rw [HR.out]; rfl, rfl⟩
      · have HR : Hid ((!(pieceF c cs).1.own) = false) := Lw.hid (by unfold pieceF; rw [if_neg h1, if_neg h2, if_neg h3]; rfl)
        have b3 : ((c.toNat : Int) == 91) = false := byte_ne h3
        clear h1 h2 h3
        go_enter Try.func11, Try.ntmps11
        go_wp2_with fail
        go_ret
        exact ⟨by rw [HR.out]; rfl, rfl⟩
end Go.Proofs.Ytkfoinphkjmlmaa
