/- longwireref21.Quote. -/
import Derived.Test.YtgedgnhloibclaaQuote
namespace Go.Proofs.Ytgedgnhloibclaa
open Go Go.RowKit Go.Lw
set_option maxRecDepth 100000
set_option linter.unusedVariables false
attribute [local go_sem] BA_toList
theorem BA_byte {l : List UInt8} {k : Nat} {c : UInt8} (h : l[k]? = some c) : (BA l).extract k (k + 1) = BA [c] := by
  have hk : k < l.length := by
    rcases Nat.lt_or_ge k l.length with h' | h'
    · exact h'
    · rw [List.getElem?_eq_none h'] at h; cases h
  rw [BA_extract]
  congr 1
  rw [List.getElem?_eq_getElem hk] at h
  rw [take_snoc l k hk, List.drop_append, List.drop_eq_nil_of_le (by rw [List.length_take]; omega), List.length_take, Nat.min_eq_left (by omega), Nat.sub_self, ← Option.some.inj h]
  rfl
theorem spec_yes {c : UInt8} (h : c.toNat = 42 ∨ c.toNat = 63 ∨ c.toNat = 91 ∨ c.toNat = 92) : spec c = true := by
  rcases h with h | h | h | h <;> simp [spec, h]
theorem spec_no {c : UInt8} (h : ¬ (c.toNat = 42 ∨ c.toNat = 63 ∨ c.toNat = 91 ∨ c.toNat = 92)) : ¬ spec c = true := by
  simp only [spec, Bool.or_eq_true, decide_eq_true_eq]; omega
set_option maxHeartbeats 4000000 in
theorem rQuote_any (w : World) (l : List UInt8) (hl : l.length ≤ 100000) :
    Calls Try.prog 21 #[.string (BA l)] w fun e w' => e = .returned (.string (BA (quoteF l))) ∧ w = w' := by
  have hs := BA_size l
  obtain ⟨n, hn⟩ : ∃ n, l.length = n := ⟨_, rfl⟩
  have HN := Lw.hid hn
  rw [hn] at hs hl
  clear hn
  have l92 : (⟨#[92]⟩ : ByteArray) = BA [92] := rfl
  go_enter Try.func21, Try.ntmps21
  go_wp2_with fail
  go_loopg [3, 4] n (fun gk s3 s4 wx => ∃ k : Nat, gk = n - k ∧ k ≤ n ∧ s3 = .string (BA (quoteF (l.take k))) ∧ s4 = .int .i64 (k : Int) ∧ wx = w)
  case atStart => exact ⟨0, rfl, Nat.zero_le _, rfl, rfl, rfl⟩
  case round =>
    obtain ⟨k, rfl, hk, rfl, rfl, rfl⟩ := hrel
    by_cases hlt : k < n
    · obtain ⟨c, hc⟩ : ∃ c, l[k]? = some c := ⟨_, List.getElem?_eq_getElem (by rw [HN.out]; exact hlt)⟩
      have g0 := BA_get hc
      have g1 := BA_byte hc
      have HQ := Lw.hid (quoteF_snoc hc)
      obtain ⟨Q, hq⟩ : ∃ Q, quoteF (l.take k) = Q := ⟨_, rfl⟩
      rw [hq] at HQ ⊢
      have a1 := BA_append Q [92]
      have a2 := BA_append (Q ++ [92]) [c]
      have a3 := BA_append Q [c]
      have z0 : (BA Q).size ≤ 200000 := by
        rw [BA_size, ← hq]
        have h1 := quoteF_len (l.take k)
        have h2 : (l.take k).length ≤ k := List.length_take_le _ _
        omega
      have z1 : (BA (Q ++ [92])).size ≤ 200001 := by rw [BA_size, List.length_append, ← BA_size]; simp; exact z0
      have z2 : (BA [92]).size = 1 := BA_size _
      have z3 : (BA [c]).size = 1 := BA_size _
      have hk1 : k + 1 ≤ n := hlt
      clear hc hq
      go_wp2_with fail
      all_goals
        go_roundg (n - (k + 1))
        case measure => omega
        case rel =>
          refine ⟨k + 1, rfl, by omega, ?_, by go_num, rfl⟩
          (try simp only [beq_iff_eq, beq_eq_false_iff_ne, ne_eq] at *)
          first
          | rw [HQ.out, if_pos (spec_yes (by omega))]
          | rw [HQ.out, if_neg (spec_no (by omega))]
    · obtain rfl : k = n := by omega
      have HT : Hid (l.take k = l) := Lw.hid (List.take_of_length_le (by rw [HN.out]; exact Nat.le_refl _))
      go_wp2_with fail
      go_ret
      rw [HT.out]
      exact ⟨rfl, rfl⟩
end Go.Proofs.Ytgedgnhloibclaa
