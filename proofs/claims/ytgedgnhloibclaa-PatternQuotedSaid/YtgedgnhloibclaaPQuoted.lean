/- PatternQuoted, walked. -/
import Derived.Test.YtgedgnhloibclaaQuoteP
import Derived.ChangeMaps5
namespace Go.Proofs.Ytgedgnhloibclaa
open Go Go.RowKit Go.Lw
set_option maxRecDepth 100000
set_option linter.unusedVariables false
attribute [local go_sem] BA_toList
theorem beq_comm' (s t : List UInt8) : (t == s) = (s == t) := by rw [Bool.eq_iff_iff, beq_iff_eq, beq_iff_eq]; exact eq_comm
set_option maxHeartbeats 8000000 in
theorem pquoted_any (w : World) (p s : List UInt8) (hp : p.length ≤ 9223372036854775807) (hsl : s.length ≤ 9223372036854775807) :
    Calls Try.prog 6 #[.string (BA p), .string (BA s)] w fun e w' => e = .returned (.bool true) ∧ Kept (fun _ => False) w w' := by
  have hs := BA_size p; have hs2 := BA_size s
  have e1 := BA_min p 40 40 rfl; have e2 := BA_min s 40 40 rfl
  obtain ⟨a, ha⟩ : ∃ a, p.take 40 = a := ⟨_, rfl⟩
  obtain ⟨b, hb⟩ : ∃ b, s.take 40 = b := ⟨_, rfl⟩
  have hal : a.length ≤ 40 := by rw [← ha]; exact List.length_take_le _ _
  have hbl : b.length ≤ 40 := by rw [← hb]; exact List.length_take_le _ _
  rw [ha] at e1; rw [hb] at e2
  clear ha hb
  have HA := Lw.hid hal; have HB := Lw.hid hbl
  have HQL := Lw.hid (quoteF_len a)
  go_enter Try.func6, Try.ntmps6
  go_wp2_with fail
  go_quiet (fail)
  clear hs hs2 e1 e2
  go_wp2_with fail
  refine (quote_any _ a (by have := HA.out; omega)).mono ?_
  rintro e w1 ⟨rfl, k1⟩
  have K1 := Lw.hid ((kept_drewN' w nq).trans k1 (fun _ _ h => h))
  clear k1
  have HM1 := Lw.hid (match_quote a a); have HM2 := Lw.hid (match_quote a b)
  have HM3 := Lw.hid (fun h : a ≠ [] => match_quote_star h b); have HM4 := Lw.hid (fun h : a ≠ [] => match_quote_star h (a ++ b))
  have HAL := Lw.hid (alive_quote a)
  have HPA := Lw.hid (show ((a ++ b).take a.length == a) = true by simp)
  have hst : (BA a == BA b) = (a == b) := BA_beq a b
  rw [beq_comm'] at HM2
  rw [beq_self_eq_true] at HM1
  have a1 := BA_append (quoteF a) [42]
  have a2 := BA_append a b
  have l42 : (⟨#[42]⟩ : ByteArray) = BA [42] := rfl
  have l46 : (⟨#[46]⟩ : ByteArray) = BA [46] := rfl
  have z1 : (BA (quoteF a)).size ≤ 80 := by rw [BA_size]; have := HQL.out; omega
  have z2 : (BA [42]).size = 1 := BA_size _
  have z3 : (BA a).size ≤ 40 := by rw [BA_size]; exact hal
  have z4 : (BA b).size ≤ 40 := by rw [BA_size]; exact hbl
  have HQ9 : Hid ((quoteF a).length ≤ 80) := Lw.hid (by have := HQL.out; omega)
  clear hal hbl
  generalize hQ : quoteF a = Q at *
  generalize hst2 : (a == b) = st at *
  have HQQ := Lw.hid hQ
  clear hQ
  go_wp2_with fail
  refine (match_any _ Q a (by have := HQ9.out; omega) (by have := HA.out; omega)).mono ?_
  rw [HM1.out]
  rintro e w2 ⟨rfl, k2⟩
  have K2 := Lw.hid (K1.out.trans k2 (fun _ _ h => h))
  clear k2
  go_wp2_with fail
  refine (match_any _ Q b (by have := HQ9.out; omega) (by have := HB.out; omega)).mono ?_
  rw [HM2.out]
  rintro e w3 ⟨rfl, k3⟩
  have K3 := Lw.hid (K2.out.trans k3 (fun _ _ h => h))
  clear k3
  have hne : (st != st) = false := by cases st <;> rfl
  go_wp2_with fail
  refine (alive_any _ Q (by have := HQ9.out; omega)).mono ?_
  rw [HAL.out]
  rintro e w4 ⟨rfl, k4⟩
  have K4 := Lw.hid (K3.out.trans k4 (fun _ _ h => h))
  clear k4
  cases a with
  | nil =>
    obtain rfl : [] = Q := HQQ.out
    have hn : (BA ([] : List UInt8) == (⟨#[]⟩ : ByteArray)) = true := rfl
    have a0 : BA [] ++ BA [42] = BA [42] := rfl
    clear a1 a2
    go_wp2_with fail
    refine (match_any _ [42] b (by simp) (by have := HB.out; omega)).mono ?_
    rw [match_star]
    obtain ⟨x, hx⟩ : ∃ x, (b.take 1 == [46]) = x := ⟨_, rfl⟩
    have HX := Lw.hid hx
    rw [hx]
    clear hx
    rintro e w5 ⟨rfl, k5⟩
    have K5 := Lw.hid (K4.out.trans k5 (fun _ _ h => h))
    clear k5
    go_wp2_with fail
    refine (hasp_any _ b [46] (by have := HB.out; omega) (by simp) x HX.out).mono ?_
    rintro e _ ⟨rfl, rfl⟩
    go_wp2_with fail
    refine (pwakes_any _).mono ?_
    rintro e w6 ⟨rfl, k6⟩
    have K6 := Lw.hid (K5.out.trans k6 (fun _ _ h => h))
    clear k6
    go_wp2_with fail
    go_ret
    exact ⟨rfl, K6.out⟩
  | cons c a =>
    have hn : (BA (c :: a) == (⟨#[]⟩ : ByteArray)) = false := BA_ne_nil (by simp)
    have HM3 := Lw.hid (HM3.out (by simp)); have HM4 := Lw.hid (HM4.out (by simp))
    go_wp2_with fail
    refine (match_any _ (Q ++ [42]) b (by rw [List.length_append]; have := HQ9.out; simp; omega) (by have := HB.out; omega)).mono ?_
    rw [HM3.out]
    obtain ⟨x, hx⟩ : ∃ x, (b.take (c :: a).length == (c :: a)) = x := ⟨_, rfl⟩
    have HX := Lw.hid hx
    rw [hx]
    clear hx
    rintro e w5 ⟨rfl, k5⟩
    have K5 := Lw.hid (K4.out.trans k5 (fun _ _ h => h))
    clear k5
    go_wp2_with fail
    refine (hasp_any _ b (c :: a) (by have := HB.out; omega) (by have := HA.out; omega) x HX.out).mono ?_
    rintro e _ ⟨rfl, rfl⟩
    go_wp2_with fail
    refine (match_any _ (Q ++ [42]) (c :: a ++ b) (by rw [List.length_append]; have := HQ9.out; simp; omega) (by rw [List.length_append]; have := HA.out; have := HB.out; omega)).mono ?_
    rw [HM4.out, HPA.out]
    rintro e w6 ⟨rfl, k6⟩
    have K6 := Lw.hid (K5.out.trans k6 (fun _ _ h => h))
    clear k6
    go_wp2_with fail
    refine (pwakes_any _).mono ?_
    rintro e w7 ⟨rfl, k7⟩
    have K7 := Lw.hid (K6.out.trans k7 (fun _ _ h => h))
    clear k7
    go_wp2_with fail
    go_ret
    exact ⟨rfl, K7.out⟩
theorem pquoted_below (w : World) (p s : ByteArray) (hp : p.size ≤ 9223372036854775807) (hs : s.size ≤ 9223372036854775807) :
    Calls Try.prog 6 #[.string p, .string s] w fun e w' => e = .returned (.bool true) ∧ Below w.heap.size w w' := by
  have h := pquoted_any w p.data.toList s.data.toList (by rw [← BA_size, ← BA_of]; exact hp) (by rw [← BA_size, ← BA_of]; exact hs)
  rw [← BA_of, ← BA_of] at h
  exact h.mono fun _ _ ⟨e, k⟩ => ⟨e, Below.of_kept k⟩
end Go.Proofs.Ytgedgnhloibclaa
