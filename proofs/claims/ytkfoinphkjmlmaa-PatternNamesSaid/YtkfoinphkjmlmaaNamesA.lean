/- PatternNames: slices.Equal of strings; what is got; how many are needed. -/
import Derived.Test.YtkfoinphkjmlmaaNamesI
import Derived.Test.YtkfoinphkjmlmaaRefTop
import Derived.Test.YtkfoinphkjmlmaaPWakes
import Derived.BigQuiet
namespace Go.Proofs.Ytkfoinphkjmlmaa
open Go Go.RowKit Go.Lw
set_option maxRecDepth 100000
set_option linter.unusedVariables false
set_option linter.unusedSimpArgs false
abbrev bS (s : List UInt8) : Value := .string (BA s)
def RdS (w : World) (v : Value) (l : List (List UInt8)) : Prop := Rd w 1 v l.length (l.map bS)
theorem RdS.own {w : World} {v : Value} {l : List (List UInt8)} {e n : Nat} (h : w.ownsRow 0 e 1 v n (l.map bS)) (hn : n = l.length) : RdS w v l := by subst hn; exact Rd.own h
theorem RdS.shape {w : World} {v : Value} {l : List (List UInt8)} (h : RdS w v l) : ∃ a cap, v = .slice a l.length cap ∧ l.length ≤ cap ∧ cap ≤ 9223372036854775807 ∧
    ∀ k (hk : k < l.length), ∃ g off, a = some ⟨g, off, none⟩ ∧ w.cell? ⟨g, off + k, none⟩ = some (.string (BA l[k])) := by
  obtain ⟨_, a, cap, rfl, h1, h2, hc⟩ := h
  unfold maxLen at h2
  exact ⟨a, cap, rfl, h1, by omega, fun k hk => hc k _ (by rw [List.getElem?_map, List.getElem?_eq_getElem hk]; rfl)⟩
theorem take_eqS {α : Type} {l m : List α} {k : Nat} (h1 : k < l.length) (h2 : k < m.length) (he : l.take k = m.take k) (hx : l[k] = m[k]) : l.take (k + 1) = m.take (k + 1) := by
  rw [take_snoc l k h1, take_snoc m k h2, he, hx]
theorem take_allS {α : Type} {l m : List α} {k : Nat} (h1 : l.length = k) (h2 : m.length = k) (he : l.take k = m.take k) : l = m := by
  rw [List.take_of_length_le (by omega), List.take_of_length_le (by omega)] at he; exact he
set_option maxHeartbeats 4000000 in
theorem eqs_any (w : World) (x y : Value) (l m : List (List UInt8)) (hx : RdS w x l) (hy : RdS w y m) (hlm : l = m) :
    Calls Try.prog 9 #[x, y] w fun e w' => e = .returned (.bool true) ∧ Kept (fun _ => False) w w' := by
  subst hlm
  obtain ⟨ad, cap, rfl, h1, h2, hc⟩ := hx.shape
  obtain ⟨ad', cap', rfl, h1', h2', hc'⟩ := hy.shape
  have HC := Lw.hid hc; have HC' := Lw.hid hc'
  clear hx hy hc hc'
  obtain ⟨L, hL⟩ : ∃ L, l.length = L := ⟨_, rfl⟩
  rw [hL] at h1 h1' ⊢
  have HL : Hid (l.length = L) := Lw.hid hL
  clear hL
  go_enter Try.func9, Try.ntmps9
  go_wp2_with fail
  go_loopg [13] L (fun gk i wr => ∃ k : Nat, gk = L - k ∧ k ≤ L ∧ i = .int .i64 (k : Int) ∧ Kept (fun _ => False) w wr)
  case atStart => exact ⟨0, rfl, Nat.zero_le _, rfl, Kept.refl _ _⟩
  case round =>
    obtain ⟨k, rfl, hk, rfl, hkk⟩ := hrel
    have HK := Lw.hid hkk
    clear hkk
    by_cases hlt : k < L
    · have l1 : k < l.length := by rw [HL.out]; exact hlt
      obtain ⟨g, off, rfl, q0⟩ := HC.out k l1
      obtain ⟨g', off', rfl, r0⟩ := HC'.out k l1
      replace q0 := HK.out.cell q0 (fun h => h)
      replace r0 := HK.out.cell r0 (fun h => h)
      have i0 : (0 : Int) ≤ (k : Int) := by omega
      have i1 : (k : Int) < (L : Int) := by omega
      obtain ⟨t, ht⟩ : ∃ t, l[k] = t := ⟨_, rfl⟩
      rw [ht] at q0 r0
      have hnb : (BA t != BA t) = false := by rw [bne, BA_beq]; simp
      clear ht l1
      go_wp2_with fail
      go_quiet (fail)
      go_wp2_with fail
      have HD : Hid (Kept (fun _ => False) w (wr.drewN nq)) := Lw.hid (HK.out.trans (kept_drewN' wr nq) (fun _ _ h => h))
      go_roundg (L - (k + 1))
      case measure => omega
      case rel => exact ⟨k + 1, rfl, hlt, by go_num, HD.out⟩
    · obtain rfl : k = L := by omega
      go_wp2_with fail
      go_ret
      exact ⟨rfl, HK.out⟩
/-! How many are needed. -/
def wantF (f : List UInt8 → Bool) (most : Nat) (xs : List (List UInt8)) : List (List UInt8) := (xs.filter f).take most
/-- So many are needed for what is wanted: behind the last one that matches, of those wanted. -/
def NdF (f : List UInt8 → Bool) (most : Nat) (xs : List (List UInt8)) (nd : Nat) : Prop :=
  (wantF f most xs = [] ∧ nd = 0) ∨ ∃ q x, q ++ [x] <+: xs ∧ f x = true ∧ nd = q.length + 1 ∧ (q ++ [x]).filter f = wantF f most xs
theorem want_hit {f : List UInt8 → Bool} {most : Nat} {xs : List (List UInt8)} {x : List UInt8} (hx : f x = true) (hl : (wantF f most xs).length < most) : wantF f most (xs ++ [x]) = wantF f most xs ++ [x] ∧ NdF f most (xs ++ [x]) (xs.length + 1) := by
  unfold wantF at *
  have h1 : (xs.filter f).length < most := by rw [List.length_take] at hl; omega
  have e1 : (xs.filter f).take most = xs.filter f := List.take_of_length_le (by omega)
  have e2 : ((xs ++ [x]).filter f).take most = xs.filter f ++ [x] := by
    rw [List.filter_append]; simp only [List.filter_cons, hx, if_true, List.filter_nil]
    exact List.take_of_length_le (by simp; omega)
  refine ⟨by rw [e2, e1], .inr ⟨xs, x, List.prefix_refl _, hx, rfl, ?_⟩⟩
  unfold wantF
  rw [e2, List.filter_append]; simp [hx]
theorem want_miss {f : List UInt8 → Bool} {most : Nat} {xs : List (List UInt8)} {x : List UInt8} {nd : Nat} (h : f x = false ∨ ¬ (wantF f most xs).length < most) (hn : NdF f most xs nd) : wantF f most (xs ++ [x]) = wantF f most xs ∧ NdF f most (xs ++ [x]) nd := by
  have e : wantF f most (xs ++ [x]) = wantF f most xs := by
    unfold wantF at *
    rw [List.filter_append]
    rcases h with h | h
    · simp [h]
    · rw [List.length_take] at h
      rw [List.take_append_of_le_length (by omega)]
  refine ⟨e, ?_⟩
  unfold NdF
  rw [e]
  rcases hn with hn | ⟨q, y, h1, h2, h3, h4⟩
  · exact .inl hn
  · exact .inr ⟨q, y, h1.trans (List.prefix_append _ _), h2, h3, h4⟩
theorem nd_same {f : List UInt8 → Bool} {xs q1 q2 : List (List UInt8)} {x1 x2 : List UInt8} (h1 : q1 ++ [x1] <+: xs) (h2 : q2 ++ [x2] <+: xs) (f1 : f x1 = true) (f2 : f x2 = true) (hf : (q1 ++ [x1]).filter f = (q2 ++ [x2]).filter f) : q1.length = q2.length := by
  have key : ∀ {a b : List (List UInt8)} {y z : List UInt8}, a ++ [y] <+: b ++ [z] → f z = true → (a ++ [y]).filter f = (b ++ [z]).filter f → b.length ≤ a.length := fun {a b y z} hp hz he => by
    obtain ⟨t, ht⟩ := hp
    rcases List.eq_nil_or_concat t with rfl | ⟨t', u, rfl⟩
    · have := congrArg List.length ht; simp at this; omega
    · rw [List.concat_eq_append, ← List.append_assoc] at ht
      obtain ⟨hb, hz'⟩ := List.append_inj' ht rfl
      have h3 := congrArg List.length he
      rw [← hb, List.filter_append (l₁ := a ++ [y] ++ t'), List.filter_append (l₁ := a ++ [y]), List.length_append, List.length_append] at h3
      have : ([z].filter f).length = 1 := by simp [hz]
      omega
  rcases List.prefix_or_prefix_of_prefix h1 h2 with h | h
  · exact Nat.le_antisymm (by have := h.length_le; simp at this; exact this) (key h f2 hf)
  · exact Nat.le_antisymm (key h f1 hf.symm) (by have := h.length_le; simp at this; exact this)
end Go.Proofs.Ytkfoinphkjmlmaa
