/- pattern.Alive; what the document's examples say. -/
import Derived.Test.YtgedgnhloibclaaMatchW
namespace Go.Proofs.Ytgedgnhloibclaa
open Go Go.RowKit Go.Lw
set_option maxRecDepth 100000
set_option linter.unusedVariables false
attribute [local go_sem] BA_toList
def aliveF (p : List UInt8) : Bool := (piecesF p.length p).any fun x => !x.own
theorem any_snoc {L : List Pc} {k : Nat} {q : Pc} (h : L[k]? = some q) : (L.take (k + 1)).any (fun x => !x.own) = ((L.take k).any (fun x => !x.own) || !q.own) := by
  have hk : k < L.length := by
    rcases Nat.lt_or_ge k L.length with h' | h'
    · exact h'
    · rw [List.getElem?_eq_none h'] at h; cases h
  rw [take_snoc L k hk, List.any_append]
  rw [List.getElem?_eq_getElem hk] at h
  rw [Option.some.inj h]
  simp
theorem any_hit {L : List Pc} {k : Nat} {q : Pc} (h : L[k]? = some q) (ho : q.own = false) : L.any (fun x => !x.own) = true :=
  List.any_eq_true.2 ⟨q, List.mem_of_getElem? h, by simp [ho]⟩
set_option maxHeartbeats 4000000 in
theorem alive_any (w : World) (p : List UInt8) (hp : p.length ≤ 100000) :
    Calls Try.prog 11 #[.string (BA p)] w fun e w' => e = .returned (.bool (aliveF p)) ∧ Kept (fun _ => False) w w' := by
  go_enter Try.func11, Try.ntmps11
  go_wp2_with fail
  refine (pieces_any w p hp).mono ?_
  rintro e w1 ⟨v, xs, rfl, hpr, hxs⟩
  obtain ⟨a, c, rfl, hc1, hc2, _⟩ := own_slice hpr.own
  obtain ⟨L, hL⟩ : ∃ L, piecesF p.length p = L := ⟨_, rfl⟩
  rw [hL] at hxs
  obtain ⟨N, hN⟩ : ∃ N, xs.length = N := ⟨_, rfl⟩
  have hLN : L.length = N := by rw [← hxs, List.length_map, hN]
  have HF : Hid (aliveF p = L.any fun x => !x.own) := Lw.hid (by unfold aliveF; rw [hL])
  have HXS := Lw.hid hxs; have HLN := Lw.hid hLN
  rw [hN] at hpr hc1 ⊢
  have HPR := Lw.hid hpr
  unfold maxLen at hc2
  clear hL hxs hN hLN hpr
  go_wp2_with fail
  go_loopw [8] (fun i wx => ∃ k : Nat, k ≤ N ∧ i = .int .i64 (k : Int) ∧ (L.take k).any (fun x => !x.own) = false ∧ Kept (fun _ => False) w1 wx) (fun i _ => N - (intOf i).toNat)
  case atStart => exact ⟨0, Nat.zero_le _, rfl, rfl, Kept.refl _ _⟩
  case round =>
    obtain ⟨k, hk, rfl, he, hkk⟩ := hrel
    have HE := Lw.hid he; have HK := Lw.hid hkk
    have HP2 := Lw.hid (HPR.out.keep hkk)
    clear he hkk
    by_cases hlt : k < N
    · obtain ⟨q, hq⟩ : ∃ q, L[k]? = some q := ⟨_, List.getElem?_eq_getElem (by rw [HLN.out]; exact hlt)⟩
      have HQ := Lw.hid hq
      obtain ⟨g, x, hax, c0, c1, c2, hset⟩ := HP2.out.at k q (by rw [HXS.out]; exact hq)
      subst hax
      clear hq hset
      cases hown : q.own with
      | true =>
        have HE2 : Hid ((L.take (k + 1)).any (fun x => !x.own) = false) := Lw.hid (by rw [any_snoc HQ.out, HE.out, hown]; rfl)
        rw [hown] at c2
        clear hown
        go_wp2_with fail
        go_roundw
        case rel => exact ⟨k + 1, by omega, by go_num, HE2.out, HK.out.alloc _⟩
        case measure => simp [intOf]; omega
      | false =>
        have HR : Hid (aliveF p = true) := Lw.hid (by rw [HF.out]; exact any_hit HQ.out hown)
        rw [hown] at c2
        clear hown
        go_wp2_with fail
        go_ret
        rw [HR.out]
        exact ⟨rfl, (HPR.out.kept.trans HK.out (fun _ _ h => h)).alloc _⟩
    · have HR : Hid (aliveF p = false) := Lw.hid (by
        rw [HF.out]
        have := HE.out
        rw [List.take_of_length_le (by rw [HLN.out]; omega)] at this
        exact this)
      go_wp2_with fail
      go_ret
      rw [HR.out]
      exact ⟨rfl, HPR.out.kept.trans HK.out (fun _ _ h => h)⟩
end Go.Proofs.Ytgedgnhloibclaa
