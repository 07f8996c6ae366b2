/- package word: Bare. -/
import Derived.Test.YtifcgeanippepaaDoorWord8
namespace Go.Proofs.YtifcgeanippepaaDoor
open Go Go.RowKit Go.Lw
set_option maxRecDepth 100000
set_option linter.unusedVariables false
set_option linter.unusedSimpArgs false
attribute [local go_sem] BA_toList
/-- A word that is just an unquoted Plain. -/
def bareF : List Prt → Option (List UInt8)
  | [.mk k t _ q] => if k = 1 ∧ q = false then some t else none
  | _ => none
def bareV (l : List Prt) : Value := match bareF l with
  | some t => .tuple #[.string (BA t), .bool true]
  | none => .tuple #[.string (BA []), .bool false]
theorem bare_any (w : World) (F : Nat → Prop) (v : Value) (l : List Prt) (h : WAt w F v l) :
    Calls Tryd.prog 22 #[v] w fun x w' => x = .returned (bareV l) ∧ w' = w := by
  obtain ⟨a, n, c, rfl⟩ := h.slice
  have hn := h.elem.1
  by_cases h1 : l.length = 1
  · obtain ⟨⟨k, t, o, q⟩, rfl⟩ : ∃ p, l = [p] := List.length_eq_one_iff.1 h1
    obtain ⟨b, off, oa, on, oc, rfl, c0, c1, c2, c3, _⟩ := h.elem.2 0 _ rfl
    simp only [Nat.zero_mul, Nat.add_zero, Prt.kind, Prt.text, Prt.quoted] at c0 c1 c3
    have hn1 : n = 1 := hn
    clear h hn h1
    subst hn1
    by_cases hk : k = 1
    · have bk : (k != 1) = false := by rw [hk]; rfl
      cases q with
      | true =>
        have HB : Hid (bareV [.mk k t o true] = .tuple #[.string (BA []), .bool false]) := Lw.hid (by unfold bareV bareF; simp)
        clear hk
        go_enter Tryd.func22, Tryd.ntmps22
        go_wp2_with fail
        go_ret2
        rw [HB.out]
        exact ⟨rfl, rfl⟩
      | false =>
        have HB : Hid (bareV [.mk k t o false] = .tuple #[.string (BA t), .bool true]) := Lw.hid (by unfold bareV bareF; simp [hk])
        clear hk
        go_enter Tryd.func22, Tryd.ntmps22
        go_wp2_with fail
        go_ret2
        rw [HB.out]
        exact ⟨rfl, rfl⟩
    · have bk : (k != 1) = true := by simpa [bne] using hk
      have HB : Hid (bareV [.mk k t o q] = .tuple #[.string (BA []), .bool false]) := Lw.hid (by unfold bareV bareF; simp [hk])
      clear hk
      go_enter Tryd.func22, Tryd.ntmps22
      go_wp2_with fail
      go_ret2
      rw [HB.out]
      exact ⟨rfl, rfl⟩
  · have bn : ((n : Int) != 1) = true := by simp [bne]; omega
    have HB : Hid (bareV l = .tuple #[.string (BA []), .bool false]) := Lw.hid (by
      unfold bareV bareF
      split
      · rename_i heq
        split at heq
        · simp at h1
        · cases heq
      · rfl)
    clear h hn h1
    go_enter Tryd.func22, Tryd.ntmps22
    go_wp2_with fail
    go_ret2
    rw [HB.out]
    exact ⟨rfl, rfl⟩
end Go.Proofs.YtifcgeanippepaaDoor
