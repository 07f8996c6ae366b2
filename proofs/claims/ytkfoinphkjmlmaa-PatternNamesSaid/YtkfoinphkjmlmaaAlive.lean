/- pattern.Alive; what the document's examples say. -/
import Derived.Test.YtkfoinphkjmlmaaMatchW
namespace Go.Proofs.Ytkfoinphkjmlmaa
open Go Go.RowKit Go.Lw
set_option maxRecDepth 100000
set_option linter.unusedVariables false
attribute [local go_sem] BA_toList
def aliveF (p : List UInt8) : Bool := (piecesF p.length p).any fun x => !x.own
theorem any_snoc {L : List Pc} {k : Nat} {q : Pc} (h : L[k]? = some q) : (L.take (k + 1)).any (fun x => !x.own) = ((L.take k).any (fun x => !x.own) || !q.own) := by
  have hk : k < L.length := by
    rcases Nat.lt_or_ge k L.length with h' | h'
    · exact h'
    · rw [List.getElem?_eq_none h'] at h; cases h
  rw [take_snoc L k hk, List.any_append]
  rw [List.getElem?_eq_getElem hk] at h
  rw [Option.some.inj h]
  simp
theorem any_hit {L : List Pc} {k : Nat} {q : Pc} (h : L[k]? = some q) (ho : q.own = false) : L.any (fun x => !x.own) = true :=
  List.any_eq_true.2 ⟨q, List.mem_of_getElem? h, by simp [ho]⟩
end Go.Proofs.Ytkfoinphkjmlmaa
