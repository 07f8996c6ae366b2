/-
  No cell of these rows narrows 'for every input' (looked for: loops, veiled, ifaces, maps, wideKeys, modest, calm, conditions, laid).
  DERIVED. THE GIVEN ROWS OF THIS SEAT. 6 by the template 'for every input the law returns true; each argument reads behind the call as it read before'; 0 by the template 'total and deterministic' (their statements: YtgedgnhloibclaaTotals.lean).
  GIVEN WITH THE SEED: the statements are not yours to turn. If you find one false, say at which input.
  Laid BY PROGRAM, IN A SANDBOX (cutbox-rows.mjs): the forced cells as the released guide's own fill.sh prints them over the translation a38ae6686b11a3b9… (all of the seat's roots in one cut). By AI agents, Wed Nov 11 2026. No macro, syntax, notation, axiom, sorry.
-/
import Derived.Test.YtgedgnhloibclaaChecked
import GoSem.Claim
import GoSem.ClaimJoined
import GoSem.ClaimMapViews
import Derived.JoinedTies
import Derived.KernelRfl
namespace Go.Proofs.Ytgedgnhloibclaa
/- THE CELL 'sum', in the pinned program and in every row, IS THE sha256 OF THE DUMP (.gsa) THAT YtgedgnhloibclaaProg.lean LOADS. Nothing in Lean hashes anything: it is a label: what it is worth is what the hold of that sum in a sandbox is worth. -/
noncomputable def Try.pinned : Pinned := { name := "ytgedgnhloibclaa", sum := "a38ae6686b11a3b9837b7f330b1f341872479303e7dcf29eecfacadf4e639269", checked := Try.checked }
namespace Rows
def none {H : Type} : Left H := { results := [], args := [] }

/-- 'longwirelaw21.PatternSets': WHATEVER THE INPUT: true; the input reads as it did. -/
def patternSetsSpec : ChangeSpec := { name := "patternSets", fn := fun _ => fun
  | [d1, d2, d3, d4] => { results := [.lit (.bool true)], args := [d1, d2, d3, d4] }
  | _ => none }
def patternSetsRow : OpenClaim := { program := "ytgedgnhloibclaa", sum := "a38ae6686b11a3b9837b7f330b1f341872479303e7dcf29eecfacadf4e639269", func := "longwire/longwirelaw21.PatternSets", spec := "patternSets", unfollowed := true, recurses := true, apart := false }
def PatternSetsSaid : Prop := patternSetsRow.holds Try.pinned (OpenSpec.ofChange patternSetsSpec)

/-- ITS FALSE NEIGHBOUR: 'it returns false'. Refute it at one input. -/
def patternSetsWrong : ChangeSpec := { name := "patternSets", fn := fun _ => fun
  | [d1, d2, d3, d4] => { results := [.lit (.bool false)], args := [d1, d2, d3, d4] }
  | _ => none }
def PatternSetsWrongFalsely : Prop := patternSetsRow.holds Try.pinned (OpenSpec.ofChange patternSetsWrong)

/-- 'longwirelaw21.PatternNames': WHATEVER THE INPUT: true; the input reads as it did. -/
def patternNamesSpec : ChangeSpec := { name := "patternNames", fn := fun _ => fun
  | [d1, d2, d3] => { results := [.lit (.bool true)], args := [d1, d2, d3] }
  | _ => none }
def patternNamesRow : OpenClaim := { program := "ytgedgnhloibclaa", sum := "a38ae6686b11a3b9837b7f330b1f341872479303e7dcf29eecfacadf4e639269", func := "longwire/longwirelaw21.PatternNames", spec := "patternNames", unfollowed := true, recurses := true, apart := false }
def PatternNamesSaid : Prop := patternNamesRow.holds Try.pinned (OpenSpec.ofChange patternNamesSpec)

/-- ITS FALSE NEIGHBOUR: 'it returns false'. Refute it at one input. -/
def patternNamesWrong : ChangeSpec := { name := "patternNames", fn := fun _ => fun
  | [d1, d2, d3] => { results := [.lit (.bool false)], args := [d1, d2, d3] }
  | _ => none }
def PatternNamesWrongFalsely : Prop := patternNamesRow.holds Try.pinned (OpenSpec.ofChange patternNamesWrong)

/-- 'longwirelaw21.PatternMatches': WHATEVER THE INPUT: true; the input reads as it did. -/
def patternMatchesSpec : ChangeSpec := { name := "patternMatches", fn := fun _ => fun
  | [d1, d2] => { results := [.lit (.bool true)], args := [d1, d2] }
  | _ => none }
def patternMatchesRow : OpenClaim := { program := "ytgedgnhloibclaa", sum := "a38ae6686b11a3b9837b7f330b1f341872479303e7dcf29eecfacadf4e639269", func := "longwire/longwirelaw21.PatternMatches", spec := "patternMatches", inPlace := ["internal/bytealg.IndexByteString", "internal/abi.NoEscape"], recurses := true, apart := false }
def PatternMatchesSaid : Prop := patternMatchesRow.holds Try.pinned (OpenSpec.ofChange patternMatchesSpec)

/-- ITS FALSE NEIGHBOUR: 'it returns false'. Refute it at one input. -/
def patternMatchesWrong : ChangeSpec := { name := "patternMatches", fn := fun _ => fun
  | [d1, d2] => { results := [.lit (.bool false)], args := [d1, d2] }
  | _ => none }
def PatternMatchesWrongFalsely : Prop := patternMatchesRow.holds Try.pinned (OpenSpec.ofChange patternMatchesWrong)

/-- 'longwirelaw21.PatternQuoted': WHATEVER THE INPUT: true; the input reads as it did. -/
def patternQuotedSpec : ChangeSpec := { name := "patternQuoted", fn := fun _ => fun
  | [d1, d2] => { results := [.lit (.bool true)], args := [d1, d2] }
  | _ => none }
def patternQuotedRow : OpenClaim := { program := "ytgedgnhloibclaa", sum := "a38ae6686b11a3b9837b7f330b1f341872479303e7dcf29eecfacadf4e639269", func := "longwire/longwirelaw21.PatternQuoted", spec := "patternQuoted", inPlace := ["internal/bytealg.IndexByteString", "internal/abi.NoEscape"], apart := false }
def PatternQuotedSaid : Prop := patternQuotedRow.holds Try.pinned (OpenSpec.ofChange patternQuotedSpec)

/-- ITS FALSE NEIGHBOUR: 'it returns false'. Refute it at one input. -/
def patternQuotedWrong : ChangeSpec := { name := "patternQuoted", fn := fun _ => fun
  | [d1, d2] => { results := [.lit (.bool false)], args := [d1, d2] }
  | _ => none }
def PatternQuotedWrongFalsely : Prop := patternQuotedRow.holds Try.pinned (OpenSpec.ofChange patternQuotedWrong)

/-- 'longwirelaw21.PatternKnown': WHATEVER THE INPUT: true; the input reads as it did. -/
def patternKnownSpec : ChangeSpec := { name := "patternKnown", fn := fun _ => fun
  | [] => { results := [.lit (.bool true)], args := [] }
  | _ => none }
def patternKnownRow : OpenClaim := { program := "ytgedgnhloibclaa", sum := "a38ae6686b11a3b9837b7f330b1f341872479303e7dcf29eecfacadf4e639269", func := "longwire/longwirelaw21.PatternKnown", spec := "patternKnown", inPlace := ["internal/bytealg.IndexByteString", "internal/abi.NoEscape"], apart := false }
def PatternKnownSaid : Prop := patternKnownRow.holds Try.pinned (OpenSpec.ofChange patternKnownSpec)

/-- ITS FALSE NEIGHBOUR: 'it returns false'. Refute it at one input. -/
def patternKnownWrong : ChangeSpec := { name := "patternKnown", fn := fun _ => fun
  | [] => { results := [.lit (.bool false)], args := [] }
  | _ => none }
def PatternKnownWrongFalsely : Prop := patternKnownRow.holds Try.pinned (OpenSpec.ofChange patternKnownWrong)

/-- 'longwirelaw21.PatternAdds': WHATEVER THE INPUT: true; the input reads as it did. -/
def patternAddsSpec : ChangeSpec := { name := "patternAdds", fn := fun _ => fun
  | [d1, d2, d3] => { results := [.lit (.bool true)], args := [d1, d2, d3] }
  | _ => none }
def patternAddsRow : OpenClaim := { program := "ytgedgnhloibclaa", sum := "a38ae6686b11a3b9837b7f330b1f341872479303e7dcf29eecfacadf4e639269", func := "longwire/longwirelaw21.PatternAdds", spec := "patternAdds", inPlace := ["internal/abi.NoEscape", "internal/bytealg.MakeNoZero", "internal/bytealg.IndexByteString", "internal/bytealg.IndexString"], named := ["internal/bytealg.MaxLen"], apart := false }
def PatternAddsSaid : Prop := patternAddsRow.holds Try.pinned (OpenSpec.ofChange patternAddsSpec)

/-- ITS FALSE NEIGHBOUR: 'it returns false'. Refute it at one input. -/
def patternAddsWrong : ChangeSpec := { name := "patternAdds", fn := fun _ => fun
  | [d1, d2, d3] => { results := [.lit (.bool false)], args := [d1, d2, d3] }
  | _ => none }
def PatternAddsWrongFalsely : Prop := patternAddsRow.holds Try.pinned (OpenSpec.ofChange patternAddsWrong)

/- THE SECOND FORM. 'bulk': how many values and letters a reading holds, each counted each time it is reached (what is shared counts as often as it is met; a slice's spare places count too). A statement '..UptoSaid' is the law's where the arguments, and the package variables that the reading takes, are together of bulk at most 1048576: NARROWER than '..Said'. Prove '..Said' where nothing that the law and all that it calls make is longer than what came in: it says more and counts as full. Else prove '..UptoSaid'. A law counts once. -/
mutual
def uptoBulk {H : Type} : DataW H → Nat
  | .lit (.string bytes) => bytes.length + 1
  | .lit _ => 1
  | .nil => 1
  | .ptr d => uptoBulk d + 1
  | .slice elems spare => uptoBulkAll elems + uptoBulkAll spare + 1
  | .agg parts => uptoBulkAll parts + 1
  | .iface _ d => uptoBulk d + 1
  | .map entries => uptoBulkEntries entries + 1
  | .held _ => 1
def uptoBulkAll {H : Type} : List (DataW H) → Nat
  | [] => 0
  | d :: r => uptoBulk d + uptoBulkAll r
def uptoBulkEntries {H : Type} : List (Lit × DataW H) → Nat
  | [] => 0
  | x :: r => uptoBulkEntry x + uptoBulkEntries r
def uptoBulkEntry {H : Type} : Lit × DataW H → Nat
  | (.string bytes, d) => bytes.length + uptoBulk d + 1
  | (_, d) => uptoBulk d + 1
 end
def uptoSmall : (H : Type) → List (DataW H) → Bool := fun _ ds => decide (uptoBulkAll ds ≤ 1048576)
def OpenSpec.upto (s : _root_.Go.ChangeSpec) : _root_.Go.OpenSpec := { _root_.Go.OpenSpec.ofChange s with cond := some uptoSmall }

/-- 'longwirelaw21.PatternSets', WHERE WHAT IT READS IS OF BULK AT MOST 1048576: true; the input reads as it did. -/
def patternSetsUptoRow : OpenClaim := { program := "ytgedgnhloibclaa", sum := "a38ae6686b11a3b9837b7f330b1f341872479303e7dcf29eecfacadf4e639269", func := "longwire/longwirelaw21.PatternSets", spec := "patternSets", unfollowed := true, recurses := true, apart := false, narrowed := true }
def PatternSetsUptoSaid : Prop := patternSetsUptoRow.holds Try.pinned (OpenSpec.upto patternSetsSpec)

/-- 'longwirelaw21.PatternNames', WHERE WHAT IT READS IS OF BULK AT MOST 1048576: true; the input reads as it did. -/
def patternNamesUptoRow : OpenClaim := { program := "ytgedgnhloibclaa", sum := "a38ae6686b11a3b9837b7f330b1f341872479303e7dcf29eecfacadf4e639269", func := "longwire/longwirelaw21.PatternNames", spec := "patternNames", unfollowed := true, recurses := true, apart := false, narrowed := true }
def PatternNamesUptoSaid : Prop := patternNamesUptoRow.holds Try.pinned (OpenSpec.upto patternNamesSpec)

/-- 'longwirelaw21.PatternMatches', WHERE WHAT IT READS IS OF BULK AT MOST 1048576: true; the input reads as it did. -/
def patternMatchesUptoRow : OpenClaim := { program := "ytgedgnhloibclaa", sum := "a38ae6686b11a3b9837b7f330b1f341872479303e7dcf29eecfacadf4e639269", func := "longwire/longwirelaw21.PatternMatches", spec := "patternMatches", inPlace := ["internal/bytealg.IndexByteString", "internal/abi.NoEscape"], recurses := true, apart := false, narrowed := true }
def PatternMatchesUptoSaid : Prop := patternMatchesUptoRow.holds Try.pinned (OpenSpec.upto patternMatchesSpec)

/-- 'longwirelaw21.PatternQuoted', WHERE WHAT IT READS IS OF BULK AT MOST 1048576: true; the input reads as it did. -/
def patternQuotedUptoRow : OpenClaim := { program := "ytgedgnhloibclaa", sum := "a38ae6686b11a3b9837b7f330b1f341872479303e7dcf29eecfacadf4e639269", func := "longwire/longwirelaw21.PatternQuoted", spec := "patternQuoted", inPlace := ["internal/bytealg.IndexByteString", "internal/abi.NoEscape"], apart := false, narrowed := true }
def PatternQuotedUptoSaid : Prop := patternQuotedUptoRow.holds Try.pinned (OpenSpec.upto patternQuotedSpec)

/-- 'longwirelaw21.PatternKnown', WHERE WHAT IT READS IS OF BULK AT MOST 1048576: true; the input reads as it did. -/
def patternKnownUptoRow : OpenClaim := { program := "ytgedgnhloibclaa", sum := "a38ae6686b11a3b9837b7f330b1f341872479303e7dcf29eecfacadf4e639269", func := "longwire/longwirelaw21.PatternKnown", spec := "patternKnown", inPlace := ["internal/bytealg.IndexByteString", "internal/abi.NoEscape"], apart := false, narrowed := true }
def PatternKnownUptoSaid : Prop := patternKnownUptoRow.holds Try.pinned (OpenSpec.upto patternKnownSpec)

/-- 'longwirelaw21.PatternAdds', WHERE WHAT IT READS IS OF BULK AT MOST 1048576: true; the input reads as it did. -/
def patternAddsUptoRow : OpenClaim := { program := "ytgedgnhloibclaa", sum := "a38ae6686b11a3b9837b7f330b1f341872479303e7dcf29eecfacadf4e639269", func := "longwire/longwirelaw21.PatternAdds", spec := "patternAdds", inPlace := ["internal/abi.NoEscape", "internal/bytealg.MakeNoZero", "internal/bytealg.IndexByteString", "internal/bytealg.IndexString"], named := ["internal/bytealg.MaxLen"], apart := false, narrowed := true }
def PatternAddsUptoSaid : Prop := patternAddsUptoRow.holds Try.pinned (OpenSpec.upto patternAddsSpec)

end Rows
end Go.Proofs.Ytgedgnhloibclaa
