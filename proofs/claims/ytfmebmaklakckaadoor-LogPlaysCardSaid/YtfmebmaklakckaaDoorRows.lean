/-
  NARROWER THAN 'FOR EVERY INPUT', by the rows' own cells (each row's printed sentence says how): LogKnown: laid · LogPlays: laid · LogAgain: laid · LogGood: laid.
  DERIVED. THE GIVEN ROWS OF THIS SEAT. 4 by the template 'for every input the law returns true; each argument reads behind the call as it read before'; 0 by the template 'total and deterministic' (their statements: YtfmebmaklakckaaDoorTotals.lean).
  GIVEN WITH THE SEED: the statements are not yours to turn. If you find one false, say at which input.
  Laid BY PROGRAM, IN A SANDBOX (cutbox-rows.mjs): the forced cells as the released guide's own fill.sh prints them over the translation b06b0a36aa9ff0de… (all of the seat's roots in one cut). By AI agents, Wed Nov 11 2026. No macro, syntax, notation, axiom, sorry.
-/
import Derived.Test.YtfmebmaklakckaaDoorChecked
import GoSem.Claim
import GoSem.ClaimJoined
import GoSem.ClaimMapViews
import Derived.JoinedTies
import Derived.KernelRfl
namespace Go.Proofs.YtfmebmaklakckaaDoor
/- THE CELL 'sum', in the pinned program and in every row, IS THE sha256 OF THE DUMP (.gsa) THAT YtfmebmaklakckaaDoorProg.lean LOADS. Nothing in Lean hashes anything: it is a label: what it is worth is what the hold of that sum in a sandbox is worth. -/
noncomputable def Tryd.pinned : Pinned := { name := "ytfmebmaklakckaadoor", sum := "b06b0a36aa9ff0de8615ed290e9ab9ffa0d6347bd63ea6abc6c35703edb67383", checked := Tryd.checked }
namespace Rows
def none {H : Type} : Left H := { results := [], args := [] }

/- WHAT THE LISTED PACKAGE-LEVEL VARIABLES READ AS WHEN THE CALL BEGINS. Each datum BY PROGRAM (the guide's laid-datum.mjs) off the statement by which the dump's own 'gosem.cut.vars' lays the variable. In a bare row this is a premise. The card (YtfmebmaklakckaaDoorCards.lean) ties it to the program's text. -/
def laid_longwire_scribe_table {H : Type} : DataW H := .agg [.lit (.int .u32 0), .lit (.int .u32 498536548), .lit (.int .u32 997073096), .lit (.int .u32 651767980), .lit (.int .u32 1994146192), .lit (.int .u32 1802195444), .lit (.int .u32 1303535960), .lit (.int .u32 1342533948), .lit (.int .u32 3988292384), .lit (.int .u32 4027552580), .lit (.int .u32 3604390888), .lit (.int .u32 3412177804), .lit (.int .u32 2607071920), .lit (.int .u32 2262029012), .lit (.int .u32 2685067896), .lit (.int .u32 3183342108)]

/-- 'longwirelaw15.LogKnown': WHATEVER THE INPUT: true; the input reads as it did. -/
def logKnownSpec : ChangeSpec := { name := "logKnown", fn := fun _ => fun
  | [] => { results := [.lit (.bool true)], args := [] }
  | _ => none }
def logKnownRow : OpenClaim := { program := "ytfmebmaklakckaadoor", sum := "b06b0a36aa9ff0de8615ed290e9ab9ffa0d6347bd63ea6abc6c35703edb67383", func := "longwire/longwirelaw15.LogKnown", spec := "logKnown", unfollowed := true, recurses := true, named := ["longwire/scribe.table"], apart := false, laid := [("longwire/scribe.table", laid_longwire_scribe_table)] }
def LogKnownSaid : Prop := logKnownRow.holds Tryd.pinned (OpenSpec.ofChange logKnownSpec)

/-- ITS FALSE NEIGHBOUR: 'it returns false'. Refute it at one input. -/
def logKnownWrong : ChangeSpec := { name := "logKnown", fn := fun _ => fun
  | [] => { results := [.lit (.bool false)], args := [] }
  | _ => none }
def LogKnownWrongFalsely : Prop := logKnownRow.holds Tryd.pinned (OpenSpec.ofChange logKnownWrong)

/-- 'longwirelaw15.LogPlays': WHATEVER THE INPUT: true; the input reads as it did. -/
def logPlaysSpec : ChangeSpec := { name := "logPlays", fn := fun _ => fun
  | [d] => { results := [.lit (.bool true)], args := [d] }
  | _ => none }
def logPlaysRow : OpenClaim := { program := "ytfmebmaklakckaadoor", sum := "b06b0a36aa9ff0de8615ed290e9ab9ffa0d6347bd63ea6abc6c35703edb67383", func := "longwire/longwirelaw15.LogPlays", spec := "logPlays", unfollowed := true, recurses := true, named := ["longwire/scribe.table"], apart := false, laid := [("longwire/scribe.table", laid_longwire_scribe_table)] }
def LogPlaysSaid : Prop := logPlaysRow.holds Tryd.pinned (OpenSpec.ofChange logPlaysSpec)

/-- ITS FALSE NEIGHBOUR: 'it returns false'. Refute it at one input. -/
def logPlaysWrong : ChangeSpec := { name := "logPlays", fn := fun _ => fun
  | [d] => { results := [.lit (.bool false)], args := [d] }
  | _ => none }
def LogPlaysWrongFalsely : Prop := logPlaysRow.holds Tryd.pinned (OpenSpec.ofChange logPlaysWrong)

/-- 'longwirelaw15.LogAgain': WHATEVER THE INPUT: true; the input reads as it did. -/
def logAgainSpec : ChangeSpec := { name := "logAgain", fn := fun _ => fun
  | [d1, d2, d3] => { results := [.lit (.bool true)], args := [d1, d2, d3] }
  | _ => none }
def logAgainRow : OpenClaim := { program := "ytfmebmaklakckaadoor", sum := "b06b0a36aa9ff0de8615ed290e9ab9ffa0d6347bd63ea6abc6c35703edb67383", func := "longwire/longwirelaw15.LogAgain", spec := "logAgain", unfollowed := true, recurses := true, named := ["longwire/scribe.table"], apart := false, laid := [("longwire/scribe.table", laid_longwire_scribe_table)] }
def LogAgainSaid : Prop := logAgainRow.holds Tryd.pinned (OpenSpec.ofChange logAgainSpec)

/-- ITS FALSE NEIGHBOUR: 'it returns false'. Refute it at one input. -/
def logAgainWrong : ChangeSpec := { name := "logAgain", fn := fun _ => fun
  | [d1, d2, d3] => { results := [.lit (.bool false)], args := [d1, d2, d3] }
  | _ => none }
def LogAgainWrongFalsely : Prop := logAgainRow.holds Tryd.pinned (OpenSpec.ofChange logAgainWrong)

/-- 'longwirelaw15.LogGood': WHATEVER THE INPUT: true; the input reads as it did. -/
def logGoodSpec : ChangeSpec := { name := "logGood", fn := fun _ => fun
  | [d] => { results := [.lit (.bool true)], args := [d] }
  | _ => none }
def logGoodRow : OpenClaim := { program := "ytfmebmaklakckaadoor", sum := "b06b0a36aa9ff0de8615ed290e9ab9ffa0d6347bd63ea6abc6c35703edb67383", func := "longwire/longwirelaw15.LogGood", spec := "logGood", unfollowed := true, recurses := true, named := ["longwire/scribe.table"], apart := false, laid := [("longwire/scribe.table", laid_longwire_scribe_table)] }
def LogGoodSaid : Prop := logGoodRow.holds Tryd.pinned (OpenSpec.ofChange logGoodSpec)

/-- ITS FALSE NEIGHBOUR: 'it returns false'. Refute it at one input. -/
def logGoodWrong : ChangeSpec := { name := "logGood", fn := fun _ => fun
  | [d] => { results := [.lit (.bool false)], args := [d] }
  | _ => none }
def LogGoodWrongFalsely : Prop := logGoodRow.holds Tryd.pinned (OpenSpec.ofChange logGoodWrong)

/- THE SECOND FORM. 'bulk': how many values and letters a reading holds, each counted each time it is reached (what is shared counts as often as it is met; a slice's spare places count too). A statement '..UptoSaid' is the law's where the arguments, and the package variables that the reading takes, are together of bulk at most 1048576: NARROWER than '..Said'. Prove '..Said' where nothing that the law and all that it calls make is longer than what came in: it says more and counts as full. Else prove '..UptoSaid'. A law counts once. -/
mutual
def uptoBulk {H : Type} : DataW H → Nat
  | .lit (.string bytes) => bytes.length + 1
  | .lit _ => 1
  | .nil => 1
  | .ptr d => uptoBulk d + 1
  | .slice elems spare => uptoBulkAll elems + uptoBulkAll spare + 1
  | .agg parts => uptoBulkAll parts + 1
  | .iface _ d => uptoBulk d + 1
  | .map entries => uptoBulkEntries entries + 1
  | .held _ => 1
def uptoBulkAll {H : Type} : List (DataW H) → Nat
  | [] => 0
  | d :: r => uptoBulk d + uptoBulkAll r
def uptoBulkEntries {H : Type} : List (Lit × DataW H) → Nat
  | [] => 0
  | x :: r => uptoBulkEntry x + uptoBulkEntries r
def uptoBulkEntry {H : Type} : Lit × DataW H → Nat
  | (.string bytes, d) => bytes.length + uptoBulk d + 1
  | (_, d) => uptoBulk d + 1
 end
def uptoSmall : (H : Type) → List (DataW H) → Bool := fun _ ds => decide (uptoBulkAll ds ≤ 1048576)
def OpenSpec.upto (s : _root_.Go.ChangeSpec) : _root_.Go.OpenSpec := { _root_.Go.OpenSpec.ofChange s with cond := some uptoSmall }

/-- 'longwirelaw15.LogKnown', WHERE WHAT IT READS IS OF BULK AT MOST 1048576: true; the input reads as it did. -/
def logKnownUptoRow : OpenClaim := { program := "ytfmebmaklakckaadoor", sum := "b06b0a36aa9ff0de8615ed290e9ab9ffa0d6347bd63ea6abc6c35703edb67383", func := "longwire/longwirelaw15.LogKnown", spec := "logKnown", unfollowed := true, recurses := true, named := ["longwire/scribe.table"], apart := false, laid := [("longwire/scribe.table", laid_longwire_scribe_table)], narrowed := true }
def LogKnownUptoSaid : Prop := logKnownUptoRow.holds Tryd.pinned (OpenSpec.upto logKnownSpec)

/-- 'longwirelaw15.LogPlays', WHERE WHAT IT READS IS OF BULK AT MOST 1048576: true; the input reads as it did. -/
def logPlaysUptoRow : OpenClaim := { program := "ytfmebmaklakckaadoor", sum := "b06b0a36aa9ff0de8615ed290e9ab9ffa0d6347bd63ea6abc6c35703edb67383", func := "longwire/longwirelaw15.LogPlays", spec := "logPlays", unfollowed := true, recurses := true, named := ["longwire/scribe.table"], apart := false, laid := [("longwire/scribe.table", laid_longwire_scribe_table)], narrowed := true }
def LogPlaysUptoSaid : Prop := logPlaysUptoRow.holds Tryd.pinned (OpenSpec.upto logPlaysSpec)

/-- 'longwirelaw15.LogAgain', WHERE WHAT IT READS IS OF BULK AT MOST 1048576: true; the input reads as it did. -/
def logAgainUptoRow : OpenClaim := { program := "ytfmebmaklakckaadoor", sum := "b06b0a36aa9ff0de8615ed290e9ab9ffa0d6347bd63ea6abc6c35703edb67383", func := "longwire/longwirelaw15.LogAgain", spec := "logAgain", unfollowed := true, recurses := true, named := ["longwire/scribe.table"], apart := false, laid := [("longwire/scribe.table", laid_longwire_scribe_table)], narrowed := true }
def LogAgainUptoSaid : Prop := logAgainUptoRow.holds Tryd.pinned (OpenSpec.upto logAgainSpec)

/-- 'longwirelaw15.LogGood', WHERE WHAT IT READS IS OF BULK AT MOST 1048576: true; the input reads as it did. -/
def logGoodUptoRow : OpenClaim := { program := "ytfmebmaklakckaadoor", sum := "b06b0a36aa9ff0de8615ed290e9ab9ffa0d6347bd63ea6abc6c35703edb67383", func := "longwire/longwirelaw15.LogGood", spec := "logGood", unfollowed := true, recurses := true, named := ["longwire/scribe.table"], apart := false, laid := [("longwire/scribe.table", laid_longwire_scribe_table)], narrowed := true }
def LogGoodUptoSaid : Prop := logGoodUptoRow.holds Tryd.pinned (OpenSpec.upto logGoodSpec)

end Rows
end Go.Proofs.YtfmebmaklakckaaDoor
