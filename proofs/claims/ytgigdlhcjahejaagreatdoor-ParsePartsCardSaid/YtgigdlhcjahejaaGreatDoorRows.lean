/-
  NARROWER THAN 'FOR EVERY INPUT', by the rows' own cells (each row's printed sentence says how): ParseBack: loops, laid · ParseParts: laid · ParseBreaks: laid · ParseKnown: laid.
  DERIVED. THE GIVEN ROWS OF THIS SEAT. 4 by the template 'for every input the law returns true; each argument reads behind the call as it read before'; 0 by the template 'total and deterministic' (their statements: YtgigdlhcjahejaaGreatDoorTotals.lean).
  GIVEN WITH THE SEED: the statements are not yours to turn. If you find one false, say at which input.
  Laid BY PROGRAM, IN A SANDBOX (cutbox-rows.mjs): the forced cells as the released guide's own fill.sh prints them over the translation dddcca216b3364e6… (all of the seat's roots in one cut). By AI agents, Wed Nov 11 2026. No macro, syntax, notation, axiom, sorry.
-/
import Derived.Test.YtgigdlhcjahejaaGreatDoorChecked
import GoSem.Claim
import GoSem.ClaimJoined
import GoSem.ClaimMapViews
import Derived.JoinedTies
import Derived.KernelRfl
namespace Go.Proofs.YtgigdlhcjahejaaGreatDoor
/- THE CELL 'sum', in the pinned program and in every row, IS THE sha256 OF THE DUMP (.gsa) THAT YtgigdlhcjahejaaGreatDoorProg.lean LOADS. Nothing in Lean hashes anything: it is a label: what it is worth is what the hold of that sum in a sandbox is worth. -/
noncomputable def Tryz.pinned : Pinned := { name := "ytgigdlhcjahejaagreatdoor", sum := "dddcca216b3364e687082673a926a5063a2cb6c3acd79abba286cb528edd0291", checked := Tryz.checked }
namespace Rows
def none {H : Type} : Left H := { results := [], args := [] }

/- WHAT THE LISTED PACKAGE-LEVEL VARIABLES READ AS WHEN THE CALL BEGINS. Each datum BY PROGRAM (the guide's laid-datum.mjs) off the statement by which the dump's own 'gosem.cut.vars' lays the variable. In a bare row this is a premise. The card (YtgigdlhcjahejaaGreatDoorCards.lean) ties it to the program's text. -/
def laid_longwire_lex_operators {H : Type} : DataW H := .agg [.agg [.lit (.int .i64 2), .lit (.string [10])], .agg [.lit (.int .i64 3), .lit (.string [59])], .agg [.lit (.int .i64 4), .lit (.string [38, 38])], .agg [.lit (.int .i64 0), .lit (.string [38])], .agg [.lit (.int .i64 5), .lit (.string [124, 124])], .agg [.lit (.int .i64 6), .lit (.string [124])], .agg [.lit (.int .i64 0), .lit (.string [60, 60])], .agg [.lit (.int .i64 0), .lit (.string [60, 38])], .agg [.lit (.int .i64 0), .lit (.string [60, 62])], .agg [.lit (.int .i64 7), .lit (.string [60])], .agg [.lit (.int .i64 9), .lit (.string [62, 62])], .agg [.lit (.int .i64 0), .lit (.string [62, 38])], .agg [.lit (.int .i64 0), .lit (.string [62, 124])], .agg [.lit (.int .i64 8), .lit (.string [62])], .agg [.lit (.int .i64 11), .lit (.string [50, 62, 62])], .agg [.lit (.int .i64 0), .lit (.string [50, 62, 38])], .agg [.lit (.int .i64 0), .lit (.string [50, 62, 124])], .agg [.lit (.int .i64 10), .lit (.string [50, 62])]]
def laid_longwire_word_ends {H : Type} : DataW H := .agg [.lit (.string []), .lit (.string [34]), .lit (.string [125])]
def laid_longwire_tree_reserved {H : Type} : DataW H := .agg [.lit (.string [33]), .lit (.string [123]), .lit (.string [125]), .lit (.string [105, 102]), .lit (.string [116, 104, 101, 110]), .lit (.string [101, 108, 105, 102]), .lit (.string [101, 108, 115, 101]), .lit (.string [102, 105]), .lit (.string [119, 104, 105, 108, 101]), .lit (.string [117, 110, 116, 105, 108]), .lit (.string [100, 111]), .lit (.string [100, 111, 110, 101]), .lit (.string [102, 111, 114]), .lit (.string [105, 110])]
def laid_longwire_tree_signs {H : Type} : DataW H := .agg [.lit (.string []), .lit (.string []), .lit (.string []), .lit (.string []), .lit (.string []), .lit (.string []), .lit (.string []), .lit (.string [60]), .lit (.string [62]), .lit (.string [62, 62]), .lit (.string [50, 62]), .lit (.string [50, 62, 62])]
def laid_longwire_tree_shapes {H : Type} : DataW H := .iface "func table" (.agg [.nil, .iface "func" (.lit (.string [40, 108, 111, 110, 103, 119, 105, 114, 101, 47, 116, 114, 101, 101, 46, 78, 111, 100, 101, 41, 46, 115, 105, 109, 112, 108, 101])), .iface "func" (.lit (.string [40, 108, 111, 110, 103, 119, 105, 114, 101, 47, 116, 114, 101, 101, 46, 78, 111, 100, 101, 41, 46, 112, 105, 112, 101])), .iface "func" (.lit (.string [40, 108, 111, 110, 103, 119, 105, 114, 101, 47, 116, 114, 101, 101, 46, 78, 111, 100, 101, 41, 46, 106, 111, 105, 110, 101, 100])), .iface "func" (.lit (.string [40, 108, 111, 110, 103, 119, 105, 114, 101, 47, 116, 114, 101, 101, 46, 78, 111, 100, 101, 41, 46, 106, 111, 105, 110, 101, 100])), .iface "func" (.lit (.string [40, 108, 111, 110, 103, 119, 105, 114, 101, 47, 116, 114, 101, 101, 46, 78, 111, 100, 101, 41, 46, 108, 105, 115, 116])), .iface "func" (.lit (.string [40, 108, 111, 110, 103, 119, 105, 114, 101, 47, 116, 114, 101, 101, 46, 78, 111, 100, 101, 41, 46, 98, 114, 97, 110, 99, 104, 101, 115])), .iface "func" (.lit (.string [40, 108, 111, 110, 103, 119, 105, 114, 101, 47, 116, 114, 101, 101, 46, 78, 111, 100, 101, 41, 46, 108, 111, 111, 112])), .iface "func" (.lit (.string [40, 108, 111, 110, 103, 119, 105, 114, 101, 47, 116, 114, 101, 101, 46, 78, 111, 100, 101, 41, 46, 108, 111, 111, 112])), .iface "func" (.lit (.string [40, 108, 111, 110, 103, 119, 105, 114, 101, 47, 116, 114, 101, 101, 46, 78, 111, 100, 101, 41, 46, 101, 97, 99, 104])), .iface "func" (.lit (.string [40, 108, 111, 110, 103, 119, 105, 114, 101, 47, 116, 114, 101, 101, 46, 78, 111, 100, 101, 41, 46, 103, 114, 111, 117, 112]))])

/-- 'longwirelaw19.ParseBack': WHATEVER THE INPUT: true; the input reads as it did. -/
def parseBackSpec : ChangeSpec := { name := "parseBack", fn := fun _ => fun
  | [d1, d2] => { results := [.lit (.bool true)], args := [d1, d2] }
  | _ => none }
def parseBackRow : OpenClaim := { program := "ytgigdlhcjahejaagreatdoor", sum := "dddcca216b3364e687082673a926a5063a2cb6c3acd79abba286cb528edd0291", func := "longwire/longwirelaw19.ParseBack", spec := "parseBack", inPlace := ["internal/bytealg.IndexByteString", "internal/bytealg.IndexString", "internal/abi.NoEscape", "internal/bytealg.MakeNoZero"], unfollowed := true, recurses := true, named := ["longwire/tree.shapes", "internal/bytealg.MaxLen", "longwire/tree.signs", "longwire/lex.operators", "longwire/tree.reserved", "longwire/word.ends"], loops := true, apart := false, laid := [("longwire/lex.operators", laid_longwire_lex_operators), ("longwire/word.ends", laid_longwire_word_ends), ("longwire/tree.reserved", laid_longwire_tree_reserved), ("longwire/tree.signs", laid_longwire_tree_signs), ("longwire/tree.shapes", laid_longwire_tree_shapes)] }
def ParseBackSaid : Prop := parseBackRow.holds Tryz.pinned (OpenSpec.ofChange parseBackSpec)

/-- ITS FALSE NEIGHBOUR: 'it returns false'. Refute it at one input. -/
def parseBackWrong : ChangeSpec := { name := "parseBack", fn := fun _ => fun
  | [d1, d2] => { results := [.lit (.bool false)], args := [d1, d2] }
  | _ => none }
def ParseBackWrongFalsely : Prop := parseBackRow.holds Tryz.pinned (OpenSpec.ofChange parseBackWrong)

/-- 'longwirelaw19.ParseParts': WHATEVER THE INPUT: true; the input reads as it did. -/
def parsePartsSpec : ChangeSpec := { name := "parseParts", fn := fun _ => fun
  | [d1, d2] => { results := [.lit (.bool true)], args := [d1, d2] }
  | _ => none }
def parsePartsRow : OpenClaim := { program := "ytgigdlhcjahejaagreatdoor", sum := "dddcca216b3364e687082673a926a5063a2cb6c3acd79abba286cb528edd0291", func := "longwire/longwirelaw19.ParseParts", spec := "parseParts", inPlace := ["internal/bytealg.IndexByteString", "internal/bytealg.IndexString", "internal/abi.NoEscape", "internal/bytealg.MakeNoZero"], unfollowed := true, recurses := true, named := ["internal/bytealg.MaxLen", "longwire/lex.operators", "longwire/tree.reserved", "longwire/word.ends", "longwire/tree.shapes", "longwire/tree.signs"], apart := false, laid := [("longwire/lex.operators", laid_longwire_lex_operators), ("longwire/word.ends", laid_longwire_word_ends), ("longwire/tree.reserved", laid_longwire_tree_reserved), ("longwire/tree.signs", laid_longwire_tree_signs), ("longwire/tree.shapes", laid_longwire_tree_shapes)] }
def ParsePartsSaid : Prop := parsePartsRow.holds Tryz.pinned (OpenSpec.ofChange parsePartsSpec)

/-- ITS FALSE NEIGHBOUR: 'it returns false'. Refute it at one input. -/
def parsePartsWrong : ChangeSpec := { name := "parseParts", fn := fun _ => fun
  | [d1, d2] => { results := [.lit (.bool false)], args := [d1, d2] }
  | _ => none }
def ParsePartsWrongFalsely : Prop := parsePartsRow.holds Tryz.pinned (OpenSpec.ofChange parsePartsWrong)

/-- 'longwirelaw19.ParseBreaks': WHATEVER THE INPUT: true; the input reads as it did. -/
def parseBreaksSpec : ChangeSpec := { name := "parseBreaks", fn := fun _ => fun
  | [d1, d2] => { results := [.lit (.bool true)], args := [d1, d2] }
  | _ => none }
def parseBreaksRow : OpenClaim := { program := "ytgigdlhcjahejaagreatdoor", sum := "dddcca216b3364e687082673a926a5063a2cb6c3acd79abba286cb528edd0291", func := "longwire/longwirelaw19.ParseBreaks", spec := "parseBreaks", inPlace := ["internal/bytealg.IndexByteString", "internal/bytealg.IndexString", "internal/abi.NoEscape", "internal/bytealg.MakeNoZero"], unfollowed := true, recurses := true, named := ["internal/bytealg.MaxLen", "longwire/lex.operators", "longwire/tree.reserved", "longwire/word.ends", "longwire/tree.shapes", "longwire/tree.signs"], apart := false, laid := [("longwire/lex.operators", laid_longwire_lex_operators), ("longwire/word.ends", laid_longwire_word_ends), ("longwire/tree.reserved", laid_longwire_tree_reserved), ("longwire/tree.signs", laid_longwire_tree_signs), ("longwire/tree.shapes", laid_longwire_tree_shapes)] }
def ParseBreaksSaid : Prop := parseBreaksRow.holds Tryz.pinned (OpenSpec.ofChange parseBreaksSpec)

/-- ITS FALSE NEIGHBOUR: 'it returns false'. Refute it at one input. -/
def parseBreaksWrong : ChangeSpec := { name := "parseBreaks", fn := fun _ => fun
  | [d1, d2] => { results := [.lit (.bool false)], args := [d1, d2] }
  | _ => none }
def ParseBreaksWrongFalsely : Prop := parseBreaksRow.holds Tryz.pinned (OpenSpec.ofChange parseBreaksWrong)

/-- 'longwirelaw19.ParseKnown': WHATEVER THE INPUT: true; the input reads as it did. -/
def parseKnownSpec : ChangeSpec := { name := "parseKnown", fn := fun _ => fun
  | [] => { results := [.lit (.bool true)], args := [] }
  | _ => none }
def parseKnownRow : OpenClaim := { program := "ytgigdlhcjahejaagreatdoor", sum := "dddcca216b3364e687082673a926a5063a2cb6c3acd79abba286cb528edd0291", func := "longwire/longwirelaw19.ParseKnown", spec := "parseKnown", inPlace := ["internal/bytealg.IndexByteString", "internal/bytealg.IndexString", "internal/abi.NoEscape", "internal/bytealg.MakeNoZero"], unfollowed := true, recurses := true, named := ["internal/bytealg.MaxLen", "longwire/lex.operators", "longwire/tree.reserved", "longwire/word.ends", "longwire/tree.shapes", "longwire/tree.signs"], apart := false, laid := [("longwire/lex.operators", laid_longwire_lex_operators), ("longwire/word.ends", laid_longwire_word_ends), ("longwire/tree.reserved", laid_longwire_tree_reserved), ("longwire/tree.signs", laid_longwire_tree_signs), ("longwire/tree.shapes", laid_longwire_tree_shapes)] }
def ParseKnownSaid : Prop := parseKnownRow.holds Tryz.pinned (OpenSpec.ofChange parseKnownSpec)

/-- ITS FALSE NEIGHBOUR: 'it returns false'. Refute it at one input. -/
def parseKnownWrong : ChangeSpec := { name := "parseKnown", fn := fun _ => fun
  | [] => { results := [.lit (.bool false)], args := [] }
  | _ => none }
def ParseKnownWrongFalsely : Prop := parseKnownRow.holds Tryz.pinned (OpenSpec.ofChange parseKnownWrong)

/- THE SECOND FORM. 'bulk': how many values and letters a reading holds, each counted each time it is reached (what is shared counts as often as it is met; a slice's spare places count too). A statement '..UptoSaid' is the law's where the arguments, and the package variables that the reading takes, are together of bulk at most 1048576: NARROWER than '..Said'. Prove '..Said' where nothing that the law and all that it calls make is longer than what came in: it says more and counts as full. Else prove '..UptoSaid'. A law counts once. -/
mutual
def uptoBulk {H : Type} : DataW H → Nat
  | .lit (.string bytes) => bytes.length + 1
  | .lit _ => 1
  | .nil => 1
  | .ptr d => uptoBulk d + 1
  | .slice elems spare => uptoBulkAll elems + uptoBulkAll spare + 1
  | .agg parts => uptoBulkAll parts + 1
  | .iface _ d => uptoBulk d + 1
  | .map entries => uptoBulkEntries entries + 1
  | .held _ => 1
def uptoBulkAll {H : Type} : List (DataW H) → Nat
  | [] => 0
  | d :: r => uptoBulk d + uptoBulkAll r
def uptoBulkEntries {H : Type} : List (Lit × DataW H) → Nat
  | [] => 0
  | x :: r => uptoBulkEntry x + uptoBulkEntries r
def uptoBulkEntry {H : Type} : Lit × DataW H → Nat
  | (.string bytes, d) => bytes.length + uptoBulk d + 1
  | (_, d) => uptoBulk d + 1
 end
def uptoSmall : (H : Type) → List (DataW H) → Bool := fun _ ds => decide (uptoBulkAll ds ≤ 1048576)
def OpenSpec.upto (s : _root_.Go.ChangeSpec) : _root_.Go.OpenSpec := { _root_.Go.OpenSpec.ofChange s with cond := some uptoSmall }

/-- 'longwirelaw19.ParseBack', WHERE WHAT IT READS IS OF BULK AT MOST 1048576: true; the input reads as it did. -/
def parseBackUptoRow : OpenClaim := { program := "ytgigdlhcjahejaagreatdoor", sum := "dddcca216b3364e687082673a926a5063a2cb6c3acd79abba286cb528edd0291", func := "longwire/longwirelaw19.ParseBack", spec := "parseBack", inPlace := ["internal/bytealg.IndexByteString", "internal/bytealg.IndexString", "internal/abi.NoEscape", "internal/bytealg.MakeNoZero"], unfollowed := true, recurses := true, named := ["longwire/tree.shapes", "internal/bytealg.MaxLen", "longwire/tree.signs", "longwire/lex.operators", "longwire/tree.reserved", "longwire/word.ends"], loops := true, apart := false, laid := [("longwire/lex.operators", laid_longwire_lex_operators), ("longwire/word.ends", laid_longwire_word_ends), ("longwire/tree.reserved", laid_longwire_tree_reserved), ("longwire/tree.signs", laid_longwire_tree_signs), ("longwire/tree.shapes", laid_longwire_tree_shapes)], narrowed := true }
def ParseBackUptoSaid : Prop := parseBackUptoRow.holds Tryz.pinned (OpenSpec.upto parseBackSpec)

/-- 'longwirelaw19.ParseParts', WHERE WHAT IT READS IS OF BULK AT MOST 1048576: true; the input reads as it did. -/
def parsePartsUptoRow : OpenClaim := { program := "ytgigdlhcjahejaagreatdoor", sum := "dddcca216b3364e687082673a926a5063a2cb6c3acd79abba286cb528edd0291", func := "longwire/longwirelaw19.ParseParts", spec := "parseParts", inPlace := ["internal/bytealg.IndexByteString", "internal/bytealg.IndexString", "internal/abi.NoEscape", "internal/bytealg.MakeNoZero"], unfollowed := true, recurses := true, named := ["internal/bytealg.MaxLen", "longwire/lex.operators", "longwire/tree.reserved", "longwire/word.ends", "longwire/tree.shapes", "longwire/tree.signs"], apart := false, laid := [("longwire/lex.operators", laid_longwire_lex_operators), ("longwire/word.ends", laid_longwire_word_ends), ("longwire/tree.reserved", laid_longwire_tree_reserved), ("longwire/tree.signs", laid_longwire_tree_signs), ("longwire/tree.shapes", laid_longwire_tree_shapes)], narrowed := true }
def ParsePartsUptoSaid : Prop := parsePartsUptoRow.holds Tryz.pinned (OpenSpec.upto parsePartsSpec)

/-- 'longwirelaw19.ParseBreaks', WHERE WHAT IT READS IS OF BULK AT MOST 1048576: true; the input reads as it did. -/
def parseBreaksUptoRow : OpenClaim := { program := "ytgigdlhcjahejaagreatdoor", sum := "dddcca216b3364e687082673a926a5063a2cb6c3acd79abba286cb528edd0291", func := "longwire/longwirelaw19.ParseBreaks", spec := "parseBreaks", inPlace := ["internal/bytealg.IndexByteString", "internal/bytealg.IndexString", "internal/abi.NoEscape", "internal/bytealg.MakeNoZero"], unfollowed := true, recurses := true, named := ["internal/bytealg.MaxLen", "longwire/lex.operators", "longwire/tree.reserved", "longwire/word.ends", "longwire/tree.shapes", "longwire/tree.signs"], apart := false, laid := [("longwire/lex.operators", laid_longwire_lex_operators), ("longwire/word.ends", laid_longwire_word_ends), ("longwire/tree.reserved", laid_longwire_tree_reserved), ("longwire/tree.signs", laid_longwire_tree_signs), ("longwire/tree.shapes", laid_longwire_tree_shapes)], narrowed := true }
def ParseBreaksUptoSaid : Prop := parseBreaksUptoRow.holds Tryz.pinned (OpenSpec.upto parseBreaksSpec)

/-- 'longwirelaw19.ParseKnown', WHERE WHAT IT READS IS OF BULK AT MOST 1048576: true; the input reads as it did. -/
def parseKnownUptoRow : OpenClaim := { program := "ytgigdlhcjahejaagreatdoor", sum := "dddcca216b3364e687082673a926a5063a2cb6c3acd79abba286cb528edd0291", func := "longwire/longwirelaw19.ParseKnown", spec := "parseKnown", inPlace := ["internal/bytealg.IndexByteString", "internal/bytealg.IndexString", "internal/abi.NoEscape", "internal/bytealg.MakeNoZero"], unfollowed := true, recurses := true, named := ["internal/bytealg.MaxLen", "longwire/lex.operators", "longwire/tree.reserved", "longwire/word.ends", "longwire/tree.shapes", "longwire/tree.signs"], apart := false, laid := [("longwire/lex.operators", laid_longwire_lex_operators), ("longwire/word.ends", laid_longwire_word_ends), ("longwire/tree.reserved", laid_longwire_tree_reserved), ("longwire/tree.signs", laid_longwire_tree_signs), ("longwire/tree.shapes", laid_longwire_tree_shapes)], narrowed := true }
def ParseKnownUptoSaid : Prop := parseKnownUptoRow.holds Tryz.pinned (OpenSpec.upto parseKnownSpec)

end Rows
end Go.Proofs.YtgigdlhcjahejaaGreatDoor
