/-
  NARROWER THAN 'FOR EVERY INPUT', by the rows' own cells (each row's printed sentence says how): LexAgain: laid · LexQuotes: laid · WordQuotes: laid · LexKnown: laid · WordTells: loops, laid · WordAdds: laid · WordBack: laid · LexTiles: laid · WordKnown: laid.
  DERIVED. THE GIVEN ROWS OF THIS SEAT. 9 by the template 'for every input the law returns true; each argument reads behind the call as it read before'; 0 by the template 'total and deterministic' (their statements: YtifcgeanippepaaDoorTotals.lean).
  GIVEN WITH THE SEED: the statements are not yours to turn. If you find one false, say at which input.
  Laid BY PROGRAM, IN A SANDBOX (cutbox-rows.mjs): the forced cells as the released guide's own fill.sh prints them over the translation a55f52d73a8da80a… (all of the seat's roots in one cut). By AI agents, Wed Nov 11 2026. No macro, syntax, notation, axiom, sorry.
-/
import Derived.Test.YtifcgeanippepaaDoorChecked
import GoSem.PinnedTables
import GoSem.Claim
import GoSem.ClaimJoined
import GoSem.ClaimMapViews
import Derived.JoinedTies
import Derived.KernelRfl
namespace Go.Proofs.YtifcgeanippepaaDoor
/- THE CELL 'sum', in the pinned program and in every row, IS THE sha256 OF THE DUMP (.gsa) THAT YtifcgeanippepaaDoorProg.lean LOADS. Nothing in Lean hashes anything: it is a label: what it is worth is what the hold of that sum in a sandbox is worth. -/
noncomputable def Tryd.pinned : Pinned := { name := "ytifcgeanippepaadoor", sum := "a55f52d73a8da80af86db068ff319c586a41dac7379ea1239eed85235466202c", checked := Tryd.checked }
namespace Rows
def none {H : Type} : Left H := { results := [], args := [] }

/- WHAT THE LISTED PACKAGE-LEVEL VARIABLES READ AS WHEN THE CALL BEGINS. Each datum BY PROGRAM (the guide's laid-datum.mjs) off the statement by which the dump's own 'gosem.cut.vars' lays the variable. In a bare row this is a premise. The card (YtifcgeanippepaaDoorCards.lean) ties it to the program's text. -/
def laid_longwire_lex_operators {H : Type} : DataW H := .agg [.agg [.lit (.int .i64 2), .lit (.string [10])], .agg [.lit (.int .i64 3), .lit (.string [59])], .agg [.lit (.int .i64 4), .lit (.string [38, 38])], .agg [.lit (.int .i64 0), .lit (.string [38])], .agg [.lit (.int .i64 5), .lit (.string [124, 124])], .agg [.lit (.int .i64 6), .lit (.string [124])], .agg [.lit (.int .i64 0), .lit (.string [60, 60])], .agg [.lit (.int .i64 0), .lit (.string [60, 38])], .agg [.lit (.int .i64 0), .lit (.string [60, 62])], .agg [.lit (.int .i64 7), .lit (.string [60])], .agg [.lit (.int .i64 9), .lit (.string [62, 62])], .agg [.lit (.int .i64 0), .lit (.string [62, 38])], .agg [.lit (.int .i64 0), .lit (.string [62, 124])], .agg [.lit (.int .i64 8), .lit (.string [62])], .agg [.lit (.int .i64 11), .lit (.string [50, 62, 62])], .agg [.lit (.int .i64 0), .lit (.string [50, 62, 38])], .agg [.lit (.int .i64 0), .lit (.string [50, 62, 124])], .agg [.lit (.int .i64 10), .lit (.string [50, 62])]]
def laid_unicode_utf8_acceptRanges {H : Type} : DataW H := .agg [.agg [.lit (.int .u8 128), .lit (.int .u8 191)], .agg [.lit (.int .u8 160), .lit (.int .u8 191)], .agg [.lit (.int .u8 128), .lit (.int .u8 159)], .agg [.lit (.int .u8 144), .lit (.int .u8 191)], .agg [.lit (.int .u8 128), .lit (.int .u8 143)], .agg [.lit (.int .u8 0), .lit (.int .u8 0)], .agg [.lit (.int .u8 0), .lit (.int .u8 0)], .agg [.lit (.int .u8 0), .lit (.int .u8 0)], .agg [.lit (.int .u8 0), .lit (.int .u8 0)], .agg [.lit (.int .u8 0), .lit (.int .u8 0)], .agg [.lit (.int .u8 0), .lit (.int .u8 0)], .agg [.lit (.int .u8 0), .lit (.int .u8 0)], .agg [.lit (.int .u8 0), .lit (.int .u8 0)], .agg [.lit (.int .u8 0), .lit (.int .u8 0)], .agg [.lit (.int .u8 0), .lit (.int .u8 0)], .agg [.lit (.int .u8 0), .lit (.int .u8 0)]]
/-- One of Go's own tables, pinned by name: the form's constant. -/
def laid_unicode_utf8_first : DataW Unit := Go.Pinned.utf8First
def laid_longwire_word_ends {H : Type} : DataW H := .agg [.lit (.string []), .lit (.string [34]), .lit (.string [125])]

/-- 'longwirelaw16.LexAgain': WHATEVER THE INPUT: true; the input reads as it did. -/
def lexAgainSpec : ChangeSpec := { name := "lexAgain", fn := fun _ => fun
  | [d1, d2] => { results := [.lit (.bool true)], args := [d1, d2] }
  | _ => none }
def lexAgainRow : OpenClaim := { program := "ytifcgeanippepaadoor", sum := "a55f52d73a8da80af86db068ff319c586a41dac7379ea1239eed85235466202c", func := "longwire/longwirelaw16.LexAgain", spec := "lexAgain", inPlace := ["internal/bytealg.IndexByteString", "internal/bytealg.IndexString", "internal/abi.NoEscape", "internal/bytealg.MakeNoZero"], unfollowed := true, recurses := true, named := ["internal/bytealg.MaxLen", "longwire/lex.operators"], apart := false, laid := [("longwire/lex.operators", laid_longwire_lex_operators)] }
def LexAgainSaid : Prop := lexAgainRow.holds Tryd.pinned (OpenSpec.ofChange lexAgainSpec)

/-- ITS FALSE NEIGHBOUR: 'it returns false'. Refute it at one input. -/
def lexAgainWrong : ChangeSpec := { name := "lexAgain", fn := fun _ => fun
  | [d1, d2] => { results := [.lit (.bool false)], args := [d1, d2] }
  | _ => none }
def LexAgainWrongFalsely : Prop := lexAgainRow.holds Tryd.pinned (OpenSpec.ofChange lexAgainWrong)

/-- 'longwirelaw16.LexQuotes': WHATEVER THE INPUT: true; the input reads as it did. -/
def lexQuotesSpec : ChangeSpec := { name := "lexQuotes", fn := fun _ => fun
  | [d] => { results := [.lit (.bool true)], args := [d] }
  | _ => none }
def lexQuotesRow : OpenClaim := { program := "ytifcgeanippepaadoor", sum := "a55f52d73a8da80af86db068ff319c586a41dac7379ea1239eed85235466202c", func := "longwire/longwirelaw16.LexQuotes", spec := "lexQuotes", inPlace := ["internal/bytealg.CountString", "internal/bytealg.IndexByteString", "internal/bytealg.IndexString", "internal/abi.NoEscape", "internal/bytealg.MakeNoZero"], unfollowed := true, recurses := true, named := ["internal/bytealg.MaxLen", "unicode/utf8.first", "unicode/utf8.acceptRanges", "longwire/lex.operators"], apart := false, laid := [("unicode/utf8.acceptRanges", laid_unicode_utf8_acceptRanges), ("longwire/lex.operators", laid_longwire_lex_operators), ("unicode/utf8.first", laid_unicode_utf8_first)] }
def LexQuotesSaid : Prop := lexQuotesRow.holds Tryd.pinned (OpenSpec.ofChange lexQuotesSpec)

/-- ITS FALSE NEIGHBOUR: 'it returns false'. Refute it at one input. -/
def lexQuotesWrong : ChangeSpec := { name := "lexQuotes", fn := fun _ => fun
  | [d] => { results := [.lit (.bool false)], args := [d] }
  | _ => none }
def LexQuotesWrongFalsely : Prop := lexQuotesRow.holds Tryd.pinned (OpenSpec.ofChange lexQuotesWrong)

/-- 'longwirelaw17.WordQuotes': WHATEVER THE INPUT: true; the input reads as it did. -/
def wordQuotesSpec : ChangeSpec := { name := "wordQuotes", fn := fun _ => fun
  | [d1, d2] => { results := [.lit (.bool true)], args := [d1, d2] }
  | _ => none }
def wordQuotesRow : OpenClaim := { program := "ytifcgeanippepaadoor", sum := "a55f52d73a8da80af86db068ff319c586a41dac7379ea1239eed85235466202c", func := "longwire/longwirelaw17.WordQuotes", spec := "wordQuotes", inPlace := ["internal/bytealg.IndexByteString", "internal/bytealg.IndexString"], unfollowed := true, recurses := true, named := ["internal/bytealg.MaxLen", "longwire/lex.operators", "longwire/word.ends"], apart := false, laid := [("longwire/lex.operators", laid_longwire_lex_operators), ("longwire/word.ends", laid_longwire_word_ends)] }
def WordQuotesSaid : Prop := wordQuotesRow.holds Tryd.pinned (OpenSpec.ofChange wordQuotesSpec)

/-- ITS FALSE NEIGHBOUR: 'it returns false'. Refute it at one input. -/
def wordQuotesWrong : ChangeSpec := { name := "wordQuotes", fn := fun _ => fun
  | [d1, d2] => { results := [.lit (.bool false)], args := [d1, d2] }
  | _ => none }
def WordQuotesWrongFalsely : Prop := wordQuotesRow.holds Tryd.pinned (OpenSpec.ofChange wordQuotesWrong)

/-- 'longwirelaw16.LexKnown': WHATEVER THE INPUT: true; the input reads as it did. -/
def lexKnownSpec : ChangeSpec := { name := "lexKnown", fn := fun _ => fun
  | [] => { results := [.lit (.bool true)], args := [] }
  | _ => none }
def lexKnownRow : OpenClaim := { program := "ytifcgeanippepaadoor", sum := "a55f52d73a8da80af86db068ff319c586a41dac7379ea1239eed85235466202c", func := "longwire/longwirelaw16.LexKnown", spec := "lexKnown", inPlace := ["internal/bytealg.IndexByteString", "internal/bytealg.IndexString", "internal/abi.NoEscape", "internal/bytealg.MakeNoZero"], unfollowed := true, recurses := true, named := ["internal/bytealg.MaxLen", "longwire/lex.operators"], apart := false, laid := [("longwire/lex.operators", laid_longwire_lex_operators)] }
def LexKnownSaid : Prop := lexKnownRow.holds Tryd.pinned (OpenSpec.ofChange lexKnownSpec)

/-- ITS FALSE NEIGHBOUR: 'it returns false'. Refute it at one input. -/
def lexKnownWrong : ChangeSpec := { name := "lexKnown", fn := fun _ => fun
  | [] => { results := [.lit (.bool false)], args := [] }
  | _ => none }
def LexKnownWrongFalsely : Prop := lexKnownRow.holds Tryd.pinned (OpenSpec.ofChange lexKnownWrong)

/-- 'longwirelaw17.WordTells': WHATEVER THE INPUT: true; the input reads as it did. -/
def wordTellsSpec : ChangeSpec := { name := "wordTells", fn := fun _ => fun
  | [d1, d2] => { results := [.lit (.bool true)], args := [d1, d2] }
  | _ => none }
def wordTellsRow : OpenClaim := { program := "ytifcgeanippepaadoor", sum := "a55f52d73a8da80af86db068ff319c586a41dac7379ea1239eed85235466202c", func := "longwire/longwirelaw17.WordTells", spec := "wordTells", inPlace := ["internal/bytealg.IndexByteString", "internal/bytealg.IndexString"], unfollowed := true, recurses := true, named := ["internal/bytealg.MaxLen", "longwire/lex.operators", "longwire/word.ends"], loops := true, apart := false, laid := [("longwire/lex.operators", laid_longwire_lex_operators), ("longwire/word.ends", laid_longwire_word_ends)] }
def WordTellsSaid : Prop := wordTellsRow.holds Tryd.pinned (OpenSpec.ofChange wordTellsSpec)

/-- ITS FALSE NEIGHBOUR: 'it returns false'. Refute it at one input. -/
def wordTellsWrong : ChangeSpec := { name := "wordTells", fn := fun _ => fun
  | [d1, d2] => { results := [.lit (.bool false)], args := [d1, d2] }
  | _ => none }
def WordTellsWrongFalsely : Prop := wordTellsRow.holds Tryd.pinned (OpenSpec.ofChange wordTellsWrong)

/-- 'longwirelaw17.WordAdds': WHATEVER THE INPUT: true; the input reads as it did. -/
def wordAddsSpec : ChangeSpec := { name := "wordAdds", fn := fun _ => fun
  | [d1, d2] => { results := [.lit (.bool true)], args := [d1, d2] }
  | _ => none }
def wordAddsRow : OpenClaim := { program := "ytifcgeanippepaadoor", sum := "a55f52d73a8da80af86db068ff319c586a41dac7379ea1239eed85235466202c", func := "longwire/longwirelaw17.WordAdds", spec := "wordAdds", inPlace := ["internal/bytealg.IndexByteString", "internal/bytealg.IndexString"], unfollowed := true, recurses := true, named := ["internal/bytealg.MaxLen", "longwire/lex.operators", "longwire/word.ends"], apart := false, laid := [("longwire/lex.operators", laid_longwire_lex_operators), ("longwire/word.ends", laid_longwire_word_ends)] }
def WordAddsSaid : Prop := wordAddsRow.holds Tryd.pinned (OpenSpec.ofChange wordAddsSpec)

/-- ITS FALSE NEIGHBOUR: 'it returns false'. Refute it at one input. -/
def wordAddsWrong : ChangeSpec := { name := "wordAdds", fn := fun _ => fun
  | [d1, d2] => { results := [.lit (.bool false)], args := [d1, d2] }
  | _ => none }
def WordAddsWrongFalsely : Prop := wordAddsRow.holds Tryd.pinned (OpenSpec.ofChange wordAddsWrong)

/-- 'longwirelaw17.WordBack': WHATEVER THE INPUT: true; the input reads as it did. -/
def wordBackSpec : ChangeSpec := { name := "wordBack", fn := fun _ => fun
  | [d] => { results := [.lit (.bool true)], args := [d] }
  | _ => none }
def wordBackRow : OpenClaim := { program := "ytifcgeanippepaadoor", sum := "a55f52d73a8da80af86db068ff319c586a41dac7379ea1239eed85235466202c", func := "longwire/longwirelaw17.WordBack", spec := "wordBack", inPlace := ["internal/bytealg.IndexByteString", "internal/bytealg.IndexString"], unfollowed := true, recurses := true, named := ["internal/bytealg.MaxLen", "longwire/lex.operators", "longwire/word.ends"], apart := false, laid := [("longwire/lex.operators", laid_longwire_lex_operators), ("longwire/word.ends", laid_longwire_word_ends)] }
def WordBackSaid : Prop := wordBackRow.holds Tryd.pinned (OpenSpec.ofChange wordBackSpec)

/-- ITS FALSE NEIGHBOUR: 'it returns false'. Refute it at one input. -/
def wordBackWrong : ChangeSpec := { name := "wordBack", fn := fun _ => fun
  | [d] => { results := [.lit (.bool false)], args := [d] }
  | _ => none }
def WordBackWrongFalsely : Prop := wordBackRow.holds Tryd.pinned (OpenSpec.ofChange wordBackWrong)

/-- 'longwirelaw16.LexTiles': WHATEVER THE INPUT: true; the input reads as it did. -/
def lexTilesSpec : ChangeSpec := { name := "lexTiles", fn := fun _ => fun
  | [d] => { results := [.lit (.bool true)], args := [d] }
  | _ => none }
def lexTilesRow : OpenClaim := { program := "ytifcgeanippepaadoor", sum := "a55f52d73a8da80af86db068ff319c586a41dac7379ea1239eed85235466202c", func := "longwire/longwirelaw16.LexTiles", spec := "lexTiles", inPlace := ["internal/bytealg.IndexByteString", "internal/bytealg.IndexString", "internal/bytealg.CountString"], unfollowed := true, recurses := true, named := ["internal/bytealg.MaxLen", "longwire/lex.operators", "unicode/utf8.first", "unicode/utf8.acceptRanges"], apart := false, laid := [("unicode/utf8.acceptRanges", laid_unicode_utf8_acceptRanges), ("longwire/lex.operators", laid_longwire_lex_operators), ("unicode/utf8.first", laid_unicode_utf8_first)] }
def LexTilesSaid : Prop := lexTilesRow.holds Tryd.pinned (OpenSpec.ofChange lexTilesSpec)

/-- ITS FALSE NEIGHBOUR: 'it returns false'. Refute it at one input. -/
def lexTilesWrong : ChangeSpec := { name := "lexTiles", fn := fun _ => fun
  | [d] => { results := [.lit (.bool false)], args := [d] }
  | _ => none }
def LexTilesWrongFalsely : Prop := lexTilesRow.holds Tryd.pinned (OpenSpec.ofChange lexTilesWrong)

/-- 'longwirelaw17.WordKnown': WHATEVER THE INPUT: true; the input reads as it did. -/
def wordKnownSpec : ChangeSpec := { name := "wordKnown", fn := fun _ => fun
  | [] => { results := [.lit (.bool true)], args := [] }
  | _ => none }
def wordKnownRow : OpenClaim := { program := "ytifcgeanippepaadoor", sum := "a55f52d73a8da80af86db068ff319c586a41dac7379ea1239eed85235466202c", func := "longwire/longwirelaw17.WordKnown", spec := "wordKnown", inPlace := ["internal/bytealg.IndexByteString", "internal/bytealg.IndexString", "internal/abi.NoEscape", "internal/bytealg.MakeNoZero"], unfollowed := true, recurses := true, named := ["internal/bytealg.MaxLen", "longwire/lex.operators", "longwire/word.ends"], apart := false, laid := [("longwire/lex.operators", laid_longwire_lex_operators), ("longwire/word.ends", laid_longwire_word_ends)] }
def WordKnownSaid : Prop := wordKnownRow.holds Tryd.pinned (OpenSpec.ofChange wordKnownSpec)

/-- ITS FALSE NEIGHBOUR: 'it returns false'. Refute it at one input. -/
def wordKnownWrong : ChangeSpec := { name := "wordKnown", fn := fun _ => fun
  | [] => { results := [.lit (.bool false)], args := [] }
  | _ => none }
def WordKnownWrongFalsely : Prop := wordKnownRow.holds Tryd.pinned (OpenSpec.ofChange wordKnownWrong)

/- THE SECOND FORM. 'bulk': how many values and letters a reading holds, each counted each time it is reached (what is shared counts as often as it is met; a slice's spare places count too). A statement '..UptoSaid' is the law's where the arguments, and the package variables that the reading takes, are together of bulk at most 1048576: NARROWER than '..Said'. Prove '..Said' where nothing that the law and all that it calls make is longer than what came in: it says more and counts as full. Else prove '..UptoSaid'. A law counts once. -/
mutual
def uptoBulk {H : Type} : DataW H → Nat
  | .lit (.string bytes) => bytes.length + 1
  | .lit _ => 1
  | .nil => 1
  | .ptr d => uptoBulk d + 1
  | .slice elems spare => uptoBulkAll elems + uptoBulkAll spare + 1
  | .agg parts => uptoBulkAll parts + 1
  | .iface _ d => uptoBulk d + 1
  | .map entries => uptoBulkEntries entries + 1
  | .held _ => 1
def uptoBulkAll {H : Type} : List (DataW H) → Nat
  | [] => 0
  | d :: r => uptoBulk d + uptoBulkAll r
def uptoBulkEntries {H : Type} : List (Lit × DataW H) → Nat
  | [] => 0
  | x :: r => uptoBulkEntry x + uptoBulkEntries r
def uptoBulkEntry {H : Type} : Lit × DataW H → Nat
  | (.string bytes, d) => bytes.length + uptoBulk d + 1
  | (_, d) => uptoBulk d + 1
 end
def uptoSmall : (H : Type) → List (DataW H) → Bool := fun _ ds => decide (uptoBulkAll ds ≤ 1048576)
def OpenSpec.upto (s : _root_.Go.ChangeSpec) : _root_.Go.OpenSpec := { _root_.Go.OpenSpec.ofChange s with cond := some uptoSmall }

/-- 'longwirelaw16.LexAgain', WHERE WHAT IT READS IS OF BULK AT MOST 1048576: true; the input reads as it did. -/
def lexAgainUptoRow : OpenClaim := { program := "ytifcgeanippepaadoor", sum := "a55f52d73a8da80af86db068ff319c586a41dac7379ea1239eed85235466202c", func := "longwire/longwirelaw16.LexAgain", spec := "lexAgain", inPlace := ["internal/bytealg.IndexByteString", "internal/bytealg.IndexString", "internal/abi.NoEscape", "internal/bytealg.MakeNoZero"], unfollowed := true, recurses := true, named := ["internal/bytealg.MaxLen", "longwire/lex.operators"], apart := false, laid := [("longwire/lex.operators", laid_longwire_lex_operators)], narrowed := true }
def LexAgainUptoSaid : Prop := lexAgainUptoRow.holds Tryd.pinned (OpenSpec.upto lexAgainSpec)

/-- 'longwirelaw16.LexQuotes', WHERE WHAT IT READS IS OF BULK AT MOST 1048576: true; the input reads as it did. -/
def lexQuotesUptoRow : OpenClaim := { program := "ytifcgeanippepaadoor", sum := "a55f52d73a8da80af86db068ff319c586a41dac7379ea1239eed85235466202c", func := "longwire/longwirelaw16.LexQuotes", spec := "lexQuotes", inPlace := ["internal/bytealg.CountString", "internal/bytealg.IndexByteString", "internal/bytealg.IndexString", "internal/abi.NoEscape", "internal/bytealg.MakeNoZero"], unfollowed := true, recurses := true, named := ["internal/bytealg.MaxLen", "unicode/utf8.first", "unicode/utf8.acceptRanges", "longwire/lex.operators"], apart := false, laid := [("unicode/utf8.acceptRanges", laid_unicode_utf8_acceptRanges), ("longwire/lex.operators", laid_longwire_lex_operators), ("unicode/utf8.first", laid_unicode_utf8_first)], narrowed := true }
def LexQuotesUptoSaid : Prop := lexQuotesUptoRow.holds Tryd.pinned (OpenSpec.upto lexQuotesSpec)

/-- 'longwirelaw17.WordQuotes', WHERE WHAT IT READS IS OF BULK AT MOST 1048576: true; the input reads as it did. -/
def wordQuotesUptoRow : OpenClaim := { program := "ytifcgeanippepaadoor", sum := "a55f52d73a8da80af86db068ff319c586a41dac7379ea1239eed85235466202c", func := "longwire/longwirelaw17.WordQuotes", spec := "wordQuotes", inPlace := ["internal/bytealg.IndexByteString", "internal/bytealg.IndexString"], unfollowed := true, recurses := true, named := ["internal/bytealg.MaxLen", "longwire/lex.operators", "longwire/word.ends"], apart := false, laid := [("longwire/lex.operators", laid_longwire_lex_operators), ("longwire/word.ends", laid_longwire_word_ends)], narrowed := true }
def WordQuotesUptoSaid : Prop := wordQuotesUptoRow.holds Tryd.pinned (OpenSpec.upto wordQuotesSpec)

/-- 'longwirelaw16.LexKnown', WHERE WHAT IT READS IS OF BULK AT MOST 1048576: true; the input reads as it did. -/
def lexKnownUptoRow : OpenClaim := { program := "ytifcgeanippepaadoor", sum := "a55f52d73a8da80af86db068ff319c586a41dac7379ea1239eed85235466202c", func := "longwire/longwirelaw16.LexKnown", spec := "lexKnown", inPlace := ["internal/bytealg.IndexByteString", "internal/bytealg.IndexString", "internal/abi.NoEscape", "internal/bytealg.MakeNoZero"], unfollowed := true, recurses := true, named := ["internal/bytealg.MaxLen", "longwire/lex.operators"], apart := false, laid := [("longwire/lex.operators", laid_longwire_lex_operators)], narrowed := true }
def LexKnownUptoSaid : Prop := lexKnownUptoRow.holds Tryd.pinned (OpenSpec.upto lexKnownSpec)

/-- 'longwirelaw17.WordTells', WHERE WHAT IT READS IS OF BULK AT MOST 1048576: true; the input reads as it did. -/
def wordTellsUptoRow : OpenClaim := { program := "ytifcgeanippepaadoor", sum := "a55f52d73a8da80af86db068ff319c586a41dac7379ea1239eed85235466202c", func := "longwire/longwirelaw17.WordTells", spec := "wordTells", inPlace := ["internal/bytealg.IndexByteString", "internal/bytealg.IndexString"], unfollowed := true, recurses := true, named := ["internal/bytealg.MaxLen", "longwire/lex.operators", "longwire/word.ends"], loops := true, apart := false, laid := [("longwire/lex.operators", laid_longwire_lex_operators), ("longwire/word.ends", laid_longwire_word_ends)], narrowed := true }
def WordTellsUptoSaid : Prop := wordTellsUptoRow.holds Tryd.pinned (OpenSpec.upto wordTellsSpec)

/-- 'longwirelaw17.WordAdds', WHERE WHAT IT READS IS OF BULK AT MOST 1048576: true; the input reads as it did. -/
def wordAddsUptoRow : OpenClaim := { program := "ytifcgeanippepaadoor", sum := "a55f52d73a8da80af86db068ff319c586a41dac7379ea1239eed85235466202c", func := "longwire/longwirelaw17.WordAdds", spec := "wordAdds", inPlace := ["internal/bytealg.IndexByteString", "internal/bytealg.IndexString"], unfollowed := true, recurses := true, named := ["internal/bytealg.MaxLen", "longwire/lex.operators", "longwire/word.ends"], apart := false, laid := [("longwire/lex.operators", laid_longwire_lex_operators), ("longwire/word.ends", laid_longwire_word_ends)], narrowed := true }
def WordAddsUptoSaid : Prop := wordAddsUptoRow.holds Tryd.pinned (OpenSpec.upto wordAddsSpec)

/-- 'longwirelaw17.WordBack', WHERE WHAT IT READS IS OF BULK AT MOST 1048576: true; the input reads as it did. -/
def wordBackUptoRow : OpenClaim := { program := "ytifcgeanippepaadoor", sum := "a55f52d73a8da80af86db068ff319c586a41dac7379ea1239eed85235466202c", func := "longwire/longwirelaw17.WordBack", spec := "wordBack", inPlace := ["internal/bytealg.IndexByteString", "internal/bytealg.IndexString"], unfollowed := true, recurses := true, named := ["internal/bytealg.MaxLen", "longwire/lex.operators", "longwire/word.ends"], apart := false, laid := [("longwire/lex.operators", laid_longwire_lex_operators), ("longwire/word.ends", laid_longwire_word_ends)], narrowed := true }
def WordBackUptoSaid : Prop := wordBackUptoRow.holds Tryd.pinned (OpenSpec.upto wordBackSpec)

/-- 'longwirelaw16.LexTiles', WHERE WHAT IT READS IS OF BULK AT MOST 1048576: true; the input reads as it did. -/
def lexTilesUptoRow : OpenClaim := { program := "ytifcgeanippepaadoor", sum := "a55f52d73a8da80af86db068ff319c586a41dac7379ea1239eed85235466202c", func := "longwire/longwirelaw16.LexTiles", spec := "lexTiles", inPlace := ["internal/bytealg.IndexByteString", "internal/bytealg.IndexString", "internal/bytealg.CountString"], unfollowed := true, recurses := true, named := ["internal/bytealg.MaxLen", "longwire/lex.operators", "unicode/utf8.first", "unicode/utf8.acceptRanges"], apart := false, laid := [("unicode/utf8.acceptRanges", laid_unicode_utf8_acceptRanges), ("longwire/lex.operators", laid_longwire_lex_operators), ("unicode/utf8.first", laid_unicode_utf8_first)], narrowed := true }
def LexTilesUptoSaid : Prop := lexTilesUptoRow.holds Tryd.pinned (OpenSpec.upto lexTilesSpec)

/-- 'longwirelaw17.WordKnown', WHERE WHAT IT READS IS OF BULK AT MOST 1048576: true; the input reads as it did. -/
def wordKnownUptoRow : OpenClaim := { program := "ytifcgeanippepaadoor", sum := "a55f52d73a8da80af86db068ff319c586a41dac7379ea1239eed85235466202c", func := "longwire/longwirelaw17.WordKnown", spec := "wordKnown", inPlace := ["internal/bytealg.IndexByteString", "internal/bytealg.IndexString", "internal/abi.NoEscape", "internal/bytealg.MakeNoZero"], unfollowed := true, recurses := true, named := ["internal/bytealg.MaxLen", "longwire/lex.operators", "longwire/word.ends"], apart := false, laid := [("longwire/lex.operators", laid_longwire_lex_operators), ("longwire/word.ends", laid_longwire_word_ends)], narrowed := true }
def WordKnownUptoSaid : Prop := wordKnownUptoRow.holds Tryd.pinned (OpenSpec.upto wordKnownSpec)

end Rows
end Go.Proofs.YtifcgeanippepaaDoor
