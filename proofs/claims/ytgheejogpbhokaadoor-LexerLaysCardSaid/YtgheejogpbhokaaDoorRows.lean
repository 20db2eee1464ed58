/-
  NARROWER THAN 'FOR EVERY INPUT', by the rows' own cells (each row's printed sentence says how): LexerReads: laid · LexerWords: laid · LexerLong: laid · LexerShape: laid · LexerLays: laid · LexerBlocks: laid.
  DERIVED. THE GIVEN ROWS OF THIS SEAT. 6 by the template 'for every input the law returns true; each argument reads behind the call as it read before'; 0 by the template 'total and deterministic' (their statements: YtgheejogpbhokaaDoorTotals.lean).
  GIVEN WITH THE SEED: the statements are not yours to turn. If you find one false, say at which input.
  Laid BY PROGRAM, IN A SANDBOX (cutbox-rows.mjs): the forced cells as the released guide's own fill.sh prints them over the translation bf14f6a53082e324… (all of the seat's roots in one cut). By AI agents, Wed Nov 11 2026. No macro, syntax, notation, axiom, sorry.
-/
import Derived.Test.YtgheejogpbhokaaDoorChecked
import GoSem.PinnedTables
import GoSem.Claim
import GoSem.ClaimJoined
import GoSem.ClaimMapViews
import Derived.JoinedTies
import Derived.KernelRfl
namespace Go.Proofs.YtgheejogpbhokaaDoor
/- THE CELL 'sum', in the pinned program and in every row, IS THE sha256 OF THE DUMP (.gsa) THAT YtgheejogpbhokaaDoorProg.lean LOADS. Nothing in Lean hashes anything: it is a label: what it is worth is what the hold of that sum in a sandbox is worth. -/
noncomputable def Tryd.pinned : Pinned := { name := "ytgheejogpbhokaadoor", sum := "bf14f6a53082e32404120ec111a35801fcd4a46243f7a70c918d5732bfd61bbe", checked := Tryd.checked }
namespace Rows
def none {H : Type} : Left H := { results := [], args := [] }

/- WHAT THE LISTED PACKAGE-LEVEL VARIABLES READ AS WHEN THE CALL BEGINS. Each datum BY PROGRAM (the guide's laid-datum.mjs) off the statement by which the dump's own 'gosem.cut.vars' lays the variable. In a bare row this is a premise. The card (YtgheejogpbhokaaDoorCards.lean) ties it to the program's text. -/
def laid_unicode_utf8_acceptRanges {H : Type} : DataW H := .agg [.agg [.lit (.int .u8 128), .lit (.int .u8 191)], .agg [.lit (.int .u8 160), .lit (.int .u8 191)], .agg [.lit (.int .u8 128), .lit (.int .u8 159)], .agg [.lit (.int .u8 144), .lit (.int .u8 191)], .agg [.lit (.int .u8 128), .lit (.int .u8 143)], .agg [.lit (.int .u8 0), .lit (.int .u8 0)], .agg [.lit (.int .u8 0), .lit (.int .u8 0)], .agg [.lit (.int .u8 0), .lit (.int .u8 0)], .agg [.lit (.int .u8 0), .lit (.int .u8 0)], .agg [.lit (.int .u8 0), .lit (.int .u8 0)], .agg [.lit (.int .u8 0), .lit (.int .u8 0)], .agg [.lit (.int .u8 0), .lit (.int .u8 0)], .agg [.lit (.int .u8 0), .lit (.int .u8 0)], .agg [.lit (.int .u8 0), .lit (.int .u8 0)], .agg [.lit (.int .u8 0), .lit (.int .u8 0)], .agg [.lit (.int .u8 0), .lit (.int .u8 0)]]
/-- One of Go's own tables, pinned by name: the form's constant. -/
def laid_unicode_utf8_first : DataW Unit := Go.Pinned.utf8First

/-- 'lexiconlaw13.LexerReads': WHATEVER THE INPUT: true; the input reads as it did. -/
def lexerReadsSpec : ChangeSpec := { name := "lexerReads", fn := fun _ => fun
  | [d] => { results := [.lit (.bool true)], args := [d] }
  | _ => none }
def lexerReadsRow : OpenClaim := { program := "ytgheejogpbhokaadoor", sum := "bf14f6a53082e32404120ec111a35801fcd4a46243f7a70c918d5732bfd61bbe", func := "lexicon/lexiconlaw13.LexerReads", spec := "lexerReads", inPlace := ["internal/bytealg.IndexByteString", "internal/abi.NoEscape"], unfollowed := true, recurses := true, named := ["unicode/utf8.first", "unicode/utf8.acceptRanges"], apart := false, laid := [("unicode/utf8.acceptRanges", laid_unicode_utf8_acceptRanges), ("unicode/utf8.first", laid_unicode_utf8_first)] }
def LexerReadsSaid : Prop := lexerReadsRow.holds Tryd.pinned (OpenSpec.ofChange lexerReadsSpec)

/-- ITS FALSE NEIGHBOUR: 'it returns false'. Refute it at one input. -/
def lexerReadsWrong : ChangeSpec := { name := "lexerReads", fn := fun _ => fun
  | [d] => { results := [.lit (.bool false)], args := [d] }
  | _ => none }
def LexerReadsWrongFalsely : Prop := lexerReadsRow.holds Tryd.pinned (OpenSpec.ofChange lexerReadsWrong)

/-- 'lexiconlaw13.LexerWords': WHATEVER THE INPUT: true; the input reads as it did. -/
def lexerWordsSpec : ChangeSpec := { name := "lexerWords", fn := fun _ => fun
  | [d] => { results := [.lit (.bool true)], args := [d] }
  | _ => none }
def lexerWordsRow : OpenClaim := { program := "ytgheejogpbhokaadoor", sum := "bf14f6a53082e32404120ec111a35801fcd4a46243f7a70c918d5732bfd61bbe", func := "lexicon/lexiconlaw13.LexerWords", spec := "lexerWords", inPlace := ["internal/bytealg.IndexByteString", "internal/abi.NoEscape"], unfollowed := true, recurses := true, named := ["unicode/utf8.first", "unicode/utf8.acceptRanges"], apart := false, laid := [("unicode/utf8.acceptRanges", laid_unicode_utf8_acceptRanges), ("unicode/utf8.first", laid_unicode_utf8_first)] }
def LexerWordsSaid : Prop := lexerWordsRow.holds Tryd.pinned (OpenSpec.ofChange lexerWordsSpec)

/-- ITS FALSE NEIGHBOUR: 'it returns false'. Refute it at one input. -/
def lexerWordsWrong : ChangeSpec := { name := "lexerWords", fn := fun _ => fun
  | [d] => { results := [.lit (.bool false)], args := [d] }
  | _ => none }
def LexerWordsWrongFalsely : Prop := lexerWordsRow.holds Tryd.pinned (OpenSpec.ofChange lexerWordsWrong)

/-- 'lexiconlaw13.LexerLong': WHATEVER THE INPUT: true; the input reads as it did. -/
def lexerLongSpec : ChangeSpec := { name := "lexerLong", fn := fun _ => fun
  | [d1, d2] => { results := [.lit (.bool true)], args := [d1, d2] }
  | _ => none }
def lexerLongRow : OpenClaim := { program := "ytgheejogpbhokaadoor", sum := "bf14f6a53082e32404120ec111a35801fcd4a46243f7a70c918d5732bfd61bbe", func := "lexicon/lexiconlaw13.LexerLong", spec := "lexerLong", inPlace := ["internal/bytealg.IndexByteString", "internal/abi.NoEscape"], unfollowed := true, recurses := true, named := ["unicode/utf8.first", "unicode/utf8.acceptRanges"], apart := false, laid := [("unicode/utf8.acceptRanges", laid_unicode_utf8_acceptRanges), ("unicode/utf8.first", laid_unicode_utf8_first)] }
def LexerLongSaid : Prop := lexerLongRow.holds Tryd.pinned (OpenSpec.ofChange lexerLongSpec)

/-- ITS FALSE NEIGHBOUR: 'it returns false'. Refute it at one input. -/
def lexerLongWrong : ChangeSpec := { name := "lexerLong", fn := fun _ => fun
  | [d1, d2] => { results := [.lit (.bool false)], args := [d1, d2] }
  | _ => none }
def LexerLongWrongFalsely : Prop := lexerLongRow.holds Tryd.pinned (OpenSpec.ofChange lexerLongWrong)

/-- 'lexiconlaw13.LexerShape': WHATEVER THE INPUT: true; the input reads as it did. -/
def lexerShapeSpec : ChangeSpec := { name := "lexerShape", fn := fun _ => fun
  | [d] => { results := [.lit (.bool true)], args := [d] }
  | _ => none }
def lexerShapeRow : OpenClaim := { program := "ytgheejogpbhokaadoor", sum := "bf14f6a53082e32404120ec111a35801fcd4a46243f7a70c918d5732bfd61bbe", func := "lexicon/lexiconlaw13.LexerShape", spec := "lexerShape", inPlace := ["internal/bytealg.IndexByteString", "internal/abi.NoEscape"], unfollowed := true, recurses := true, named := ["unicode/utf8.first", "unicode/utf8.acceptRanges"], apart := false, laid := [("unicode/utf8.acceptRanges", laid_unicode_utf8_acceptRanges), ("unicode/utf8.first", laid_unicode_utf8_first)] }
def LexerShapeSaid : Prop := lexerShapeRow.holds Tryd.pinned (OpenSpec.ofChange lexerShapeSpec)

/-- ITS FALSE NEIGHBOUR: 'it returns false'. Refute it at one input. -/
def lexerShapeWrong : ChangeSpec := { name := "lexerShape", fn := fun _ => fun
  | [d] => { results := [.lit (.bool false)], args := [d] }
  | _ => none }
def LexerShapeWrongFalsely : Prop := lexerShapeRow.holds Tryd.pinned (OpenSpec.ofChange lexerShapeWrong)

/-- 'lexiconlaw13.LexerLays': WHATEVER THE INPUT: true; the input reads as it did. -/
def lexerLaysSpec : ChangeSpec := { name := "lexerLays", fn := fun _ => fun
  | [d1, d2] => { results := [.lit (.bool true)], args := [d1, d2] }
  | _ => none }
def lexerLaysRow : OpenClaim := { program := "ytgheejogpbhokaadoor", sum := "bf14f6a53082e32404120ec111a35801fcd4a46243f7a70c918d5732bfd61bbe", func := "lexicon/lexiconlaw13.LexerLays", spec := "lexerLays", inPlace := ["internal/bytealg.IndexByteString", "internal/abi.NoEscape"], unfollowed := true, recurses := true, named := ["unicode/utf8.first", "unicode/utf8.acceptRanges"], apart := false, laid := [("unicode/utf8.acceptRanges", laid_unicode_utf8_acceptRanges), ("unicode/utf8.first", laid_unicode_utf8_first)] }
def LexerLaysSaid : Prop := lexerLaysRow.holds Tryd.pinned (OpenSpec.ofChange lexerLaysSpec)

/-- ITS FALSE NEIGHBOUR: 'it returns false'. Refute it at one input. -/
def lexerLaysWrong : ChangeSpec := { name := "lexerLays", fn := fun _ => fun
  | [d1, d2] => { results := [.lit (.bool false)], args := [d1, d2] }
  | _ => none }
def LexerLaysWrongFalsely : Prop := lexerLaysRow.holds Tryd.pinned (OpenSpec.ofChange lexerLaysWrong)

/-- 'lexiconlaw13.LexerBlocks': WHATEVER THE INPUT: true; the input reads as it did. -/
def lexerBlocksSpec : ChangeSpec := { name := "lexerBlocks", fn := fun _ => fun
  | [d] => { results := [.lit (.bool true)], args := [d] }
  | _ => none }
def lexerBlocksRow : OpenClaim := { program := "ytgheejogpbhokaadoor", sum := "bf14f6a53082e32404120ec111a35801fcd4a46243f7a70c918d5732bfd61bbe", func := "lexicon/lexiconlaw13.LexerBlocks", spec := "lexerBlocks", inPlace := ["internal/bytealg.IndexByteString", "internal/abi.NoEscape"], unfollowed := true, recurses := true, named := ["unicode/utf8.first", "unicode/utf8.acceptRanges"], apart := false, laid := [("unicode/utf8.acceptRanges", laid_unicode_utf8_acceptRanges), ("unicode/utf8.first", laid_unicode_utf8_first)] }
def LexerBlocksSaid : Prop := lexerBlocksRow.holds Tryd.pinned (OpenSpec.ofChange lexerBlocksSpec)

/-- ITS FALSE NEIGHBOUR: 'it returns false'. Refute it at one input. -/
def lexerBlocksWrong : ChangeSpec := { name := "lexerBlocks", fn := fun _ => fun
  | [d] => { results := [.lit (.bool false)], args := [d] }
  | _ => none }
def LexerBlocksWrongFalsely : Prop := lexerBlocksRow.holds Tryd.pinned (OpenSpec.ofChange lexerBlocksWrong)

/- THE SECOND FORM. 'bulk': how many values and letters a reading holds, each counted each time it is reached (what is shared counts as often as it is met; a slice's spare places count too). A statement '..UptoSaid' is the law's where the arguments, and the package variables that the reading takes, are together of bulk at most 1048576: NARROWER than '..Said'. Prove '..Said' where nothing that the law and all that it calls make is longer than what came in: it says more and counts as full. Else prove '..UptoSaid'. A law counts once. -/
mutual
def uptoBulk {H : Type} : DataW H → Nat
  | .lit (.string bytes) => bytes.length + 1
  | .lit _ => 1
  | .nil => 1
  | .ptr d => uptoBulk d + 1
  | .slice elems spare => uptoBulkAll elems + uptoBulkAll spare + 1
  | .agg parts => uptoBulkAll parts + 1
  | .iface _ d => uptoBulk d + 1
  | .map entries => uptoBulkEntries entries + 1
  | .held _ => 1
def uptoBulkAll {H : Type} : List (DataW H) → Nat
  | [] => 0
  | d :: r => uptoBulk d + uptoBulkAll r
def uptoBulkEntries {H : Type} : List (Lit × DataW H) → Nat
  | [] => 0
  | x :: r => uptoBulkEntry x + uptoBulkEntries r
def uptoBulkEntry {H : Type} : Lit × DataW H → Nat
  | (.string bytes, d) => bytes.length + uptoBulk d + 1
  | (_, d) => uptoBulk d + 1
 end
def uptoSmall : (H : Type) → List (DataW H) → Bool := fun _ ds => decide (uptoBulkAll ds ≤ 1048576)
def OpenSpec.upto (s : _root_.Go.ChangeSpec) : _root_.Go.OpenSpec := { _root_.Go.OpenSpec.ofChange s with cond := some uptoSmall }

/-- 'lexiconlaw13.LexerReads', WHERE WHAT IT READS IS OF BULK AT MOST 1048576: true; the input reads as it did. -/
def lexerReadsUptoRow : OpenClaim := { program := "ytgheejogpbhokaadoor", sum := "bf14f6a53082e32404120ec111a35801fcd4a46243f7a70c918d5732bfd61bbe", func := "lexicon/lexiconlaw13.LexerReads", spec := "lexerReads", inPlace := ["internal/bytealg.IndexByteString", "internal/abi.NoEscape"], unfollowed := true, recurses := true, named := ["unicode/utf8.first", "unicode/utf8.acceptRanges"], apart := false, laid := [("unicode/utf8.acceptRanges", laid_unicode_utf8_acceptRanges), ("unicode/utf8.first", laid_unicode_utf8_first)], narrowed := true }
def LexerReadsUptoSaid : Prop := lexerReadsUptoRow.holds Tryd.pinned (OpenSpec.upto lexerReadsSpec)

/-- 'lexiconlaw13.LexerWords', WHERE WHAT IT READS IS OF BULK AT MOST 1048576: true; the input reads as it did. -/
def lexerWordsUptoRow : OpenClaim := { program := "ytgheejogpbhokaadoor", sum := "bf14f6a53082e32404120ec111a35801fcd4a46243f7a70c918d5732bfd61bbe", func := "lexicon/lexiconlaw13.LexerWords", spec := "lexerWords", inPlace := ["internal/bytealg.IndexByteString", "internal/abi.NoEscape"], unfollowed := true, recurses := true, named := ["unicode/utf8.first", "unicode/utf8.acceptRanges"], apart := false, laid := [("unicode/utf8.acceptRanges", laid_unicode_utf8_acceptRanges), ("unicode/utf8.first", laid_unicode_utf8_first)], narrowed := true }
def LexerWordsUptoSaid : Prop := lexerWordsUptoRow.holds Tryd.pinned (OpenSpec.upto lexerWordsSpec)

/-- 'lexiconlaw13.LexerLong', WHERE WHAT IT READS IS OF BULK AT MOST 1048576: true; the input reads as it did. -/
def lexerLongUptoRow : OpenClaim := { program := "ytgheejogpbhokaadoor", sum := "bf14f6a53082e32404120ec111a35801fcd4a46243f7a70c918d5732bfd61bbe", func := "lexicon/lexiconlaw13.LexerLong", spec := "lexerLong", inPlace := ["internal/bytealg.IndexByteString", "internal/abi.NoEscape"], unfollowed := true, recurses := true, named := ["unicode/utf8.first", "unicode/utf8.acceptRanges"], apart := false, laid := [("unicode/utf8.acceptRanges", laid_unicode_utf8_acceptRanges), ("unicode/utf8.first", laid_unicode_utf8_first)], narrowed := true }
def LexerLongUptoSaid : Prop := lexerLongUptoRow.holds Tryd.pinned (OpenSpec.upto lexerLongSpec)

/-- 'lexiconlaw13.LexerShape', WHERE WHAT IT READS IS OF BULK AT MOST 1048576: true; the input reads as it did. -/
def lexerShapeUptoRow : OpenClaim := { program := "ytgheejogpbhokaadoor", sum := "bf14f6a53082e32404120ec111a35801fcd4a46243f7a70c918d5732bfd61bbe", func := "lexicon/lexiconlaw13.LexerShape", spec := "lexerShape", inPlace := ["internal/bytealg.IndexByteString", "internal/abi.NoEscape"], unfollowed := true, recurses := true, named := ["unicode/utf8.first", "unicode/utf8.acceptRanges"], apart := false, laid := [("unicode/utf8.acceptRanges", laid_unicode_utf8_acceptRanges), ("unicode/utf8.first", laid_unicode_utf8_first)], narrowed := true }
def LexerShapeUptoSaid : Prop := lexerShapeUptoRow.holds Tryd.pinned (OpenSpec.upto lexerShapeSpec)

/-- 'lexiconlaw13.LexerLays', WHERE WHAT IT READS IS OF BULK AT MOST 1048576: true; the input reads as it did. -/
def lexerLaysUptoRow : OpenClaim := { program := "ytgheejogpbhokaadoor", sum := "bf14f6a53082e32404120ec111a35801fcd4a46243f7a70c918d5732bfd61bbe", func := "lexicon/lexiconlaw13.LexerLays", spec := "lexerLays", inPlace := ["internal/bytealg.IndexByteString", "internal/abi.NoEscape"], unfollowed := true, recurses := true, named := ["unicode/utf8.first", "unicode/utf8.acceptRanges"], apart := false, laid := [("unicode/utf8.acceptRanges", laid_unicode_utf8_acceptRanges), ("unicode/utf8.first", laid_unicode_utf8_first)], narrowed := true }
def LexerLaysUptoSaid : Prop := lexerLaysUptoRow.holds Tryd.pinned (OpenSpec.upto lexerLaysSpec)

/-- 'lexiconlaw13.LexerBlocks', WHERE WHAT IT READS IS OF BULK AT MOST 1048576: true; the input reads as it did. -/
def lexerBlocksUptoRow : OpenClaim := { program := "ytgheejogpbhokaadoor", sum := "bf14f6a53082e32404120ec111a35801fcd4a46243f7a70c918d5732bfd61bbe", func := "lexicon/lexiconlaw13.LexerBlocks", spec := "lexerBlocks", inPlace := ["internal/bytealg.IndexByteString", "internal/abi.NoEscape"], unfollowed := true, recurses := true, named := ["unicode/utf8.first", "unicode/utf8.acceptRanges"], apart := false, laid := [("unicode/utf8.acceptRanges", laid_unicode_utf8_acceptRanges), ("unicode/utf8.first", laid_unicode_utf8_first)], narrowed := true }
def LexerBlocksUptoSaid : Prop := lexerBlocksUptoRow.holds Tryd.pinned (OpenSpec.upto lexerBlocksSpec)

end Rows
end Go.Proofs.YtgheejogpbhokaaDoor
