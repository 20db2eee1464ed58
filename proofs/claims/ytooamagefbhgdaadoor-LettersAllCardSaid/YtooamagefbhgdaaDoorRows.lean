/-
  NARROWER THAN 'FOR EVERY INPUT', by the rows' own cells (each row's printed sentence says how): LettersUnquote: laid · LettersEnds: laid · LettersAll: laid · LettersQuote: laid · LettersTell: laid · LettersRepeat: laid.
  DERIVED. THE GIVEN ROWS OF THIS SEAT. 6 by the template 'for every input the law returns true; each argument reads behind the call as it read before'; 0 by the template 'total and deterministic' (their statements: YtooamagefbhgdaaDoorTotals.lean).
  GIVEN WITH THE SEED: the statements are not yours to turn. If you find one false, say at which input.
  Laid BY PROGRAM, IN A SANDBOX (cutbox-rows.mjs): the forced cells as the released guide's own fill.sh prints them over the translation 6590bdd443f45d2b… (all of the seat's roots in one cut). By AI agents, Wed Nov 11 2026. No macro, syntax, notation, axiom, sorry.
-/
import Derived.Test.YtooamagefbhgdaaDoorChecked
import GoSem.PinnedTables
import GoSem.Claim
import GoSem.ClaimJoined
import GoSem.ClaimMapViews
import Derived.JoinedTies
import Derived.KernelRfl
namespace Go.Proofs.YtooamagefbhgdaaDoor
/- THE CELL 'sum', in the pinned program and in every row, IS THE sha256 OF THE DUMP (.gsa) THAT YtooamagefbhgdaaDoorProg.lean LOADS. Nothing in Lean hashes anything: it is a label: what it is worth is what the hold of that sum in a sandbox is worth. -/
noncomputable def Tryd.pinned : Pinned := { name := "ytooamagefbhgdaadoor", sum := "6590bdd443f45d2b8ec87431d3252535c7f96b11694fde27d045ac9c437aa7f9", checked := Tryd.checked }
namespace Rows
def none {H : Type} : Left H := { results := [], args := [] }

/- WHAT THE LISTED PACKAGE-LEVEL VARIABLES READ AS WHEN THE CALL BEGINS. Each datum BY PROGRAM (the guide's laid-datum.mjs) off the statement by which the dump's own 'gosem.cut.vars' lays the variable. In a bare row this is a premise. The card (YtooamagefbhgdaaDoorCards.lean) ties it to the program's text. -/
def laid_unicode_utf8_acceptRanges {H : Type} : DataW H := .agg [.agg [.lit (.int .u8 128), .lit (.int .u8 191)], .agg [.lit (.int .u8 160), .lit (.int .u8 191)], .agg [.lit (.int .u8 128), .lit (.int .u8 159)], .agg [.lit (.int .u8 144), .lit (.int .u8 191)], .agg [.lit (.int .u8 128), .lit (.int .u8 143)], .agg [.lit (.int .u8 0), .lit (.int .u8 0)], .agg [.lit (.int .u8 0), .lit (.int .u8 0)], .agg [.lit (.int .u8 0), .lit (.int .u8 0)], .agg [.lit (.int .u8 0), .lit (.int .u8 0)], .agg [.lit (.int .u8 0), .lit (.int .u8 0)], .agg [.lit (.int .u8 0), .lit (.int .u8 0)], .agg [.lit (.int .u8 0), .lit (.int .u8 0)], .agg [.lit (.int .u8 0), .lit (.int .u8 0)], .agg [.lit (.int .u8 0), .lit (.int .u8 0)], .agg [.lit (.int .u8 0), .lit (.int .u8 0)], .agg [.lit (.int .u8 0), .lit (.int .u8 0)]]
/-- One of Go's own tables, pinned by name: the form's constant. -/
def laid_unicode_utf8_first : DataW Unit := Go.Pinned.utf8First

/-- 'lexiconlaw2.LettersUnquote': WHATEVER THE INPUT: true; the input reads as it did. -/
def lettersUnquoteSpec : ChangeSpec := { name := "lettersUnquote", fn := fun _ => fun
  | [d] => { results := [.lit (.bool true)], args := [d] }
  | _ => none }
def lettersUnquoteRow : OpenClaim := { program := "ytooamagefbhgdaadoor", sum := "6590bdd443f45d2b8ec87431d3252535c7f96b11694fde27d045ac9c437aa7f9", func := "lexicon/lexiconlaw2.LettersUnquote", spec := "lettersUnquote", inPlace := ["internal/bytealg.IndexByteString", "internal/abi.NoEscape"], named := ["unicode/utf8.first", "unicode/utf8.acceptRanges"], apart := false, laid := [("unicode/utf8.acceptRanges", laid_unicode_utf8_acceptRanges), ("unicode/utf8.first", laid_unicode_utf8_first)] }
def LettersUnquoteSaid : Prop := lettersUnquoteRow.holds Tryd.pinned (OpenSpec.ofChange lettersUnquoteSpec)

/-- ITS FALSE NEIGHBOUR: 'it returns false'. Refute it at one input. -/
def lettersUnquoteWrong : ChangeSpec := { name := "lettersUnquote", fn := fun _ => fun
  | [d] => { results := [.lit (.bool false)], args := [d] }
  | _ => none }
def LettersUnquoteWrongFalsely : Prop := lettersUnquoteRow.holds Tryd.pinned (OpenSpec.ofChange lettersUnquoteWrong)

/-- 'lexiconlaw2.LettersEnds': WHATEVER THE INPUT: true; the input reads as it did. -/
def lettersEndsSpec : ChangeSpec := { name := "lettersEnds", fn := fun _ => fun
  | [d1, d2, d3, d4] => { results := [.lit (.bool true)], args := [d1, d2, d3, d4] }
  | _ => none }
def lettersEndsRow : OpenClaim := { program := "ytooamagefbhgdaadoor", sum := "6590bdd443f45d2b8ec87431d3252535c7f96b11694fde27d045ac9c437aa7f9", func := "lexicon/lexiconlaw2.LettersEnds", spec := "lettersEnds", inPlace := ["internal/bytealg.IndexByteString", "internal/abi.NoEscape"], named := ["unicode/utf8.first", "unicode/utf8.acceptRanges"], apart := false, laid := [("unicode/utf8.acceptRanges", laid_unicode_utf8_acceptRanges), ("unicode/utf8.first", laid_unicode_utf8_first)] }
def LettersEndsSaid : Prop := lettersEndsRow.holds Tryd.pinned (OpenSpec.ofChange lettersEndsSpec)

/-- ITS FALSE NEIGHBOUR: 'it returns false'. Refute it at one input. -/
def lettersEndsWrong : ChangeSpec := { name := "lettersEnds", fn := fun _ => fun
  | [d1, d2, d3, d4] => { results := [.lit (.bool false)], args := [d1, d2, d3, d4] }
  | _ => none }
def LettersEndsWrongFalsely : Prop := lettersEndsRow.holds Tryd.pinned (OpenSpec.ofChange lettersEndsWrong)

/-- 'lexiconlaw2.LettersAll': WHATEVER THE INPUT: true; the input reads as it did. -/
def lettersAllSpec : ChangeSpec := { name := "lettersAll", fn := fun _ => fun
  | [d1, d2] => { results := [.lit (.bool true)], args := [d1, d2] }
  | _ => none }
def lettersAllRow : OpenClaim := { program := "ytooamagefbhgdaadoor", sum := "6590bdd443f45d2b8ec87431d3252535c7f96b11694fde27d045ac9c437aa7f9", func := "lexicon/lexiconlaw2.LettersAll", spec := "lettersAll", inPlace := ["internal/bytealg.IndexByteString", "internal/abi.NoEscape"], unfollowed := true, recurses := true, named := ["unicode/utf8.first", "unicode/utf8.acceptRanges"], apart := false, laid := [("unicode/utf8.acceptRanges", laid_unicode_utf8_acceptRanges), ("unicode/utf8.first", laid_unicode_utf8_first)] }
def LettersAllSaid : Prop := lettersAllRow.holds Tryd.pinned (OpenSpec.ofChange lettersAllSpec)

/-- ITS FALSE NEIGHBOUR: 'it returns false'. Refute it at one input. -/
def lettersAllWrong : ChangeSpec := { name := "lettersAll", fn := fun _ => fun
  | [d1, d2] => { results := [.lit (.bool false)], args := [d1, d2] }
  | _ => none }
def LettersAllWrongFalsely : Prop := lettersAllRow.holds Tryd.pinned (OpenSpec.ofChange lettersAllWrong)

/-- 'lexiconlaw2.LettersQuote': WHATEVER THE INPUT: true; the input reads as it did. -/
def lettersQuoteSpec : ChangeSpec := { name := "lettersQuote", fn := fun _ => fun
  | [d] => { results := [.lit (.bool true)], args := [d] }
  | _ => none }
def lettersQuoteRow : OpenClaim := { program := "ytooamagefbhgdaadoor", sum := "6590bdd443f45d2b8ec87431d3252535c7f96b11694fde27d045ac9c437aa7f9", func := "lexicon/lexiconlaw2.LettersQuote", spec := "lettersQuote", inPlace := ["internal/bytealg.IndexByteString", "internal/abi.NoEscape"], named := ["unicode/utf8.first", "unicode/utf8.acceptRanges"], apart := false, laid := [("unicode/utf8.acceptRanges", laid_unicode_utf8_acceptRanges), ("unicode/utf8.first", laid_unicode_utf8_first)] }
def LettersQuoteSaid : Prop := lettersQuoteRow.holds Tryd.pinned (OpenSpec.ofChange lettersQuoteSpec)

/-- ITS FALSE NEIGHBOUR: 'it returns false'. Refute it at one input. -/
def lettersQuoteWrong : ChangeSpec := { name := "lettersQuote", fn := fun _ => fun
  | [d] => { results := [.lit (.bool false)], args := [d] }
  | _ => none }
def LettersQuoteWrongFalsely : Prop := lettersQuoteRow.holds Tryd.pinned (OpenSpec.ofChange lettersQuoteWrong)

/-- 'lexiconlaw2.LettersTell': WHATEVER THE INPUT: true; the input reads as it did. -/
def lettersTellSpec : ChangeSpec := { name := "lettersTell", fn := fun _ => fun
  | [d1, d2, d3] => { results := [.lit (.bool true)], args := [d1, d2, d3] }
  | _ => none }
def lettersTellRow : OpenClaim := { program := "ytooamagefbhgdaadoor", sum := "6590bdd443f45d2b8ec87431d3252535c7f96b11694fde27d045ac9c437aa7f9", func := "lexicon/lexiconlaw2.LettersTell", spec := "lettersTell", inPlace := ["internal/bytealg.IndexByteString", "internal/abi.NoEscape", "internal/bytealg.IndexString"], named := ["unicode/utf8.first", "unicode/utf8.acceptRanges", "internal/bytealg.MaxLen"], apart := false, laid := [("unicode/utf8.acceptRanges", laid_unicode_utf8_acceptRanges), ("unicode/utf8.first", laid_unicode_utf8_first)] }
def LettersTellSaid : Prop := lettersTellRow.holds Tryd.pinned (OpenSpec.ofChange lettersTellSpec)

/-- ITS FALSE NEIGHBOUR: 'it returns false'. Refute it at one input. -/
def lettersTellWrong : ChangeSpec := { name := "lettersTell", fn := fun _ => fun
  | [d1, d2, d3] => { results := [.lit (.bool false)], args := [d1, d2, d3] }
  | _ => none }
def LettersTellWrongFalsely : Prop := lettersTellRow.holds Tryd.pinned (OpenSpec.ofChange lettersTellWrong)

/-- 'lexiconlaw2.LettersRepeat': WHATEVER THE INPUT: true; the input reads as it did. -/
def lettersRepeatSpec : ChangeSpec := { name := "lettersRepeat", fn := fun _ => fun
  | [d1, d2] => { results := [.lit (.bool true)], args := [d1, d2] }
  | _ => none }
def lettersRepeatRow : OpenClaim := { program := "ytooamagefbhgdaadoor", sum := "6590bdd443f45d2b8ec87431d3252535c7f96b11694fde27d045ac9c437aa7f9", func := "lexicon/lexiconlaw2.LettersRepeat", spec := "lettersRepeat", inPlace := ["internal/bytealg.IndexByteString", "internal/abi.NoEscape", "internal/bytealg.MakeNoZero"], named := ["unicode/utf8.first", "unicode/utf8.acceptRanges"], apart := false, laid := [("unicode/utf8.acceptRanges", laid_unicode_utf8_acceptRanges), ("unicode/utf8.first", laid_unicode_utf8_first)] }
def LettersRepeatSaid : Prop := lettersRepeatRow.holds Tryd.pinned (OpenSpec.ofChange lettersRepeatSpec)

/-- ITS FALSE NEIGHBOUR: 'it returns false'. Refute it at one input. -/
def lettersRepeatWrong : ChangeSpec := { name := "lettersRepeat", fn := fun _ => fun
  | [d1, d2] => { results := [.lit (.bool false)], args := [d1, d2] }
  | _ => none }
def LettersRepeatWrongFalsely : Prop := lettersRepeatRow.holds Tryd.pinned (OpenSpec.ofChange lettersRepeatWrong)

/- THE SECOND FORM. 'bulk': how many values and letters a reading holds, each counted each time it is reached (what is shared counts as often as it is met; a slice's spare places count too). A statement '..UptoSaid' is the law's where the arguments, and the package variables that the reading takes, are together of bulk at most 1048576: NARROWER than '..Said'. Prove '..Said' where nothing that the law and all that it calls make is longer than what came in: it says more and counts as full. Else prove '..UptoSaid'. A law counts once. -/
mutual
def uptoBulk {H : Type} : DataW H → Nat
  | .lit (.string bytes) => bytes.length + 1
  | .lit _ => 1
  | .nil => 1
  | .ptr d => uptoBulk d + 1
  | .slice elems spare => uptoBulkAll elems + uptoBulkAll spare + 1
  | .agg parts => uptoBulkAll parts + 1
  | .iface _ d => uptoBulk d + 1
  | .map entries => uptoBulkEntries entries + 1
  | .held _ => 1
def uptoBulkAll {H : Type} : List (DataW H) → Nat
  | [] => 0
  | d :: r => uptoBulk d + uptoBulkAll r
def uptoBulkEntries {H : Type} : List (Lit × DataW H) → Nat
  | [] => 0
  | x :: r => uptoBulkEntry x + uptoBulkEntries r
def uptoBulkEntry {H : Type} : Lit × DataW H → Nat
  | (.string bytes, d) => bytes.length + uptoBulk d + 1
  | (_, d) => uptoBulk d + 1
 end
def uptoSmall : (H : Type) → List (DataW H) → Bool := fun _ ds => decide (uptoBulkAll ds ≤ 1048576)
def OpenSpec.upto (s : _root_.Go.ChangeSpec) : _root_.Go.OpenSpec := { _root_.Go.OpenSpec.ofChange s with cond := some uptoSmall }

/-- 'lexiconlaw2.LettersUnquote', WHERE WHAT IT READS IS OF BULK AT MOST 1048576: true; the input reads as it did. -/
def lettersUnquoteUptoRow : OpenClaim := { program := "ytooamagefbhgdaadoor", sum := "6590bdd443f45d2b8ec87431d3252535c7f96b11694fde27d045ac9c437aa7f9", func := "lexicon/lexiconlaw2.LettersUnquote", spec := "lettersUnquote", inPlace := ["internal/bytealg.IndexByteString", "internal/abi.NoEscape"], named := ["unicode/utf8.first", "unicode/utf8.acceptRanges"], apart := false, laid := [("unicode/utf8.acceptRanges", laid_unicode_utf8_acceptRanges), ("unicode/utf8.first", laid_unicode_utf8_first)], narrowed := true }
def LettersUnquoteUptoSaid : Prop := lettersUnquoteUptoRow.holds Tryd.pinned (OpenSpec.upto lettersUnquoteSpec)

/-- 'lexiconlaw2.LettersEnds', WHERE WHAT IT READS IS OF BULK AT MOST 1048576: true; the input reads as it did. -/
def lettersEndsUptoRow : OpenClaim := { program := "ytooamagefbhgdaadoor", sum := "6590bdd443f45d2b8ec87431d3252535c7f96b11694fde27d045ac9c437aa7f9", func := "lexicon/lexiconlaw2.LettersEnds", spec := "lettersEnds", inPlace := ["internal/bytealg.IndexByteString", "internal/abi.NoEscape"], named := ["unicode/utf8.first", "unicode/utf8.acceptRanges"], apart := false, laid := [("unicode/utf8.acceptRanges", laid_unicode_utf8_acceptRanges), ("unicode/utf8.first", laid_unicode_utf8_first)], narrowed := true }
def LettersEndsUptoSaid : Prop := lettersEndsUptoRow.holds Tryd.pinned (OpenSpec.upto lettersEndsSpec)

/-- 'lexiconlaw2.LettersAll', WHERE WHAT IT READS IS OF BULK AT MOST 1048576: true; the input reads as it did. -/
def lettersAllUptoRow : OpenClaim := { program := "ytooamagefbhgdaadoor", sum := "6590bdd443f45d2b8ec87431d3252535c7f96b11694fde27d045ac9c437aa7f9", func := "lexicon/lexiconlaw2.LettersAll", spec := "lettersAll", inPlace := ["internal/bytealg.IndexByteString", "internal/abi.NoEscape"], unfollowed := true, recurses := true, named := ["unicode/utf8.first", "unicode/utf8.acceptRanges"], apart := false, laid := [("unicode/utf8.acceptRanges", laid_unicode_utf8_acceptRanges), ("unicode/utf8.first", laid_unicode_utf8_first)], narrowed := true }
def LettersAllUptoSaid : Prop := lettersAllUptoRow.holds Tryd.pinned (OpenSpec.upto lettersAllSpec)

/-- 'lexiconlaw2.LettersQuote', WHERE WHAT IT READS IS OF BULK AT MOST 1048576: true; the input reads as it did. -/
def lettersQuoteUptoRow : OpenClaim := { program := "ytooamagefbhgdaadoor", sum := "6590bdd443f45d2b8ec87431d3252535c7f96b11694fde27d045ac9c437aa7f9", func := "lexicon/lexiconlaw2.LettersQuote", spec := "lettersQuote", inPlace := ["internal/bytealg.IndexByteString", "internal/abi.NoEscape"], named := ["unicode/utf8.first", "unicode/utf8.acceptRanges"], apart := false, laid := [("unicode/utf8.acceptRanges", laid_unicode_utf8_acceptRanges), ("unicode/utf8.first", laid_unicode_utf8_first)], narrowed := true }
def LettersQuoteUptoSaid : Prop := lettersQuoteUptoRow.holds Tryd.pinned (OpenSpec.upto lettersQuoteSpec)

/-- 'lexiconlaw2.LettersTell', WHERE WHAT IT READS IS OF BULK AT MOST 1048576: true; the input reads as it did. -/
def lettersTellUptoRow : OpenClaim := { program := "ytooamagefbhgdaadoor", sum := "6590bdd443f45d2b8ec87431d3252535c7f96b11694fde27d045ac9c437aa7f9", func := "lexicon/lexiconlaw2.LettersTell", spec := "lettersTell", inPlace := ["internal/bytealg.IndexByteString", "internal/abi.NoEscape", "internal/bytealg.IndexString"], named := ["unicode/utf8.first", "unicode/utf8.acceptRanges", "internal/bytealg.MaxLen"], apart := false, laid := [("unicode/utf8.acceptRanges", laid_unicode_utf8_acceptRanges), ("unicode/utf8.first", laid_unicode_utf8_first)], narrowed := true }
def LettersTellUptoSaid : Prop := lettersTellUptoRow.holds Tryd.pinned (OpenSpec.upto lettersTellSpec)

/-- 'lexiconlaw2.LettersRepeat', WHERE WHAT IT READS IS OF BULK AT MOST 1048576: true; the input reads as it did. -/
def lettersRepeatUptoRow : OpenClaim := { program := "ytooamagefbhgdaadoor", sum := "6590bdd443f45d2b8ec87431d3252535c7f96b11694fde27d045ac9c437aa7f9", func := "lexicon/lexiconlaw2.LettersRepeat", spec := "lettersRepeat", inPlace := ["internal/bytealg.IndexByteString", "internal/abi.NoEscape", "internal/bytealg.MakeNoZero"], named := ["unicode/utf8.first", "unicode/utf8.acceptRanges"], apart := false, laid := [("unicode/utf8.acceptRanges", laid_unicode_utf8_acceptRanges), ("unicode/utf8.first", laid_unicode_utf8_first)], narrowed := true }
def LettersRepeatUptoSaid : Prop := lettersRepeatUptoRow.holds Tryd.pinned (OpenSpec.upto lettersRepeatSpec)

end Rows
end Go.Proofs.YtooamagefbhgdaaDoor
