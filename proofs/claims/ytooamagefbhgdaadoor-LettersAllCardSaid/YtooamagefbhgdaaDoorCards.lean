/-
  DERIVED. GIVEN WITH THE SEED: THE CARDS: each row of YtooamagefbhgdaaDoorRows.lean that lists a variable, with what it lists TIED to the program's text (the seventh form; the later family's looks); each row that meets fmt, with fmt's text TOLD by the authors' own Lean function (tested against real Go, not proved from fmt's source: count such statements apart). THE CARD IS WHAT COUNTS. Prove the row's statement (the work); the ties are given (YtooamagefbhgdaaDoorTie.lean); close each card by the builder's one call (the guide's Derived/Test/ToyasCard.lean, 'card_holds'). Laid BY PROGRAM, IN A SANDBOX (cutbox-door.mjs). By AI agents, Wed Nov 11 2026. No macro, syntax, notation, axiom, sorry.
-/
import Derived.Test.YtooamagefbhgdaaDoorRows
import GoSem.ClaimSeven
namespace Go.Proofs.YtooamagefbhgdaaDoor
namespace Rows

/-- THE TIED CARD OF 'lexiconlaw2.LettersUnquote'. -/
def lettersUnquoteCard : Claim7 := { stood := { row := lettersUnquoteRow, standIns := [], harness := (true, "190b18bdfea5a605b53b03ca1558f8624b300423ad8999bf39dbec97e4bd2b5b"), looks := false }, kinds := [], alts := [], laidByText := true, laidKinds := [.data, .pinned], laidTests := true, laidLooks := .later }
def LettersUnquoteCardSaid : Prop := Claim7.holds Tryd.pinned (.plain (OpenSpec.ofChange lettersUnquoteSpec)) lettersUnquoteCard

/-- THE TIED CARD OF 'lexiconlaw2.LettersEnds'. -/
def lettersEndsCard : Claim7 := { stood := { row := lettersEndsRow, standIns := [], harness := (true, "190b18bdfea5a605b53b03ca1558f8624b300423ad8999bf39dbec97e4bd2b5b"), looks := false }, kinds := [], alts := [], laidByText := true, laidKinds := [.data, .pinned], laidTests := true, laidLooks := .later }
def LettersEndsCardSaid : Prop := Claim7.holds Tryd.pinned (.plain (OpenSpec.ofChange lettersEndsSpec)) lettersEndsCard

/-- THE TIED CARD OF 'lexiconlaw2.LettersAll'. -/
def lettersAllCard : Claim7 := { stood := { row := lettersAllRow, standIns := [], harness := (true, "190b18bdfea5a605b53b03ca1558f8624b300423ad8999bf39dbec97e4bd2b5b"), looks := false }, kinds := [], alts := [], laidByText := true, laidKinds := [.data, .pinned], laidTests := true, laidLooks := .later }
def LettersAllCardSaid : Prop := Claim7.holds Tryd.pinned (.plain (OpenSpec.ofChange lettersAllSpec)) lettersAllCard

/-- THE TIED CARD OF 'lexiconlaw2.LettersQuote'. -/
def lettersQuoteCard : Claim7 := { stood := { row := lettersQuoteRow, standIns := [], harness := (true, "190b18bdfea5a605b53b03ca1558f8624b300423ad8999bf39dbec97e4bd2b5b"), looks := false }, kinds := [], alts := [], laidByText := true, laidKinds := [.data, .pinned], laidTests := true, laidLooks := .later }
def LettersQuoteCardSaid : Prop := Claim7.holds Tryd.pinned (.plain (OpenSpec.ofChange lettersQuoteSpec)) lettersQuoteCard

/-- THE TIED CARD OF 'lexiconlaw2.LettersTell'. -/
def lettersTellCard : Claim7 := { stood := { row := lettersTellRow, standIns := [], harness := (true, "190b18bdfea5a605b53b03ca1558f8624b300423ad8999bf39dbec97e4bd2b5b"), looks := false }, kinds := [], alts := [], laidByText := true, laidKinds := [.data, .pinned], laidTests := true, laidLooks := .later }
def LettersTellCardSaid : Prop := Claim7.holds Tryd.pinned (.plain (OpenSpec.ofChange lettersTellSpec)) lettersTellCard

/-- THE TIED CARD OF 'lexiconlaw2.LettersRepeat'. -/
def lettersRepeatCard : Claim7 := { stood := { row := lettersRepeatRow, standIns := [], harness := (true, "190b18bdfea5a605b53b03ca1558f8624b300423ad8999bf39dbec97e4bd2b5b"), looks := false }, kinds := [], alts := [], laidByText := true, laidKinds := [.data, .pinned], laidTests := true, laidLooks := .later }
def LettersRepeatCardSaid : Prop := Claim7.holds Tryd.pinned (.plain (OpenSpec.ofChange lettersRepeatSpec)) lettersRepeatCard

/-- THE SECOND FORM's CARD OF 'lexiconlaw2.LettersUnquote'. -/
def lettersUnquoteUptoCard : Claim7 := { stood := { row := lettersUnquoteUptoRow, standIns := [], harness := (true, "190b18bdfea5a605b53b03ca1558f8624b300423ad8999bf39dbec97e4bd2b5b"), looks := false }, kinds := [], alts := [], laidByText := true, laidKinds := [.data, .pinned], laidTests := true, laidLooks := .later }
def LettersUnquoteUptoCardSaid : Prop := Claim7.holds Tryd.pinned (.plain (OpenSpec.upto lettersUnquoteSpec)) lettersUnquoteUptoCard

/-- THE SECOND FORM's CARD OF 'lexiconlaw2.LettersEnds'. -/
def lettersEndsUptoCard : Claim7 := { stood := { row := lettersEndsUptoRow, standIns := [], harness := (true, "190b18bdfea5a605b53b03ca1558f8624b300423ad8999bf39dbec97e4bd2b5b"), looks := false }, kinds := [], alts := [], laidByText := true, laidKinds := [.data, .pinned], laidTests := true, laidLooks := .later }
def LettersEndsUptoCardSaid : Prop := Claim7.holds Tryd.pinned (.plain (OpenSpec.upto lettersEndsSpec)) lettersEndsUptoCard

/-- THE SECOND FORM's CARD OF 'lexiconlaw2.LettersAll'. -/
def lettersAllUptoCard : Claim7 := { stood := { row := lettersAllUptoRow, standIns := [], harness := (true, "190b18bdfea5a605b53b03ca1558f8624b300423ad8999bf39dbec97e4bd2b5b"), looks := false }, kinds := [], alts := [], laidByText := true, laidKinds := [.data, .pinned], laidTests := true, laidLooks := .later }
def LettersAllUptoCardSaid : Prop := Claim7.holds Tryd.pinned (.plain (OpenSpec.upto lettersAllSpec)) lettersAllUptoCard

/-- THE SECOND FORM's CARD OF 'lexiconlaw2.LettersQuote'. -/
def lettersQuoteUptoCard : Claim7 := { stood := { row := lettersQuoteUptoRow, standIns := [], harness := (true, "190b18bdfea5a605b53b03ca1558f8624b300423ad8999bf39dbec97e4bd2b5b"), looks := false }, kinds := [], alts := [], laidByText := true, laidKinds := [.data, .pinned], laidTests := true, laidLooks := .later }
def LettersQuoteUptoCardSaid : Prop := Claim7.holds Tryd.pinned (.plain (OpenSpec.upto lettersQuoteSpec)) lettersQuoteUptoCard

/-- THE SECOND FORM's CARD OF 'lexiconlaw2.LettersTell'. -/
def lettersTellUptoCard : Claim7 := { stood := { row := lettersTellUptoRow, standIns := [], harness := (true, "190b18bdfea5a605b53b03ca1558f8624b300423ad8999bf39dbec97e4bd2b5b"), looks := false }, kinds := [], alts := [], laidByText := true, laidKinds := [.data, .pinned], laidTests := true, laidLooks := .later }
def LettersTellUptoCardSaid : Prop := Claim7.holds Tryd.pinned (.plain (OpenSpec.upto lettersTellSpec)) lettersTellUptoCard

/-- THE SECOND FORM's CARD OF 'lexiconlaw2.LettersRepeat'. -/
def lettersRepeatUptoCard : Claim7 := { stood := { row := lettersRepeatUptoRow, standIns := [], harness := (true, "190b18bdfea5a605b53b03ca1558f8624b300423ad8999bf39dbec97e4bd2b5b"), looks := false }, kinds := [], alts := [], laidByText := true, laidKinds := [.data, .pinned], laidTests := true, laidLooks := .later }
def LettersRepeatUptoCardSaid : Prop := Claim7.holds Tryd.pinned (.plain (OpenSpec.upto lettersRepeatSpec)) lettersRepeatUptoCard
end Rows
end Go.Proofs.YtooamagefbhgdaaDoor
