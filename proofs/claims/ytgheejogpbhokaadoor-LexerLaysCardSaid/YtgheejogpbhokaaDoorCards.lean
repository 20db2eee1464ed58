/-
  DERIVED. GIVEN WITH THE SEED: THE CARDS: each row of YtgheejogpbhokaaDoorRows.lean that lists a variable, with what it lists TIED to the program's text (the seventh form; the later family's looks); each row that meets fmt, with fmt's text TOLD by the authors' own Lean function (tested against real Go, not proved from fmt's source: count such statements apart). THE CARD IS WHAT COUNTS. Prove the row's statement (the work); the ties are given (YtgheejogpbhokaaDoorTie.lean); close each card by the builder's one call (the guide's Derived/Test/ToyasCard.lean, 'card_holds'). Laid BY PROGRAM, IN A SANDBOX (cutbox-door.mjs). By AI agents, Wed Nov 11 2026. No macro, syntax, notation, axiom, sorry.
-/
import Derived.Test.YtgheejogpbhokaaDoorRows
import GoSem.ClaimSeven
namespace Go.Proofs.YtgheejogpbhokaaDoor
namespace Rows

/-- THE TIED CARD OF 'lexiconlaw13.LexerReads'. -/
def lexerReadsCard : Claim7 := { stood := { row := lexerReadsRow, standIns := [], harness := (true, "3d77718ea4be6b5dccb842e87928a8a1dee6ebd7671431ec0481f67b574502b9"), looks := true }, kinds := [], alts := [], laidByText := true, laidKinds := [.data, .pinned], laidTests := true, laidLooks := .later }
def LexerReadsCardSaid : Prop := Claim7.holds Tryd.pinned (.plain (OpenSpec.ofChange lexerReadsSpec)) lexerReadsCard

/-- THE TIED CARD OF 'lexiconlaw13.LexerWords'. -/
def lexerWordsCard : Claim7 := { stood := { row := lexerWordsRow, standIns := [], harness := (true, "3d77718ea4be6b5dccb842e87928a8a1dee6ebd7671431ec0481f67b574502b9"), looks := true }, kinds := [], alts := [], laidByText := true, laidKinds := [.data, .pinned], laidTests := true, laidLooks := .later }
def LexerWordsCardSaid : Prop := Claim7.holds Tryd.pinned (.plain (OpenSpec.ofChange lexerWordsSpec)) lexerWordsCard

/-- THE TIED CARD OF 'lexiconlaw13.LexerLong'. -/
def lexerLongCard : Claim7 := { stood := { row := lexerLongRow, standIns := [], harness := (true, "3d77718ea4be6b5dccb842e87928a8a1dee6ebd7671431ec0481f67b574502b9"), looks := true }, kinds := [], alts := [], laidByText := true, laidKinds := [.data, .pinned], laidTests := true, laidLooks := .later }
def LexerLongCardSaid : Prop := Claim7.holds Tryd.pinned (.plain (OpenSpec.ofChange lexerLongSpec)) lexerLongCard

/-- THE TIED CARD OF 'lexiconlaw13.LexerShape'. -/
def lexerShapeCard : Claim7 := { stood := { row := lexerShapeRow, standIns := [], harness := (true, "3d77718ea4be6b5dccb842e87928a8a1dee6ebd7671431ec0481f67b574502b9"), looks := true }, kinds := [], alts := [], laidByText := true, laidKinds := [.data, .pinned], laidTests := true, laidLooks := .later }
def LexerShapeCardSaid : Prop := Claim7.holds Tryd.pinned (.plain (OpenSpec.ofChange lexerShapeSpec)) lexerShapeCard

/-- THE TIED CARD OF 'lexiconlaw13.LexerLays'. -/
def lexerLaysCard : Claim7 := { stood := { row := lexerLaysRow, standIns := [], harness := (true, "3d77718ea4be6b5dccb842e87928a8a1dee6ebd7671431ec0481f67b574502b9"), looks := true }, kinds := [], alts := [], laidByText := true, laidKinds := [.data, .pinned], laidTests := true, laidLooks := .later }
def LexerLaysCardSaid : Prop := Claim7.holds Tryd.pinned (.plain (OpenSpec.ofChange lexerLaysSpec)) lexerLaysCard

/-- THE TIED CARD OF 'lexiconlaw13.LexerBlocks'. -/
def lexerBlocksCard : Claim7 := { stood := { row := lexerBlocksRow, standIns := [], harness := (true, "3d77718ea4be6b5dccb842e87928a8a1dee6ebd7671431ec0481f67b574502b9"), looks := true }, kinds := [], alts := [], laidByText := true, laidKinds := [.data, .pinned], laidTests := true, laidLooks := .later }
def LexerBlocksCardSaid : Prop := Claim7.holds Tryd.pinned (.plain (OpenSpec.ofChange lexerBlocksSpec)) lexerBlocksCard

/-- THE SECOND FORM's CARD OF 'lexiconlaw13.LexerReads'. -/
def lexerReadsUptoCard : Claim7 := { stood := { row := lexerReadsUptoRow, standIns := [], harness := (true, "3d77718ea4be6b5dccb842e87928a8a1dee6ebd7671431ec0481f67b574502b9"), looks := true }, kinds := [], alts := [], laidByText := true, laidKinds := [.data, .pinned], laidTests := true, laidLooks := .later }
def LexerReadsUptoCardSaid : Prop := Claim7.holds Tryd.pinned (.plain (OpenSpec.upto lexerReadsSpec)) lexerReadsUptoCard

/-- THE SECOND FORM's CARD OF 'lexiconlaw13.LexerWords'. -/
def lexerWordsUptoCard : Claim7 := { stood := { row := lexerWordsUptoRow, standIns := [], harness := (true, "3d77718ea4be6b5dccb842e87928a8a1dee6ebd7671431ec0481f67b574502b9"), looks := true }, kinds := [], alts := [], laidByText := true, laidKinds := [.data, .pinned], laidTests := true, laidLooks := .later }
def LexerWordsUptoCardSaid : Prop := Claim7.holds Tryd.pinned (.plain (OpenSpec.upto lexerWordsSpec)) lexerWordsUptoCard

/-- THE SECOND FORM's CARD OF 'lexiconlaw13.LexerLong'. -/
def lexerLongUptoCard : Claim7 := { stood := { row := lexerLongUptoRow, standIns := [], harness := (true, "3d77718ea4be6b5dccb842e87928a8a1dee6ebd7671431ec0481f67b574502b9"), looks := true }, kinds := [], alts := [], laidByText := true, laidKinds := [.data, .pinned], laidTests := true, laidLooks := .later }
def LexerLongUptoCardSaid : Prop := Claim7.holds Tryd.pinned (.plain (OpenSpec.upto lexerLongSpec)) lexerLongUptoCard

/-- THE SECOND FORM's CARD OF 'lexiconlaw13.LexerShape'. -/
def lexerShapeUptoCard : Claim7 := { stood := { row := lexerShapeUptoRow, standIns := [], harness := (true, "3d77718ea4be6b5dccb842e87928a8a1dee6ebd7671431ec0481f67b574502b9"), looks := true }, kinds := [], alts := [], laidByText := true, laidKinds := [.data, .pinned], laidTests := true, laidLooks := .later }
def LexerShapeUptoCardSaid : Prop := Claim7.holds Tryd.pinned (.plain (OpenSpec.upto lexerShapeSpec)) lexerShapeUptoCard

/-- THE SECOND FORM's CARD OF 'lexiconlaw13.LexerLays'. -/
def lexerLaysUptoCard : Claim7 := { stood := { row := lexerLaysUptoRow, standIns := [], harness := (true, "3d77718ea4be6b5dccb842e87928a8a1dee6ebd7671431ec0481f67b574502b9"), looks := true }, kinds := [], alts := [], laidByText := true, laidKinds := [.data, .pinned], laidTests := true, laidLooks := .later }
def LexerLaysUptoCardSaid : Prop := Claim7.holds Tryd.pinned (.plain (OpenSpec.upto lexerLaysSpec)) lexerLaysUptoCard

/-- THE SECOND FORM's CARD OF 'lexiconlaw13.LexerBlocks'. -/
def lexerBlocksUptoCard : Claim7 := { stood := { row := lexerBlocksUptoRow, standIns := [], harness := (true, "3d77718ea4be6b5dccb842e87928a8a1dee6ebd7671431ec0481f67b574502b9"), looks := true }, kinds := [], alts := [], laidByText := true, laidKinds := [.data, .pinned], laidTests := true, laidLooks := .later }
def LexerBlocksUptoCardSaid : Prop := Claim7.holds Tryd.pinned (.plain (OpenSpec.upto lexerBlocksSpec)) lexerBlocksUptoCard
end Rows
end Go.Proofs.YtgheejogpbhokaaDoor
