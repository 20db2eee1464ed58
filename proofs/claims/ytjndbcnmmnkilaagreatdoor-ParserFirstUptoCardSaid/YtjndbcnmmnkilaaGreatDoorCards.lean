/-
  DERIVED. GIVEN WITH THE SEED: THE CARDS: each row of YtjndbcnmmnkilaaGreatDoorRows.lean that lists a variable, with what it lists TIED to the program's text (the seventh form; the later family's looks); each row that meets fmt, with fmt's text TOLD by the authors' own Lean function (tested against real Go, not proved from fmt's source: count such statements apart). THE CARD IS WHAT COUNTS. Prove the row's statement (the work); the ties are given (YtjndbcnmmnkilaaGreatDoorTie.lean); close each card by the builder's one call (the guide's Derived/Test/ToyasCard.lean, 'card_holds'). Laid BY PROGRAM, IN A SANDBOX (cutbox-door.mjs). By AI agents, Wed Nov 11 2026. No macro, syntax, notation, axiom, sorry.
-/
import Derived.Test.YtjndbcnmmnkilaaGreatDoorRows
import GoSem.ClaimSeven
namespace Go.Proofs.YtjndbcnmmnkilaaGreatDoor
namespace Rows

/-- THE TIED CARD OF 'lexiconlaw15.ParserReads'. -/
def parserReadsCard : Claim7 := { stood := { row := parserReadsRow, standIns := [], harness := (true, "8f70bf61b6ca6e5f3ce230f0b6f39646beeb549eccb99fd5070088bb20c74bbe"), looks := true }, kinds := [], alts := [], laidByText := true, laidKinds := [.data, .pinned], laidTests := true, laidLooks := .later }
def ParserReadsCardSaid : Prop := Claim7.holds Tryz.pinned (.plain (OpenSpec.ofChange parserReadsSpec)) parserReadsCard

/-- THE TIED CARD OF 'lexiconlaw15.ParserTakes'. -/
def parserTakesCard : Claim7 := { stood := { row := parserTakesRow, standIns := [], harness := (true, "8f70bf61b6ca6e5f3ce230f0b6f39646beeb549eccb99fd5070088bb20c74bbe"), looks := true }, kinds := [], alts := [], laidByText := true, laidKinds := [.data, .pinned], laidTests := true, laidLooks := .later }
def ParserTakesCardSaid : Prop := Claim7.holds Tryz.pinned (.plain (OpenSpec.ofChange parserTakesSpec)) parserTakesCard

/-- THE TIED CARD OF 'lexiconlaw15.ParserTrees'. -/
def parserTreesCard : Claim7 := { stood := { row := parserTreesRow, standIns := [], harness := (true, "8f70bf61b6ca6e5f3ce230f0b6f39646beeb549eccb99fd5070088bb20c74bbe"), looks := true }, kinds := [], alts := [], laidByText := true, laidKinds := [.data, .pinned], laidTests := true, laidLooks := .later }
def ParserTreesCardSaid : Prop := Claim7.holds Tryz.pinned (.plain (OpenSpec.ofChange parserTreesSpec)) parserTreesCard

/-- THE TIED CARD OF 'lexiconlaw15.ParserFirst'. -/
def parserFirstCard : Claim7 := { stood := { row := parserFirstRow, standIns := [], harness := (true, "8f70bf61b6ca6e5f3ce230f0b6f39646beeb549eccb99fd5070088bb20c74bbe"), looks := true }, kinds := [], alts := [], laidByText := true, laidKinds := [.data, .pinned], laidTests := true, laidLooks := .later }
def ParserFirstCardSaid : Prop := Claim7.holds Tryz.pinned (.plain (OpenSpec.ofChange parserFirstSpec)) parserFirstCard

/-- THE TIED CARD OF 'lexiconlaw15.ParserShapes'. -/
def parserShapesCard : Claim7 := { stood := { row := parserShapesRow, standIns := [], harness := (true, "8f70bf61b6ca6e5f3ce230f0b6f39646beeb549eccb99fd5070088bb20c74bbe"), looks := true }, kinds := [], alts := [], laidByText := true, laidKinds := [.data, .pinned], laidTests := true, laidLooks := .later }
def ParserShapesCardSaid : Prop := Claim7.holds Tryz.pinned (.plain (OpenSpec.ofChange parserShapesSpec)) parserShapesCard

/-- THE TIED CARD OF 'lexiconlaw14.TreePrints'. -/
def treePrintsCard : Claim7 := { stood := { row := treePrintsRow, standIns := [], harness := (true, "8f70bf61b6ca6e5f3ce230f0b6f39646beeb549eccb99fd5070088bb20c74bbe"), looks := true }, kinds := [], alts := [], laidByText := true, laidKinds := [.data, .pinned], laidTests := true, laidLooks := .later }
def TreePrintsCardSaid : Prop := Claim7.holds Tryz.pinned (.plain (OpenSpec.ofChange treePrintsSpec)) treePrintsCard

/-- THE SECOND FORM's CARD OF 'lexiconlaw15.ParserReads'. -/
def parserReadsUptoCard : Claim7 := { stood := { row := parserReadsUptoRow, standIns := [], harness := (true, "8f70bf61b6ca6e5f3ce230f0b6f39646beeb549eccb99fd5070088bb20c74bbe"), looks := true }, kinds := [], alts := [], laidByText := true, laidKinds := [.data, .pinned], laidTests := true, laidLooks := .later }
def ParserReadsUptoCardSaid : Prop := Claim7.holds Tryz.pinned (.plain (OpenSpec.upto parserReadsSpec)) parserReadsUptoCard

/-- THE SECOND FORM's CARD OF 'lexiconlaw15.ParserTakes'. -/
def parserTakesUptoCard : Claim7 := { stood := { row := parserTakesUptoRow, standIns := [], harness := (true, "8f70bf61b6ca6e5f3ce230f0b6f39646beeb549eccb99fd5070088bb20c74bbe"), looks := true }, kinds := [], alts := [], laidByText := true, laidKinds := [.data, .pinned], laidTests := true, laidLooks := .later }
def ParserTakesUptoCardSaid : Prop := Claim7.holds Tryz.pinned (.plain (OpenSpec.upto parserTakesSpec)) parserTakesUptoCard

/-- THE SECOND FORM's CARD OF 'lexiconlaw15.ParserTrees'. -/
def parserTreesUptoCard : Claim7 := { stood := { row := parserTreesUptoRow, standIns := [], harness := (true, "8f70bf61b6ca6e5f3ce230f0b6f39646beeb549eccb99fd5070088bb20c74bbe"), looks := true }, kinds := [], alts := [], laidByText := true, laidKinds := [.data, .pinned], laidTests := true, laidLooks := .later }
def ParserTreesUptoCardSaid : Prop := Claim7.holds Tryz.pinned (.plain (OpenSpec.upto parserTreesSpec)) parserTreesUptoCard

/-- THE SECOND FORM's CARD OF 'lexiconlaw15.ParserFirst'. -/
def parserFirstUptoCard : Claim7 := { stood := { row := parserFirstUptoRow, standIns := [], harness := (true, "8f70bf61b6ca6e5f3ce230f0b6f39646beeb549eccb99fd5070088bb20c74bbe"), looks := true }, kinds := [], alts := [], laidByText := true, laidKinds := [.data, .pinned], laidTests := true, laidLooks := .later }
def ParserFirstUptoCardSaid : Prop := Claim7.holds Tryz.pinned (.plain (OpenSpec.upto parserFirstSpec)) parserFirstUptoCard

/-- THE SECOND FORM's CARD OF 'lexiconlaw15.ParserShapes'. -/
def parserShapesUptoCard : Claim7 := { stood := { row := parserShapesUptoRow, standIns := [], harness := (true, "8f70bf61b6ca6e5f3ce230f0b6f39646beeb549eccb99fd5070088bb20c74bbe"), looks := true }, kinds := [], alts := [], laidByText := true, laidKinds := [.data, .pinned], laidTests := true, laidLooks := .later }
def ParserShapesUptoCardSaid : Prop := Claim7.holds Tryz.pinned (.plain (OpenSpec.upto parserShapesSpec)) parserShapesUptoCard

/-- THE SECOND FORM's CARD OF 'lexiconlaw14.TreePrints'. -/
def treePrintsUptoCard : Claim7 := { stood := { row := treePrintsUptoRow, standIns := [], harness := (true, "8f70bf61b6ca6e5f3ce230f0b6f39646beeb549eccb99fd5070088bb20c74bbe"), looks := true }, kinds := [], alts := [], laidByText := true, laidKinds := [.data, .pinned], laidTests := true, laidLooks := .later }
def TreePrintsUptoCardSaid : Prop := Claim7.holds Tryz.pinned (.plain (OpenSpec.upto treePrintsSpec)) treePrintsUptoCard
end Rows
end Go.Proofs.YtjndbcnmmnkilaaGreatDoor
