/-
  DERIVED. GIVEN WITH THE SEED: THE CARDS: each row of YtjefhdlncikhmaaGreatDoorRows.lean that lists a variable, with what it lists TIED to the program's text (the seventh form; the later family's looks); each row that meets fmt, with fmt's text TOLD by the authors' own Lean function (tested against real Go, not proved from fmt's source: count such statements apart). THE CARD IS WHAT COUNTS. Prove the row's statement (the work); the ties are given (YtjefhdlncikhmaaGreatDoorTie.lean); close each card by the builder's one call (the guide's Derived/Test/ToyasCard.lean, 'card_holds'). Laid BY PROGRAM, IN A SANDBOX (cutbox-door.mjs). By AI agents, Wed Nov 11 2026. No macro, syntax, notation, axiom, sorry.
-/
import Derived.Test.YtjefhdlncikhmaaGreatDoorRows
import GoSem.ClaimSeven
namespace Go.Proofs.YtjefhdlncikhmaaGreatDoor
namespace Rows

/-- THE TIED CARD OF 'lexiconlaw14.TreeTells'. -/
def treeTellsCard : Claim7 := { stood := { row := treeTellsRow, standIns := [], harness := (true, "7dc6dda32aa2125ba0ef3455a1ddb4629d3a4b0071e81fb197b56c2f03caf739"), looks := false }, kinds := [], alts := [], laidByText := true, laidKinds := [.data, .pinned], laidTests := true, laidLooks := .later }
def TreeTellsCardSaid : Prop := Claim7.holds Tryz.pinned (.plain (OpenSpec.ofChange treeTellsSpec)) treeTellsCard

/-- THE TIED CARD OF 'lexiconlaw14.TreePrints'. -/
def treePrintsCard : Claim7 := { stood := { row := treePrintsRow, standIns := [], harness := (true, "7dc6dda32aa2125ba0ef3455a1ddb4629d3a4b0071e81fb197b56c2f03caf739"), looks := false }, kinds := [], alts := [], laidByText := true, laidKinds := [.data, .pinned], laidTests := true, laidLooks := .later }
def TreePrintsCardSaid : Prop := Claim7.holds Tryz.pinned (.plain (OpenSpec.ofChange treePrintsSpec)) treePrintsCard

/-- THE TIED CARD OF 'lexiconlaw14.TreeAll'. -/
def treeAllCard : Claim7 := { stood := { row := treeAllRow, standIns := [], harness := (true, "7dc6dda32aa2125ba0ef3455a1ddb4629d3a4b0071e81fb197b56c2f03caf739"), looks := false }, kinds := [], alts := [], laidByText := true, laidKinds := [.data, .pinned], laidTests := true, laidLooks := .later }
def TreeAllCardSaid : Prop := Claim7.holds Tryz.pinned (.plain (OpenSpec.ofChange treeAllSpec)) treeAllCard

/-- THE TIED CARD OF 'lexiconlaw14.TreeBare'. -/
def treeBareCard : Claim7 := { stood := { row := treeBareRow, standIns := [], harness := (true, "7dc6dda32aa2125ba0ef3455a1ddb4629d3a4b0071e81fb197b56c2f03caf739"), looks := false }, kinds := [], alts := [], laidByText := true, laidKinds := [.data, .pinned], laidTests := true, laidLooks := .later }
def TreeBareCardSaid : Prop := Claim7.holds Tryz.pinned (.plain (OpenSpec.ofChange treeBareSpec)) treeBareCard

/-- THE SECOND FORM's CARD OF 'lexiconlaw14.TreeTells'. -/
def treeTellsUptoCard : Claim7 := { stood := { row := treeTellsUptoRow, standIns := [], harness := (true, "7dc6dda32aa2125ba0ef3455a1ddb4629d3a4b0071e81fb197b56c2f03caf739"), looks := false }, kinds := [], alts := [], laidByText := true, laidKinds := [.data, .pinned], laidTests := true, laidLooks := .later }
def TreeTellsUptoCardSaid : Prop := Claim7.holds Tryz.pinned (.plain (OpenSpec.upto treeTellsSpec)) treeTellsUptoCard

/-- THE SECOND FORM's CARD OF 'lexiconlaw14.TreePrints'. -/
def treePrintsUptoCard : Claim7 := { stood := { row := treePrintsUptoRow, standIns := [], harness := (true, "7dc6dda32aa2125ba0ef3455a1ddb4629d3a4b0071e81fb197b56c2f03caf739"), looks := false }, kinds := [], alts := [], laidByText := true, laidKinds := [.data, .pinned], laidTests := true, laidLooks := .later }
def TreePrintsUptoCardSaid : Prop := Claim7.holds Tryz.pinned (.plain (OpenSpec.upto treePrintsSpec)) treePrintsUptoCard

/-- THE SECOND FORM's CARD OF 'lexiconlaw14.TreeAll'. -/
def treeAllUptoCard : Claim7 := { stood := { row := treeAllUptoRow, standIns := [], harness := (true, "7dc6dda32aa2125ba0ef3455a1ddb4629d3a4b0071e81fb197b56c2f03caf739"), looks := false }, kinds := [], alts := [], laidByText := true, laidKinds := [.data, .pinned], laidTests := true, laidLooks := .later }
def TreeAllUptoCardSaid : Prop := Claim7.holds Tryz.pinned (.plain (OpenSpec.upto treeAllSpec)) treeAllUptoCard

/-- THE SECOND FORM's CARD OF 'lexiconlaw14.TreeBare'. -/
def treeBareUptoCard : Claim7 := { stood := { row := treeBareUptoRow, standIns := [], harness := (true, "7dc6dda32aa2125ba0ef3455a1ddb4629d3a4b0071e81fb197b56c2f03caf739"), looks := false }, kinds := [], alts := [], laidByText := true, laidKinds := [.data, .pinned], laidTests := true, laidLooks := .later }
def TreeBareUptoCardSaid : Prop := Claim7.holds Tryz.pinned (.plain (OpenSpec.upto treeBareSpec)) treeBareUptoCard
end Rows
end Go.Proofs.YtjefhdlncikhmaaGreatDoor
