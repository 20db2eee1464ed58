/- Words for memory that the walks of this seat use: a slice that reads as a list of integers, and how it is kept. Conditions: none. -/
import Derived.WalkKit
import Derived.WalkSpells
import Derived.WalkLawsBesides
import Derived.Lib.Hide
namespace Go.Proofs.YtgheejogpbhokaaDoor
set_option linter.unusedVariables false
set_option linter.unusedSimpArgs false
open Go.RowKit

/-- The slice with the head A reads, cell by cell, as the integers zs of kind k. -/
def RdI (w : World) (k : IntKind) (A : Option Addr) (zs : List Int) : Prop :=
  ∀ i, i < zs.length → ∃ (b off : Nat) (z : Int), A = some ⟨b, off, none⟩ ∧ zs[i]? = some z ∧ w.cell? ⟨b, off + i, none⟩ = some (.int k z)

theorem RdI.nil (w : World) (k : IntKind) (A : Option Addr) : RdI w k A [] := fun i h => absurd h (by simp)

theorem RdI.later {w w' : World} {k : IntKind} {A : Option Addr} {zs : List Int} (h : RdI w k A zs) (hb : Below w.heap.size w w') : RdI w' k A zs := fun i hi => by
  obtain ⟨b, off, z, hA, hz, hc⟩ := h i hi
  exact ⟨b, off, z, hA, hz, cell_later hb hc⟩


/-- Behind a call that turned nothing that was there: all old cells and marks read as they did. -/
theorem oldCells {W w1 : World} (hb : Below W.heap.size W w1) :
    (∀ b o, b < W.heap.size → w1.cell? ⟨b, o, none⟩ = W.cell? ⟨b, o, none⟩) ∧ (∀ b o, b < W.heap.size → w1.frozen? ⟨b, o, none⟩ = W.frozen? ⟨b, o, none⟩) :=
  ⟨fun b o h => hb.cell (p := ⟨b, o, none⟩) h, fun b o h => hb.frozen (p := ⟨b, o, none⟩) h⟩
end Go.Proofs.YtgheejogpbhokaaDoor
