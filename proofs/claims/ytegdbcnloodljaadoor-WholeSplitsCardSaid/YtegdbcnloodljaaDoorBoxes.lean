/- A box of two cells (an Int that a variable holds). -/
import Derived.Test.YtegdbcnloodljaaDoorLawHelp
import Derived.Test.YtegdbcnloodljaaDoorW3
namespace Go.Proofs.YtegdbcnloodljaaDoor
set_option linter.unusedVariables false
set_option linter.unusedSimpArgs false
open Go.RowKit
set_option maxRecDepth 1000000

theorem frozen_later {w w' : World} {p : Addr} (h : w.frozen? p = false) (hp : p.block < w.heap.size) (hb : Below w.heap.size w w') : w'.frozen? p = false := (hb.frozen (p := p) hp).trans h
theorem two_cells {W : World} {b : Nat} {a0 a1 x y : Value} (h0 : W.cell? ⟨b, 0, none⟩ = some a0) (h1 : W.cell? ⟨b, 1, none⟩ = some a1) :
    ((W.setCell ⟨b, 0, none⟩ x).setCell ⟨b, 1, none⟩ y).cell? ⟨b, 0, none⟩ = some x ∧ ((W.setCell ⟨b, 0, none⟩ x).setCell ⟨b, 1, none⟩ y).cell? ⟨b, 1, none⟩ = some y := by
  constructor
  · rw [World.cell?_setCell_other _ _ _ _ (fun e => by injection e; omega)]
    exact World.cell?_setCell_same' _ _ _ (by rw [h0]; rfl)
  · refine World.cell?_setCell_same' _ _ _ ?_
    rw [World.cell?_setCell_other _ _ _ _ (fun e => by injection e; omega), h1]; rfl
theorem rd_left {w : World} {k : IntKind} {A : Option Addr} {xs ys : List Int} (h : RdI w k A (xs ++ ys)) : RdI w k A xs := by
  have := h.take xs.length
  rwa [List.take_left] at this
/-- a box of two cells. -/
def Bx (n : Nat) (a0 a1 : Value) (W : World) : Prop := W.cell? ⟨n, 0, none⟩ = some a0 ∧ W.cell? ⟨n, 1, none⟩ = some a1 ∧ W.frozen? ⟨n, 0, none⟩ = false ∧ W.frozen? ⟨n, 1, none⟩ = false ∧ n < W.heap.size
theorem Bx.later {n : Nat} {a0 a1 : Value} {W W' : World} (h : Bx n a0 a1 W) (hb : Below W.heap.size W W') : Bx n a0 a1 W' := by
  obtain ⟨h1, h2, h3, h4, h5⟩ := h
  exact ⟨cell_later hb h1, cell_later hb h2, frozen_later h3 h5 hb, frozen_later h4 h5 hb, Nat.lt_of_lt_of_le h5 hb.size⟩
theorem Bx.set {n : Nat} {a0 a1 : Value} {W : World} (h : Bx n a0 a1 W) (x y : Value) : Bx n x y ((W.setCell ⟨n, 0, none⟩ x).setCell ⟨n, 1, none⟩ y) := by
  obtain ⟨h1, h2, h3, h4, h5⟩ := h
  obtain ⟨t1, t2⟩ := two_cells (x := x) (y := y) h1 h2
  refine ⟨t1, t2, ?_, ?_, by simpa using h5⟩
  all_goals (rw [World.frozen?_setCell, World.frozen?_setCell]; assumption)
theorem Bx.off {n m : Nat} {a0 a1 : Value} {W : World} (h : Bx n a0 a1 W) (hne : m ≠ n) (x y : Value) : Bx n a0 a1 ((W.setCell ⟨m, 0, none⟩ x).setCell ⟨m, 1, none⟩ y) := by
  obtain ⟨h1, h2, h3, h4, h5⟩ := h
  refine ⟨cell_off (cell_off h1 hne) hne, cell_off (cell_off h2 hne) hne, ?_, ?_, by simpa using h5⟩
  all_goals (rw [World.frozen?_setCell, World.frozen?_setCell]; assumption)
theorem Bx.but {n k : Nat} {a0 a1 : Value} {A : Option Addr} {W W' : World} (h : Bx n a0 a1 W) (hb : But A k W W') (hne : 0 < k → ∀ ad, A = some ad → ad.block ≠ n) (hs : W.heap.size ≤ W'.heap.size) : Bx n a0 a1 W' := by
  obtain ⟨h1, h2, h3, h4, h5⟩ := h
  have e0 := hb n hne h5 0
  have e1 := hb n hne h5 1
  exact ⟨e0.1.trans h1, e1.1.trans h2, e0.2.trans h3, e1.2.trans h4, Nat.lt_of_lt_of_le h5 hs⟩
theorem bx_new (v : World) (a0 a1 : Value) (u : World) (h : v.alloc (.cells #[a0, a1] 24) = u) : Below v.heap.size v u ∧ Bx v.heap.size a0 a1 u := by
  subst h
  refine ⟨(Below.refl _ _).alloc (Nat.le_refl _) _, by simp [go_sem], by simp [go_sem], by simp [go_sem], by simp [go_sem], by simp⟩
end Go.Proofs.YtegdbcnloodljaaDoor
