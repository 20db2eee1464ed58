/- The lexer's name and number. -/
import Derived.Test.YtgheejogpbhokaaDoorLx3
namespace Go.Proofs.YtgheejogpbhokaaDoor
set_option linter.unusedVariables false
set_option linter.unusedSimpArgs false
open Go.RowKit
set_option maxRecDepth 1000000

theorem LxS.later {w w' : World} {base X : Nat} {s : ByteArray} {p o : Nat} {st : List Nat} {toks : List Tk} (h : LxS w base X s p o st toks) (hb : Below w.heap.size w w') : LxS w' base X s p o st toks := by
  obtain ⟨LA, LC, BA, BC, h⟩ := h
  exact ⟨LA, LC, BA, BC, h.later hb⟩
theorem LxS.setPos {w : World} {base X : Nat} {s : ByteArray} {p o : Nat} {st : List Nat} {toks : List Tk} (h : LxS w base X s p o st toks) (q : Nat) (z : Int) (hz : z = (q : Int)) : LxS (w.setCell ⟨X, 1, none⟩ (.int .i64 z)) base X s q o st toks := by
  obtain ⟨LA, LC, BA, BC, h⟩ := h
  subst hz
  exact ⟨LA, LC, BA, BC, h.setPos q⟩
theorem LxS.setOpn {w : World} {base X : Nat} {s : ByteArray} {p o : Nat} {st : List Nat} {toks : List Tk} (h : LxS w base X s p o st toks) (q : Nat) (z : Int) (hz : z = (q : Int)) : LxS (w.setCell ⟨X, 3, none⟩ (.int .i64 z)) base X s p q st toks := by
  obtain ⟨LA, LC, BA, BC, h⟩ := h
  subst hz
  exact ⟨LA, LC, BA, BC, h.setOpn q⟩
/-- what a lexer's cells read, ahead of a walk. -/
theorem LxS.cells {w : World} {base X : Nat} {s : ByteArray} {p o : Nat} {st : List Nat} {toks : List Tk} (h : LxS w base X s p o st toks) :
    w.cell? ⟨X, 0, none⟩ = some (.string s) ∧ w.cell? ⟨X, 1, none⟩ = some (.int .i64 p) ∧ w.cell? ⟨X, 3, none⟩ = some (.int .i64 o) ∧ w.frozen? ⟨X, 1, none⟩ = false ∧ w.frozen? ⟨X, 3, none⟩ = false ∧ X < w.heap.size ∧ base ≤ X := by
  obtain ⟨LA, LC, BA, BC, h⟩ := h
  exact ⟨h.c0, h.c1, h.c3, h.f1, h.f3, h.lt, h.bX⟩
/-- what comes of a token. -/
def TokR (w : World) (base X : Nat) (s : ByteArray) (p : Nat) (st : List Nat) (toks : List Tk) (r : T1) (e : Ending) (w' : World) : Prop :=
  match r with
  | .tok k x n o' => e = .returned (.tuple #[]) ∧ LxS w' base X s (p + n) o' st (toks ++ [⟨k, x, p⟩]) ∧ Below base w w'
  | .bad c => e = .panicked [{ v := stopV c p, recovered := false }] ∧ Below base w w'

section
variable {w : World} {base X : Nat} {s : ByteArray} {p o : Nat} {st : List Nat} {toks : List Tk}
theorem wdS_fits (s : ByteArray) (p : Nat) (hp : p ≤ s.size) : p + (wdS s p).size ≤ s.size := by
  rw [wdS_size]
  have := wd_le (s.data.toList.drop p)
  rw [List.length_drop] at this
  simp at this
  omega
set_option maxHeartbeats 1000000 in
theorem lxName_ok (hL : LxS w base X s p o st toks) (hz : base ≤ w.heap.size) (hs : s.size ≤ 1099511627776) (hp : p ≤ s.size) (hn : toks.length ≤ 1000000) :
    Calls Tryd.prog 41 #[.pointer (some ⟨X, 0, none⟩)] w (TokR w base X s p st toks (.tok (if wordB (wd (s.data.toList.drop p)) then 2 else 1) (wd (s.data.toList.drop p)) (wd (s.data.toList.drop p)).length o)) := by
  have hr := lxRun_ok hL hs hp
  have hTl := wdS_list s p
  have hTs := wdS_size s p
  have hsz := wdS_fits s p hp
  have hW := fun W => lxWord_ok (wdS s p) W
  have hP := fun (k : Int) (W : World) (h : LxS W base X s p o st toks) (h2 : base ≤ W.heap.size) => lxPut_ok k (wdS s p) p h h2 (by omega) hn
  rw [hTl] at hW hP
  rw [← hTs]
  generalize wdS s p = T at *
  generalize wd (s.data.toList.drop p) = x at *
  clear hTl hTs
  unfold TokR
  dsimp only
  cases hw : wordB x
  all_goals
    rw [hw] at hW
    first | rw [if_pos rfl] | rw [if_neg (by decide)]
    clear hw
    obtain ⟨q0, q1, q3, f1, f3, hX, hbX⟩ := hL.cells
    go_enter Tryd.func41, Tryd.ntmps41
    go_wp2_with fail
    go_at_call 50
    refine hr.mono ?_
    rintro e w1 ⟨rfl, hb1⟩
    clear q0 q1 q3 f1 f3
    replace hL := hL.later hb1
    have hz1 := Nat.le_trans hz hb1.size
    replace hb1 := hb1.mono hz
    obtain ⟨q0, q1, q3, f1, f3, hX, hbX⟩ := hL.cells
    go_wp2_with fail
    go_at_call 14
    refine (hW _).mono ?_
    rintro e w' ⟨rfl, rfl⟩
    go_wp2_with fail
    go_at_call 28
    refine (hP _ _ hL hz1).mono ?_
    rintro e w2 ⟨rfl, hL2, hb2⟩
    clear q0 q1 q3 f1 f3
    obtain ⟨q0, q1, q3, f1, f3, hX, hbX⟩ := hL2.cells
    go_wp2
    go_end0
    exact ⟨rfl, hL2.setPos _ _ (by omega), Below.setCell (p := ⟨X, 1, none⟩) (hb1.trans hb2) hbX _⟩
end
end Go.Proofs.YtgheejogpbhokaaDoor
