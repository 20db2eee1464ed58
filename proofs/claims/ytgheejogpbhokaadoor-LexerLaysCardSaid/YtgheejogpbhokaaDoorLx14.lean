/- The lexer goes through its source: from the labels end and over. -/
import Derived.Test.YtgheejogpbhokaaDoorLx13
namespace Go.Proofs.YtgheejogpbhokaaDoor
set_option linter.unusedVariables false
set_option linter.unusedSimpArgs false
open Go.RowKit
set_option maxRecDepth 1000000

/-- the scope of lexer.all. -/
def AllScope (c : Code) : Prop := Tryd.f18.body = some (.scope c)
/-- what a way out is to show. -/
structure Outs (w0 : World) (base X : Nat) (s : ByteArray) (R : LR) (Q : Exit → Act → World → Prop) : Prop where
  n : ∀ a w, a.defers = [] → AllR w0 base X s R (.returned (.tuple #[])) w → Q .normal a w
  p : ∀ ch a w, a.defers = [] → AllR w0 base X s R (.panicked ch) w → Q (.panic ch) a w
theorem fallL {P : Program} {c X : Code} {l : Nat} {Q : Exit → Act → World → Prop} {a : Act} {w : World} (h : ∃ rest, findLabel c l = some (.seq .skip rest) ∧ rest.wp P Q a w) (hX : findLabel c l = some (.seq .skip X)) : X.wp P Q a w := by
  obtain ⟨rest, hf, hw⟩ := h
  rw [hX] at hf
  injection hf with e
  injection e with _ e
  rw [e]
  exact hw
section
variable {w0 : World} {base X : Nat} {s : ByteArray} {R : LR} {Q : Exit → Act → World → Prop}

set_option maxHeartbeats 4000000 in
theorem all_3 (hs : s.size ≤ 65536) (hT : ∀ W, Below base w0 W → Lib.Utf8Tabs 1 2 W) (hQ : Outs w0 base X s R Q) (c : Code) (hc : AllScope c) (N : Nat) (a : Act) (w : World) (hJ : JL w0 base X s R 3 a w) (hN : muL s X 3 a w ≤ N) :
    ∃ rest, findLabel c 3 = some (.seq .skip rest) ∧ rest.wp Tryd.prog (jumps (fun l' a' w' => JL w0 base X s R l' a' w' ∧ muL s X l' a' w' < N) Q) a w := by
  have hc0 := hc
  unfold AllScope at hc
  rw [show Tryd.f18.body = some _ from rfl] at hc
  injection hc with hc
  injection hc with hc
  subst hc
  refine ⟨_, rfl, ?_⟩
  obtain ⟨h1, h2, h3, hA⟩ := hJ
  obtain ⟨t, ds⟩ := a
  dsimp only at h1 h2 h3
  subst h3
  obtain ⟨f, rfl⟩ := frame_out t X h1 h2
  clear h1 h2
  obtain ⟨p, o, st, toks, ⟨hL, hB, hz, hO⟩, hR⟩ := hA
  have hcn := hO.hc
  have hd := hO.hd
  have hp := hO.hp
  have hne : st ≠ [] := by intro e; have := hO.hb; rw [e] at this; simp at this
  have hE := lxEnd_ok hL hz (by omega) (by omega) hne
  clear hcn hd hp hne hO
  go_wp2_with fail
  go_at_call 29
  refine hE.mono ?_
  rintro e w1 ⟨rfl, hL1, hb1⟩
  have hall : AllR w0 base X s R (.returned (.tuple #[])) w1 := by rw [hR]; exact ⟨rfl, ⟨_, _, _, hL1⟩, hB.trans hb1⟩
  go_wp2
  exact hQ.n _ _ rfl hall

set_option maxHeartbeats 4000000 in
theorem all_1 (hs : s.size ≤ 65536) (hT : ∀ W, Below base w0 W → Lib.Utf8Tabs 1 2 W) (hQ : Outs w0 base X s R Q) (c : Code) (hc : AllScope c) (N : Nat) (a : Act) (w : World) (hJ : JL w0 base X s R 1 a w) (hN : muL s X 1 a w ≤ N) :
    ∃ rest, findLabel c 1 = some (.seq .skip rest) ∧ rest.wp Tryd.prog (jumps (fun l' a' w' => JL w0 base X s R l' a' w' ∧ muL s X l' a' w' < N) Q) a w := by
  have hc0 := hc
  unfold AllScope at hc
  rw [show Tryd.f18.body = some _ from rfl] at hc
  injection hc with hc
  injection hc with hc
  subst hc
  refine ⟨_, rfl, ?_⟩
  obtain ⟨h1, h2, h3, hA⟩ := hJ
  obtain ⟨t, ds⟩ := a
  dsimp only at h1 h2 h3
  subst h3
  obtain ⟨f, rfl⟩ := frame_out t X h1 h2
  clear h1 h2
  obtain ⟨p, b, st, toks, ⟨hL, hB, hz, hO⟩, hR, h10⟩ := hA
  have hp := hO.hp
  obtain ⟨q0, q1, q3, f1, f3, hX, hbX⟩ := hL.cells
  rw [mu_eq (k := 1) q1 rfl] at hN
  by_cases hlt : p < s.size
  · have i1 : (p : Int) < (s.size : Int) := by omega
    have hR2 := step_nl (b := b) (o := 0) (h := true) (st := st) (toks := toks) hlt (h10 hlt)
    rw [hR] at hR2
    simp only [Bool.true_or, Bool.true_eq_false, and_false, if_false] at hR2
    have hR3 := Lib.hid hR2
    clear hR hR2 h10
    go_wp2_with fail
    go_quiet (fail)
    obtain ⟨v1, hv, hbv⟩ : ∃ v, v = w.drewN nq ∧ Below w.heap.size w v := ⟨_, rfl, below_draws _ _⟩
    rw [← hv]
    clear hv q0 q1 q3 f1 f3
    replace hL := hL.later hbv
    replace hB := hB.trans (hbv.mono hz)
    replace hz := Nat.le_trans hz hbv.size
    obtain ⟨q0, q1, q3, f1, f3, hX, hbX⟩ := hL.cells
    go_wp2
    go_step3
    have hL2 := hL.setPos (p + 1) ((p : Int) + 1) (by omega)
    refine ⟨⟨rfl, rfl, rfl, p + 1, st, toks, ⟨hL2, Below.setCell (p := ⟨X, 1, none⟩) hB hbX _, by rw [World.size_setCell]; exact hz, ⟨by omega, hO.ho, hO.hb, by have := hO.hc; omega, hO.hd⟩⟩, hR3.out.symm⟩, ?_⟩
    rw [mu_eq (k := 3) hL2.cells.2.1 rfl]
    omega
  · have hps : p = s.size := by omega
    subst hps
    have hR2 := step_end (s := s.data.toList) (S := ⟨s.size, b, true, 0, st, toks⟩) (by simp)
    rw [hR] at hR2
    have hlen : s.data.toList.length = s.size := by simp
    rw [hlen] at hR2
    have hR3 := Lib.hid hR2
    have i1 : decide ((s.size : Int) < (s.size : Int)) = false := by simp
    clear hR hR2 h10 hlt hlen
    go_wp2_with fail
    go_quiet (fail)
    obtain ⟨v1, hv, hbv⟩ : ∃ v, v = w.drewN nq ∧ Below w.heap.size w v := ⟨_, rfl, below_draws _ _⟩
    rw [← hv]
    clear hv q0 q1 q3 f1 f3
    replace hL := hL.later hbv
    replace hB := hB.trans (hbv.mono hz)
    replace hz := Nat.le_trans hz hbv.size
    obtain ⟨q0, q1, q3, f1, f3, hX, hbX⟩ := hL.cells
    go_wp2
    go_step3
    go_step
    go_step
    refine fallL (all_3 hs hT hQ _ hc0 N _ v1 ?_ ?_) rfl
    · exact ⟨rfl, rfl, rfl, s.size, 0, st, toks, ⟨hL, hB, hz, hO⟩, hR3.out⟩
    · rw [mu_eq (k := 0) q1 rfl]; omega
end
end Go.Proofs.YtgheejogpbhokaaDoor
