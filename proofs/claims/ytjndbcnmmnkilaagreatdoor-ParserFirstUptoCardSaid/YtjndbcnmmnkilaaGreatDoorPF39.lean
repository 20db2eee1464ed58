/- Joined by a program: Lx14, Lx15, Lx16, Lx17, Lx18, Bs. -/
import Derived.Test.YtjndbcnmmnkilaaGreatDoorPF38
namespace Go.Proofs.YtjndbcnmmnkilaaGreatDoor
set_option linter.unusedVariables false
set_option linter.unusedSimpArgs false
set_option maxRecDepth 1000000
set_option maxHeartbeats 16000000
section
open Go.RowKit
open List (length_append length_cons length_nil length_singleton)
def AllScope (c : Code) : Prop := Tryz.f50.body = some (.scope c)
structure Outs (w0 : World) (base X : Nat) (s : ByteArray) (R : LR) (Q : Exit → Act → World → Prop) : Prop where
 n : ∀ a w, a.defers = [] → AllR w0 base X s R (.returned (.tuple #[])) w → Q .normal a w
 p : ∀ ch a w, a.defers = [] → AllR w0 base X s R (.panicked ch) w → Q (.panic ch) a w
theorem fallL {P : Program} {c X : Code} {l : Nat} {Q : Exit → Act → World → Prop} {a : Act} {w : World} (h : ∃ rest, findLabel c l = some (.seq .skip rest) ∧ rest.wp P Q a w) (hX : findLabel c l = some (.seq .skip X)) : X.wp P Q a w := by
 obtain ⟨rest, hf, hw⟩ := h
 rw [hX] at hf
 injection hf with e
 injection e with _ e
 rw [e]
 exact hw
section
variable {w0 : World} {base X : Nat} {s : ByteArray} {R : LR} {Q : Exit → Act → World → Prop}
theorem all_3 (hs : s.size ≤ 65536) (hT : ∀ W, Below base w0 W → Lib.Utf8Tabs 0 1 W) (hQ : Outs w0 base X s R Q) (c : Code) (hc : AllScope c) (N : Nat) (a : Act) (w : World) (hJ : JL w0 base X s R 3 a w) (hN : muL s X 3 a w ≤ N) :
  ∃ rest, findLabel c 3 = some (.seq .skip rest) ∧ rest.wp Tryz.prog (jumps (fun l' a' w' => JL w0 base X s R l' a' w' ∧ muL s X l' a' w' < N) Q) a w := by
 have hc0 := hc
 unfold AllScope at hc
 rw [show Tryz.f50.body = some _ from rfl] at hc
 injection hc with hc
 injection hc with hc
 subst hc
 refine ⟨_, rfl, ?_⟩
 obtain ⟨h1, h2, h3, hA⟩ := hJ
 obtain ⟨t, ds⟩ := a
 dsimp only at h1 h2 h3
 subst h3
 obtain ⟨f, rfl⟩ := frame_out t X h1 h2
 clear h1 h2
 obtain ⟨p, o, st, toks, ⟨hL, hB, hz, hO⟩, hR⟩ := hA
 have hcn := hO.hc
 have hd := hO.hd
 have hp := hO.hp
 have hne : st ≠ [] := by intro e; have := hO.hb; rw [e] at this; simp at this
 have hE := lxEnd_ok hL hz lq17 lq17 hne
 clear hcn hd hp hne hO
 go_wp2_with fail
 go_at_call 90
 refine hE.mono ?_
 rintro e w1 ⟨rfl, hL1, hb1⟩
 have hall : AllR w0 base X s R (.returned (.tuple #[])) w1 := by rw [hR]; exact ⟨rfl, ⟨_, _, _, hL1⟩, hB.trans hb1⟩
 go_wp2
 exact hQ.n _ _ rfl hall
theorem all_1 (hs : s.size ≤ 65536) (hT : ∀ W, Below base w0 W → Lib.Utf8Tabs 0 1 W) (hQ : Outs w0 base X s R Q) (c : Code) (hc : AllScope c) (N : Nat) (a : Act) (w : World) (hJ : JL w0 base X s R 1 a w) (hN : muL s X 1 a w ≤ N) :
  ∃ rest, findLabel c 1 = some (.seq .skip rest) ∧ rest.wp Tryz.prog (jumps (fun l' a' w' => JL w0 base X s R l' a' w' ∧ muL s X l' a' w' < N) Q) a w := by
 have hc0 := hc
 unfold AllScope at hc
 rw [show Tryz.f50.body = some _ from rfl] at hc
 injection hc with hc
 injection hc with hc
 subst hc
 refine ⟨_, rfl, ?_⟩
 obtain ⟨h1, h2, h3, hA⟩ := hJ
 obtain ⟨t, ds⟩ := a
 dsimp only at h1 h2 h3
 subst h3
 obtain ⟨f, rfl⟩ := frame_out t X h1 h2
 clear h1 h2
 obtain ⟨p, b, st, toks, ⟨hL, hB, hz, hO⟩, hR, h10⟩ := hA
 have hp := hO.hp
 obtain ⟨q0, q1, q3, f1, f3, hX, hbX⟩ := hL.cells
 rw [mu_eq (k := 1) q1 rfl] at hN
 by_cases hlt : p < s.size
 ·have i1 : (p : Int) < (s.size : Int) := by omega
  have hR2 := step_nl (b := b) (o := 0) (h := true) (st := st) (toks := toks) hlt (h10 hlt); rw [hR] at hR2; simp only [Bool.true_or, Bool.true_eq_false, and_false, if_false] at hR2; have hR3 := Lh hR2; clear hR hR2 h10; go_wp2_with fail
  go_quiet (fail)
  obtain ⟨v1, hv, hbv⟩ : ∃ v, v = w.drewN nq ∧ Below w.heap.size w v := ⟨_, rfl, below_draws _ _⟩; rw [← hv]; clear hv q0 q1 q3 f1 f3
  replace hL := hL.later hbv
  replace hB := hB.trans (hbv.mono hz)
  replace hz := Nat.le_trans hz hbv.size
  obtain ⟨q0, q1, q3, f1, f3, hX, hbX⟩ := hL.cells; go_wp2
  go_step3
  have hL2 := hL.setPos (p + 1) ((p : Int) + 1) lq17
  refine ⟨⟨rfl, rfl, rfl, p + 1, st, toks, ⟨hL2, Below.setCell (p := ⟨X, 1, none⟩) hB hbX _, by rw [World.size_setCell]; exact hz, ⟨by omega, hO.ho, hO.hb, by have := hO.hc; omega, hO.hd⟩⟩, hR3.out.symm⟩, ?_⟩
  rw [mu_eq (k := 3) hL2.cells.2.1 rfl]
  omega
 ·have hps : p = s.size := by omega
  subst hps; have hR2 := step_end (s := s.data.toList) (S := ⟨s.size, b, true, 0, st, toks⟩) lq18; rw [hR] at hR2; have hlen : s.data.toList.length = s.size := by simp
  rw [hlen] at hR2; have hR3 := Lh hR2; have i1 : decide ((s.size : Int) < (s.size : Int)) = false := by simp
  clear hR hR2 h10 hlt hlen; go_wp2_with fail
  go_quiet (fail)
  obtain ⟨v1, hv, hbv⟩ : ∃ v, v = w.drewN nq ∧ Below w.heap.size w v := ⟨_, rfl, below_draws _ _⟩; rw [← hv]; clear hv q0 q1 q3 f1 f3
  replace hL := hL.later hbv
  replace hB := hB.trans (hbv.mono hz)
  replace hz := Nat.le_trans hz hbv.size
  obtain ⟨q0, q1, q3, f1, f3, hX, hbX⟩ := hL.cells; go_wp2
  go_step3
  go_step
  go_step
  refine fallL (all_3 hs hT hQ _ hc0 N _ v1 ?_ ?_) rfl
  ·exact ⟨rfl, rfl, rfl, s.size, 0, st, toks, ⟨hL, hB, hz, hO⟩, hR3.out⟩
  ·rw [mu_eq (k := 0) q1 rfl]; omega
end
theorem tok_lex {s : ByteArray} {q b o : Nat} {st : List Nat} {toks : List Tk} (hq : q < s.size) (h10 : s[q] ≠ 10) (h32 : s[q] ≠ 32) (h35 : s[q] ≠ 35) {k : Int} {x : List UInt8} {n o' : Nat} (ht : tokL o (s.data.toList.drop q) = .tok k x n o') :
  lexR s.data.toList ⟨q, b, false, o, st, toks⟩ = lexR s.data.toList ⟨q + n, b, false, o', st, toks ++ [⟨k, x, q⟩]⟩ := by
 refine lexR_step ?_
 unfold stepL
 dsimp only
 rw [drop_cons s q hq] at ht ⊢
 dsimp only
 rw [if_neg h35, if_neg h32, if_neg h10, if_neg lq16, ht]
theorem bad_lex {s : ByteArray} {q b o : Nat} {st : List Nat} {toks : List Tk} (hq : q < s.size) (h10 : s[q] ≠ 10) (h32 : s[q] ≠ 32) (h35 : s[q] ≠ 35) {c : Int} (ht : tokL o (s.data.toList.drop q) = .bad c) :
  lexR s.data.toList ⟨q, b, false, o, st, toks⟩ = .bad c q := by
 refine lexR_end ?_
 unfold stepL
 dsimp only
 rw [drop_cons s q hq] at ht ⊢
 dsimp only
 rw [if_neg h35, if_neg h32, if_neg h10, if_neg lq16, ht]
section
variable {w0 : World} {base X : Nat} {s : ByteArray} {R : LR} {Q : Exit → Act → World → Prop}
theorem all_2 (hs : s.size ≤ 65536) (hT : ∀ W, Below base w0 W → Lib.Utf8Tabs 0 1 W) (hQ : Outs w0 base X s R Q) (c : Code) (hc : AllScope c) (N : Nat) (a : Act) (w : World) (hJ : JL w0 base X s R 2 a w) (hN : muL s X 2 a w ≤ N) :
  ∃ rest, findLabel c 2 = some (.seq .skip rest) ∧ rest.wp Tryz.prog (jumps (fun l' a' w' => JL w0 base X s R l' a' w' ∧ muL s X l' a' w' < N) Q) a w := by
 have hc0 := hc
 unfold AllScope at hc
 rw [show Tryz.f50.body = some _ from rfl] at hc
 injection hc with hc
 injection hc with hc
 subst hc
 refine ⟨_, rfl, ?_⟩
 obtain ⟨h1, h2, h3, hA⟩ := hJ
 obtain ⟨t, ds⟩ := a
 dsimp only at h1 h2 h3
 subst h3
 obtain ⟨f, rfl⟩ := frame_out t X h1 h2
 clear h1 h2
 obtain ⟨p, o, b, st, toks, ⟨hL, hB, hz, hO⟩, hR⟩ := hA
 have hp := hO.hp
 have hcn := hO.hc
 have hdn := hO.hd
 obtain ⟨q0, q1, q3, f1, f3, hX, hbX⟩ := hL.cells
 rw [mu_eq (k := 2) q1 rfl] at hN
 obtain ⟨g1, hq, ⟨b', g3⟩, g4⟩ := past_lex s p b false o st toks hp
 rw [g3] at hR
 have hPa := lxPast_ok hL hz lq17 hp
 generalize pastP s p = q at *
 clear q0 q1 q3 f1 f3 g3 hL
 go_wp2_with fail
 go_at_call 85
 refine hPa.mono ?_
 rintro e w1 ⟨rfl, hL, hb1⟩
 replace hB := hB.trans hb1
 replace hz := Nat.le_trans hz hb1.size
 clear hPa hb1
 by_cases hlt : q < s.size
 ·by_cases h10 : s[q] = 10
  ·have hE : true = (match s.data.toList.drop q with | [] => true | c :: _ => c == 10) := by rw [drop_cons s q hlt, h10]; rfl
   have i3 : ((q : Int) == (s.size : Int)) = false := by simp; omega
   have hnl := step_nl (b := b') (o := o) (h := false) (st := st) (toks := toks) hlt h10; have hnl2 := step_nl (b := b') (o := o) (h := true) (st := st) (toks := toks ++ [⟨6, [], q⟩]) hlt h10; rw [hR] at hnl; clear hR g4
   by_cases h0 : o = 0
   ·subst h0; simp only [Bool.false_or, Bool.true_or, decide_true, and_self, if_true, Bool.true_eq_false, and_false, if_false] at hnl hnl2; have hR3 := Lh (hnl2.trans hnl.symm); clear hnl hnl2; go_wp2_with fail
    go_at_call 86
    refine (lxEnds_ok hL lq17 hq true hE).mono ?_
    rintro e w2 ⟨rfl, hb2⟩
    replace hL := hL.later hb2
    replace hB := hB.trans (hb2.mono hz)
    replace hz := Nat.le_trans hz hb2.size
    clear hb2; clear hE; obtain ⟨q0, q1, q3, f1, f3, hX, hbX⟩ := hL.cells; go_wp2_with fail
    go_quiet (fail)
    obtain ⟨v1, hv, hbv⟩ : ∃ v, v = w2.drewN nq ∧ Below w2.heap.size w2 v := ⟨_, rfl, below_draws _ _⟩; rw [← hv]; clear hv q0 q1 q3 f1 f3
    replace hL := hL.later hbv
    replace hB := hB.trans (hbv.mono hz)
    replace hz := Nat.le_trans hz hbv.size
    obtain ⟨q0, q1, q3, f1, f3, hX, hbX⟩ := hL.cells; have hput := lxPut_ok 6 ⟨#[]⟩ q hL hz lq16 lq17; go_wp2_with fail
    go_at_call 89
    refine hput.mono ?_
    rintro e w3 ⟨rfl, hL3, hb3⟩; go_wp2
    go_step3
    go_step
    go_step
    refine fallL (all_1 hs hT hQ _ hc0 N _ w3 ?_ ?_) rfl
    ·exact ⟨rfl, rfl, rfl, q, b', st, _, ⟨hL3, hB.trans hb3, Nat.le_trans hz hb3.size, ⟨hq, hO.ho, hO.hb, by rw [length_append]; simp; omega, hO.hd⟩⟩, hR3.out, fun _ => h10⟩
    ·rw [mu_eq (k := 1) hL3.cells.2.1 rfl]; omega
   ·have e0 : decide (o = 0) = false := dFa h0; simp only [h0, e0, Bool.false_or, Bool.true_or, false_and, if_false] at hnl; have hR3 := Lh hnl.symm; have i4 : (0 : Int) < (o : Int) := by omega
    clear hnl hnl2 e0; go_wp2_with fail
    go_at_call 86
    refine (lxEnds_ok hL lq17 hq true hE).mono ?_
    rintro e w2 ⟨rfl, hb2⟩
    replace hL := hL.later hb2
    replace hB := hB.trans (hb2.mono hz)
    replace hz := Nat.le_trans hz hb2.size
    clear hb2; clear hE; obtain ⟨q0, q1, q3, f1, f3, hX, hbX⟩ := hL.cells; go_wp2_with fail
    go_quiet (fail)
    obtain ⟨v1, hv, hbv⟩ : ∃ v, v = w2.drewN nq ∧ Below w2.heap.size w2 v := ⟨_, rfl, below_draws _ _⟩; rw [← hv]; clear hv q0 q1 q3 f1 f3
    replace hL := hL.later hbv
    replace hB := hB.trans (hbv.mono hz)
    replace hz := Nat.le_trans hz hbv.size
    obtain ⟨q0, q1, q3, f1, f3, hX, hbX⟩ := hL.cells; go_wp2
    go_step3
    have hL2 := hL.setPos (q + 1) ((q : Int) + 1) lq17
    refine ⟨⟨rfl, rfl, rfl, q + 1, o, 0, st, toks, ⟨hL2, Below.setCell (p := ⟨X, 1, none⟩) hB hbX _, by rw [World.size_setCell]; exact hz, ⟨by omega, hO.ho, hO.hb, by omega, hO.hd⟩⟩, hR3.out⟩, ?_⟩
    rw [mu_eq (k := 2) hL2.cells.2.1 rfl]
    omega
  ·obtain ⟨h32, h35⟩ := g4 hlt h10; have hTk : ∀ W, LxS W base X s q o st toks → base ≤ W.heap.size → Below base w0 W → Calls Tryz.prog 88 #[.pointer (some ⟨X, 0, none⟩)] W (TokR W base X s q st toks (tokL o (s.data.toList.drop q))) := fun W h1 h2 h3 => lxToken_ok h1 h2 lq17 hlt lq17 hO.ho (hT W h3)
   cases hr : tokL o (s.data.toList.drop q) with
   | tok k x n o' =>
    have hl := tokL_len hr; rw [List.length_drop] at hl; have hlen : s.data.toList.length = s.size := by simp
    rw [hlen] at hl; have hR3 := Lh ((tok_lex (b := b') (st := st) (toks := toks) hlt h10 h32 h35 hr).symm.trans hR); have ho' := tokL_opn hr hO.ho; rw [hr] at hTk; have hE : false = (match s.data.toList.drop q with | [] => true | c :: _ => c == 10) := by rw [drop_cons s q hlt]; simpa using h10
    clear hr hR hlen h10 h32 h35 g4; go_wp2_with fail
    go_at_call 86
    refine (lxEnds_ok hL lq17 hq false hE).mono ?_
    rintro e w2 ⟨rfl, hb2⟩
    replace hL := hL.later hb2
    replace hB := hB.trans (hb2.mono hz)
    replace hz := Nat.le_trans hz hb2.size
    clear hb2; clear hE; go_wp2_with fail
    go_at_call 88
    refine (hTk _ hL hz hB).mono ?_
    rintro e w3 ⟨rfl, hL3, hb3⟩; go_wp2
    go_step3
    refine ⟨⟨rfl, rfl, rfl, q + n, o', b', st, _, ⟨hL3, hB.trans hb3, Nat.le_trans hz hb3.size, ⟨by omega, ho', hO.hb, by rw [length_append]; simp; omega, hO.hd⟩⟩, hR3.out⟩, ?_⟩
    rw [mu_eq (k := 2) hL3.cells.2.1 rfl]
    omega
   | bad c =>
    have hR3 := Lh ((bad_lex (b := b') (st := st) (toks := toks) hlt h10 h32 h35 hr).symm.trans hR); rw [hr] at hTk; have hE : false = (match s.data.toList.drop q with | [] => true | c :: _ => c == 10) := by rw [drop_cons s q hlt]; simpa using h10
    clear hr hR h10 h32 h35 g4; go_wp2_with fail
    go_at_call 86
    refine (lxEnds_ok hL lq17 hq false hE).mono ?_
    rintro e w2 ⟨rfl, hb2⟩
    replace hL := hL.later hb2
    replace hB := hB.trans (hb2.mono hz)
    replace hz := Nat.le_trans hz hb2.size
    clear hb2; clear hE; go_wp2_with fail
    go_at_call 88
    refine (hTk _ hL hz hB).mono ?_
    rintro e w3 ⟨rfl, hb3⟩; exact hQ.p _ _ _ rfl (by rw [← hR3.out]; exact ⟨rfl, hB.trans hb3⟩)
 ·have hqs : q = s.size := by omega
  subst hqs; have hE : true = (match s.data.toList.drop s.size with | [] => true | c :: _ => c == 10) := by rw [List.drop_eq_nil_of_le lq18]
  have i3 : ((s.size : Int) == (s.size : Int)) = true := by simp
  have hR2 := step_end (s := s.data.toList) (S := ⟨s.size, b', false, o, st, toks⟩) lq18; rw [hR] at hR2; have hlen : s.data.toList.length = s.size := by simp
  rw [hlen] at hR2; have hR3 := Lh hR2; clear hR hR2 hlen g4 hlt; go_wp2_with fail
  go_at_call 86
  refine (lxEnds_ok hL lq17 hq true hE).mono ?_
  rintro e w2 ⟨rfl, hb2⟩
  replace hL := hL.later hb2
  replace hB := hB.trans (hb2.mono hz)
  replace hz := Nat.le_trans hz hb2.size
  clear hb2; clear hE; obtain ⟨q0, q1, q3, f1, f3, hX, hbX⟩ := hL.cells; go_wp2_with fail
  go_quiet (fail)
  obtain ⟨v1, hv, hbv⟩ : ∃ v, v = w2.drewN nq ∧ Below w2.heap.size w2 v := ⟨_, rfl, below_draws _ _⟩; rw [← hv]; clear hv q0 q1 q3 f1 f3
  replace hL := hL.later hbv
  replace hB := hB.trans (hbv.mono hz)
  replace hz := Nat.le_trans hz hbv.size
  obtain ⟨q0, q1, q3, f1, f3, hX, hbX⟩ := hL.cells; go_wp2
  go_step3
  refine ⟨⟨rfl, rfl, rfl, s.size, o, st, toks, ⟨hL, hB, hz, ⟨hq, hO.ho, hO.hb, by omega, hO.hd⟩⟩, hR3.out⟩, ?_⟩
  rw [mu_eq (k := 0) q1 rfl]
  omega
end
section
variable {w0 : World} {base X : Nat} {s : ByteArray} {R : LR} {Q : Exit → Act → World → Prop}
theorem all_0 (hs : s.size ≤ 65536) (hT : ∀ W, Below base w0 W → Lib.Utf8Tabs 0 1 W) (hQ : Outs w0 base X s R Q) (c : Code) (hc : AllScope c) (N : Nat) (a : Act) (w : World) (hJ : JL w0 base X s R 0 a w) (hN : muL s X 0 a w ≤ N) :
  ∃ rest, findLabel c 0 = some (.seq .skip rest) ∧ rest.wp Tryz.prog (jumps (fun l' a' w' => JL w0 base X s R l' a' w' ∧ muL s X l' a' w' < N) Q) a w := by
 have hc0 := hc
 unfold AllScope at hc
 rw [show Tryz.f50.body = some _ from rfl] at hc
 injection hc with hc
 injection hc with hc
 subst hc
 refine ⟨_, rfl, ?_⟩
 obtain ⟨h1, h2, h3, hA⟩ := hJ
 obtain ⟨t, ds⟩ := a
 dsimp only at h1 h2 h3
 subst h3
 obtain ⟨f, rfl⟩ := frame_out t X h1 h2
 clear h1 h2
 obtain ⟨p, st, toks, ⟨hL, hB, hz, hO⟩, hR⟩ := hA
 have hp := hO.hp
 have hcn := hO.hc
 have hdn := hO.hd
 obtain ⟨q0, q1, q3, f1, f3, hX, hbX⟩ := hL.cells
 rw [mu_eq (k := 3) q1 rfl] at hN
 go_wp2
 go_loopw [7] (fun v wr => ∃ k : Nat, p ≤ k ∧ k ≤ s.size ∧ LxS wr base X s k 0 st toks ∧ Below base w0 wr ∧ base ≤ wr.heap.size ∧ Hid (blL (s.data.toList.drop p) = k - p + blL (s.data.toList.drop k))) (fun v wr => atM s X wr)
 case atStart => exact ⟨p, Nat.le_refl _, hp, hL, hB, hz, Lh lq17⟩
 case round =>
  clear hL hB hz q0 q1 q3 f1 f3 hX hbX; obtain ⟨k, hk1, hk2, hL, hB, hz, hbl⟩ := hrel; obtain ⟨q0, q1, q3, f1, f3, hX, hbX⟩ := hL.cells; have hm := Lh (atM_eq (s := s) q1); have i2 : (0 : Int) ≤ (k : Int) := by omega
  by_cases hlt : k < s.size
  ·have i1 : (k : Int) < (s.size : Int) := by omega
   by_cases h32 : s[k] = 32
   ·have e32 := byte_eq (k := 32) rfl h32; have hst := Lh (blL_step s k hlt h32); clear h32; go_wp2_with fail
    go_quiet (fail)
    obtain ⟨v, hv, hbv⟩ : ∃ v, v = wr.drewN nq ∧ Below wr.heap.size wr v := ⟨_, rfl, below_draws _ _⟩; rw [← hv]; clear hv q0 q1 q3 f1 f3
    replace hL := hL.later hbv
    replace hB := hB.trans (hbv.mono hz)
    replace hz := Nat.le_trans hz hbv.size
    obtain ⟨q0, q1, q3, f1, f3, hX, hbX⟩ := hL.cells; go_wp2
    go_roundw
    case rel =>
     exact ⟨k + 1, by omega, by omega, hL.setPos (k + 1) _ lq17, Below.setCell (p := ⟨X, 1, none⟩) hB hbX _, by rw [World.size_setCell]; exact hz, Lh (by have a := hbl.out; have b := hst.out; omega)⟩
    case measure =>
     rw [hm.out, atM_eq (p := k + 1) (hL.setPos (k + 1) _ lq17).cells.2.1]
     omega
   ·have e32 : ((s[k].toNat : Int) == 32) = false := byte_ne (d := 32) (k := 32) rfl h32; have hst := blL_stop s k hlt h32; rw [hst] at hbl; clear h32 hst; have hn : blL (s.data.toList.drop p) = k - p := by have := hbl.out; omega
    have hb1 := bl_lex s true 0 st toks (k - p) p 0 hn lq17; rw [show p + (k - p) = k by omega, Nat.zero_add] at hb1; obtain ⟨g1, hq, g3, g4⟩ := past_lexE s k (k - p) true 0 st toks hk2; rw [hb1.2.2, Nat.add_zero] at g3; have hR2 := (g3.symm.trans hb1.2.1.symm).trans hR; have hsub : (k : Int) - (p : Int) = ((k - p : Nat) : Int) := by omega
    have hkp : k - p ≤ k := Nat.sub_le _ _; clear hn hb1 g3 hbl hm hR; go_wp2_with fail
    go_quiet (fail)
    obtain ⟨v1, hv, hbv⟩ : ∃ v, v = wr.drewN nq ∧ Below wr.heap.size wr v := ⟨_, rfl, below_draws _ _⟩; rw [← hv]; clear hv q0 q1 q3 f1 f3
    replace hL := hL.later hbv
    replace hB := hB.trans (hbv.mono hz)
    replace hz := Nat.le_trans hz hbv.size
    obtain ⟨q0, q1, q3, f1, f3, hX, hbX⟩ := hL.cells; have hPa := lxPast_ok hL hz lq17 hk2
    generalize pastP s k = q at *
    generalize k - p = n at *
    go_wp2_with fail
    go_at_call 85
    refine hPa.mono ?_
    rintro e w1 ⟨rfl, hL, hbp⟩
    replace hB := hB.trans hbp
    replace hz := Nat.le_trans hz hbp.size
    exact lv1
  ·have hks : k = s.size := by omega
   subst hks; rw [blL_end] at hbl; have i1 : decide ((s.size : Int) < (s.size : Int)) = false := by simp
   clear hlt; have hn : blL (s.data.toList.drop p) = s.size - p := by have := hbl.out; omega
   have hb1 := bl_lex s true 0 st toks (s.size - p) p 0 hn lq17; rw [show p + (s.size - p) = s.size by omega, Nat.zero_add] at hb1; obtain ⟨g1, hq, g3, g4⟩ := past_lexE s s.size (s.size - p) true 0 st toks hk2; rw [hb1.2.2, Nat.add_zero] at g3; have hR2 := (g3.symm.trans hb1.2.1.symm).trans hR; have hsub : (s.size : Int) - (p : Int) = ((s.size - p : Nat) : Int) := by omega
   have hkp : s.size - p ≤ s.size := Nat.sub_le _ _; clear hn hb1 g3 hbl hm hR; go_wp2_with fail
   go_quiet (fail)
   obtain ⟨v1, hv, hbv⟩ : ∃ v, v = wr.drewN nq ∧ Below wr.heap.size wr v := ⟨_, rfl, below_draws _ _⟩; rw [← hv]; clear hv q0 q1 q3 f1 f3
   replace hL := hL.later hbv
   replace hB := hB.trans (hbv.mono hz)
   replace hz := Nat.le_trans hz hbv.size
   obtain ⟨q0, q1, q3, f1, f3, hX, hbX⟩ := hL.cells; have hPa := lxPast_ok hL hz lq17 hk2
   generalize pastP s s.size = q at *
   generalize s.size - p = n at *
   go_wp2_with fail
   go_at_call 85
   refine hPa.mono ?_
   rintro e w1 ⟨rfl, hL, hbp⟩
   replace hB := hB.trans hbp
   replace hz := Nat.le_trans hz hbp.size
   exact lv1
end
theorem wp_weaken {P : Program} {c : Code} {Q Q' : Exit → Act → World → Prop} {a : Act} {w : World} (h : c.wp P Q a w) (hQ : ∀ e a w, Q e a w → Q' e a w) : c.wp P Q' a w := by
 intro b k cs
 obtain ⟨e, a', w', q, r⟩ := h b k cs
 exact ⟨e, a', w', hQ _ _ _ q, r⟩
theorem jumps_weaken {J J' : Nat → Act → World → Prop} {Q : Exit → Act → World → Prop} (h : ∀ l a w, J l a w → J' l a w) : ∀ e a w, jumps J Q e a w → jumps J' Q e a w := by
 intro e a w hj
 cases e <;> first | exact h _ _ _ hj | exact hj
theorem outs_body {w0 : World} {base X : Nat} {s : ByteArray} {R : LR} : Outs w0 base X s R (bodyPost Tryz.prog Tryz.f50 (AllR w0 base X s R)) :=
 ⟨fun a w hd h => bodyPost_end (results_none rfl _ _ _) hd h, fun ch a w hd h => ⟨hd, h⟩⟩
theorem rest_of {P : Program} {c : Code} {l : Nat} {Q : Exit → Act → World → Prop} {a : Act} {w : World} (h : ∃ rest, findLabel c l = some (.seq .skip rest) ∧ rest.wp P Q a w) : ∃ rest, findLabel c l = some rest ∧ rest.wp P Q a w := by
 obtain ⟨rest, hf, hw⟩ := h
 refine ⟨_, hf, ?_⟩
 apply wp_seq
 apply wp_skip
 exact hw
theorem lxAll_ok {w : World} {base X : Nat} {s : ByteArray} (hL : LxS w base X s 0 0 [0] []) (hz : base ≤ w.heap.size) (hs : s.size ≤ 65536) (hT : ∀ W, Below base w W → Lib.Utf8Tabs 0 1 W) :
  Calls Tryz.prog 50 #[.pointer (some ⟨X, 0, none⟩)] w (AllR w base X s (lexR s.data.toList lexS)) := by
 obtain ⟨R, hR⟩ : ∃ R, lexR s.data.toList lexS = R := ⟨_, rfl⟩
 rw [hR]
 have HR := Lh hR
 clear hR
 go_enter Tryz.func50, Tryz.ntmps50
 refine wp_scope_many (JL w base X s R) (muL s X) ?_ ?_
 ·go_wp2
  go_step3
  go_step
  go_step
  refine wp_weaken (fallL (all_0 hs hT outs_body _ rfl _ _ w ?_ (Nat.le_refl _)) rfl) (jumps_weaken fun l a w h => h.1)
  exact ⟨rfl, rfl, rfl, 0, [0], [], ⟨hL, Below.refl _ _, hz, ⟨Nat.zero_le _, by omega, rfl, by simp, by simp⟩⟩, HR.out⟩
 ·intro l a w' hJ
  match l, hJ with
  | 0, hJ => exact rest_of (all_0 hs hT outs_body _ rfl _ _ _ hJ (Nat.le_refl _))
  | 1, hJ => exact rest_of (all_1 hs hT outs_body _ rfl _ _ _ hJ (Nat.le_refl _))
  | 2, hJ => exact rest_of (all_2 hs hT outs_body _ rfl _ _ _ hJ (Nat.le_refl _))
  | 3, hJ => exact rest_of (all_3 hs hT outs_body _ rfl _ _ _ hJ (Nat.le_refl _))
  | l + 4, hJ => exact absurd hJ.2.2.2 (fun h => h)
theorem catch_idle (lp fp : Addr) (w : World) :
  CallsD Tryz.prog 49 #[.pointer (some lp), .pointer (some fp)] .returning w fun e u' w' => e = .returned (.tuple #[]) ∧ u' = .returning ∧ w' = w := by
 refine callsD_of_wpS Tryz.func49 rfl fun c₀ cs hu => ?_
 simp only [Tryz.ntmps49, List.size_toArray, length_cons, length_nil, Nat.reduceAdd, Nat.reduceSub, Array.replicate_succ, Array.replicate_zero, List.push_toArray, List.append_toArray, List.nil_append, List.cons_append]
 apply wpS_seq
 apply wpS_region
 simp [wpOpsS, go_sem, recoverD, hu, Exit.thenS]
 apply wpS_seq
 apply wpS_region
 simp [wpOpsS, go_sem, recoverD, hu, Exit.thenS]
 refine wpS_cond (t := false) (by simp [Act.eval]) ?_
 simp only [Bool.false_eq_true, if_false]
 refine wpS_of_wp (wp_skip ?_)
 cases c₀
 simp_all [bodyPostS, results, Tryz.results49]
theorem cell_blk {w : World} {X Y i j : Nat} {u v : Value} (h : w.cell? ⟨Y, j, none⟩ = some v) (hne : X ≠ Y) : (w.setCell ⟨X, i, none⟩ u).cell? ⟨Y, j, none⟩ = some v := by
 rw [World.cell?_setCell_other _ _ _ _ (fun e => hne (by injection e))]; exact h
theorem catch_stop (lb fb : Nat) (c : Int) (a : Nat) (older : List PanicEntry) (w : World) {v0 x0 x1 : Value} (h0 : w.cell? ⟨lb, 0, none⟩ = some v0) (h1 : w.cell? ⟨fb, 0, none⟩ = some x0) (h2 : w.cell? ⟨fb, 1, none⟩ = some x1) (f0 : w.frozen? ⟨lb, 0, none⟩ = false) (f1 : w.frozen? ⟨fb, 0, none⟩ = false) (f2 : w.frozen? ⟨fb, 1, none⟩ = false) (hne : lb ≠ fb) (hl : lb < w.heap.size) (hf : fb < w.heap.size) :
  CallsD Tryz.prog 49 #[.pointer (some ⟨lb, 0, none⟩), .pointer (some ⟨fb, 0, none⟩)] (.panicking ({ v := stopV c a, recovered := false } :: older)) w fun e u' w' => e = .returned (.tuple #[]) ∧ u' = .panicking ({ v := stopV c a, recovered := true } :: older) ∧
   w'.cell? ⟨lb, 0, none⟩ = some (.slice none 0 0) ∧ w'.cell? ⟨fb, 0, none⟩ = some (.int .i64 c) ∧ w'.cell? ⟨fb, 1, none⟩ = some (.int .i64 a) ∧ ∀ B, B ≤ lb → B ≤ fb → Below B w w' := by
 unfold stopV
 refine callsD_of_wpS Tryz.func49 rfl fun c₀ cs hu => ?_
 simp only [Tryz.ntmps49, List.size_toArray, length_cons, length_nil, Nat.reduceAdd, Nat.reduceSub, Array.replicate_succ, Array.replicate_zero, List.push_toArray, List.append_toArray, List.nil_append, List.cons_append]
 apply wpS_seq
 apply wpS_region
 simp [wpOpsS, go_sem, recoverD, hu, Exit.thenS]
 apply wpS_seq
 apply wpS_region
 simp [wpOpsS, go_sem, recoverD, hu, Exit.thenS]
 refine wpS_of_wp ?_
 have HU := Lh hu
 clear hu
 have hta : ∀ W : World, (Instr.typeAssert (Value.iface 80 (.agg #[.int .i64 c, .int .i64 a])) 20 80 true).run Tryz.prog W = .ok (.tuple #[.agg #[.int .i64 c, .int .i64 a], .bool true]) W := fun W => by rfl
 have n1 : fb ≠ w.heap.size := by omega
 have n2 : lb ≠ w.heap.size := by omega
 have n3 : fb ≠ lb := fun e => hne e.symm
 go_wp2_with fail
 go_region
 have k0 := cell_blk (i := 1) (u := .int .i64 a) (cell_blk (i := 0) (u := .int .i64 c) (cell_set_eq (u := .slice none 0 0) h0) (Ne.symm hne)) (Ne.symm hne)
 have k1 := cell_set_ne (u := .int .i64 a) (cell_set_eq (u := .int .i64 c) (cell_blk (i := 0) (u := .slice none 0 0) h1 hne)) (show 1 ≠ 0 by decide)
 have k2 := cell_set_eq (u := .int .i64 a) (cell_set_ne (i := 0) (u := .int .i64 c) (cell_blk (i := 0) (u := .slice none 0 0) h2 hne) (show 0 ≠ 1 by decide))
 have hz := fun B (b1 : B ≤ lb) (b2 : B ≤ fb) => (((Below.refl B w).setCell (p := ⟨lb, 0, none⟩) b1 (.slice none 0 0)).setCell (p := ⟨fb, 0, none⟩) b2 (.int .i64 c)).setCell (p := ⟨fb, 1, none⟩) b2 (.int .i64 a)
 have hs : (((w.setCell ⟨lb, 0, none⟩ (.slice none 0 0)).setCell ⟨fb, 0, none⟩ (.int .i64 c)).setCell ⟨fb, 1, none⟩ (.int .i64 a)).heap.size = w.heap.size := by simp
 generalize (((w.setCell ⟨lb, 0, none⟩ (.slice none 0 0)).setCell ⟨fb, 0, none⟩ (.int .i64 c)).setCell ⟨fb, 1, none⟩ (.int .i64 a)) = W3 at *
 have hb : Below W3.heap.size W3 (W3.alloc (.cells #[.int .i64 c, .int .i64 a] 80)).drew := lxDrew ((Below.refl _ _).alloc (Nat.le_refl _) _)
 exact ⟨rfl, _, rfl, _, results_none rfl _ _ _, rfl, rfl, cLt hb k0, cLt hb k1, cLt hb k2, fun B b1 b2 => (hz B b1 b2).trans (hb.mono lq17)⟩
def BsAt (w : World) (A : Option Addr) (s : ByteArray) : Prop := RdI w .u8 A (s.data.toList.map fun c => (c.toNat : Int))
theorem BsAt.later {w w' : World} {A : Option Addr} {s : ByteArray} (h : BsAt w A s) (hb : Below w.heap.size w w') : BsAt w' A s := RdI.later h hb
theorem conv_ok {w : World} {A : Option Addr} {s : ByteArray} (h : BsAt w A s) (c : Nat) : (convert 22 9 (.slice A s.size c)).run Tryz.prog w = .ok (.string s) w := by
 have hlen : (s.data.toList.map fun c => (c.toNat : Int)).length = s.size := by simp
 have hstr : strOfNums (s.data.toList.map fun c => (c.toNat : Int)) = s := by
  cases s with
  | mk d => simp [strOfNums, List.map_map, Function.comp_def]
 cases A with
 | none =>
  have h0 : s.size = 0 := by
   by_cases h0 : s.size = 0
   ·exact h0
   ·obtain ⟨b, off, z, hA, _⟩ := h 0 (by rw [hlen]; omega)
    cases hA
  have hs : s = ByteArray.empty := by
   cases s with
   | mk d => simp only [ByteArray.size] at h0; rw [Array.eq_empty_of_size_eq_zero h0]; rfl
  rw [hs]; exact run_convert_bytes_nil (P := Tryz.prog) w _ _ Tryz.underlying22 Tryz.underlying5 _ c _ Tryz.underlying9
 | some ad =>
  by_cases h0 : s.size = 0
  ·have hs : s = ByteArray.empty := by
    cases s with
    | mk d => simp only [ByteArray.size] at h0; rw [Array.eq_empty_of_size_eq_zero h0]; rfl
   subst hs; rw [run_convert_bytes_string w _ _ _ _ _ c Tryz.underlying22 Tryz.underlying5 Tryz.underlying9]
   show (Conv.bytesToString (.slice (some ad) 0 c)).run Tryz.prog w = _
   simp [Conv.bytesToString, loadCells, loadCellsFrom]
  ·obtain ⟨b, off, z, hA, _⟩ := h 0 (by rw [hlen]; omega); injection hA with hA
   subst hA
   have := run_convert_bytes_arg (P := Tryz.prog) w _ _ Tryz.underlying22 Tryz.underlying5 b off s.size c _ hlen (fun i hi => by
    obtain ⟨b2, o2, z2, hA2, hz2, hc2⟩ := h i (by rw [hlen]; exact hi); injection hA2 with hA2
    injection hA2 with e1 e2 _
    subst e1 e2; rw [List.getD_eq_getElem?_getD, hz2]
    exact hc2) _ Tryz.underlying9
   rw [this, hstr]
end
end Go.Proofs.YtjndbcnmmnkilaaGreatDoor
