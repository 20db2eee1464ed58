/- The lexer goes through its source: from the label next. -/
import Derived.Test.YtgheejogpbhokaaDoorLx14
namespace Go.Proofs.YtgheejogpbhokaaDoor
set_option linter.unusedVariables false
set_option linter.unusedSimpArgs false
open Go.RowKit
set_option maxRecDepth 1000000

theorem tok_lex {s : ByteArray} {q b o : Nat} {st : List Nat} {toks : List Tk} (hq : q < s.size) (h10 : s[q] ≠ 10) (h32 : s[q] ≠ 32) (h35 : s[q] ≠ 35) {k : Int} {x : List UInt8} {n o' : Nat} (ht : tokL o (s.data.toList.drop q) = .tok k x n o') :
    lexR s.data.toList ⟨q, b, false, o, st, toks⟩ = lexR s.data.toList ⟨q + n, b, false, o', st, toks ++ [⟨k, x, q⟩]⟩ := by
  refine lexR_step ?_
  unfold stepL
  dsimp only
  rw [drop_cons s q hq] at ht ⊢
  dsimp only
  rw [if_neg h35, if_neg h32, if_neg h10, if_neg (by decide), ht]
theorem bad_lex {s : ByteArray} {q b o : Nat} {st : List Nat} {toks : List Tk} (hq : q < s.size) (h10 : s[q] ≠ 10) (h32 : s[q] ≠ 32) (h35 : s[q] ≠ 35) {c : Int} (ht : tokL o (s.data.toList.drop q) = .bad c) :
    lexR s.data.toList ⟨q, b, false, o, st, toks⟩ = .bad c q := by
  refine lexR_end ?_
  unfold stepL
  dsimp only
  rw [drop_cons s q hq] at ht ⊢
  dsimp only
  rw [if_neg h35, if_neg h32, if_neg h10, if_neg (by decide), ht]
section
variable {w0 : World} {base X : Nat} {s : ByteArray} {R : LR} {Q : Exit → Act → World → Prop}

set_option maxHeartbeats 4000000 in
theorem all_2 (hs : s.size ≤ 65536) (hT : ∀ W, Below base w0 W → Lib.Utf8Tabs 1 2 W) (hQ : Outs w0 base X s R Q) (c : Code) (hc : AllScope c) (N : Nat) (a : Act) (w : World) (hJ : JL w0 base X s R 2 a w) (hN : muL s X 2 a w ≤ N) :
    ∃ rest, findLabel c 2 = some (.seq .skip rest) ∧ rest.wp Tryd.prog (jumps (fun l' a' w' => JL w0 base X s R l' a' w' ∧ muL s X l' a' w' < N) Q) a w := by
  have hc0 := hc
  unfold AllScope at hc
  rw [show Tryd.f18.body = some _ from rfl] at hc
  injection hc with hc
  injection hc with hc
  subst hc
  refine ⟨_, rfl, ?_⟩
  obtain ⟨h1, h2, h3, hA⟩ := hJ
  obtain ⟨t, ds⟩ := a
  dsimp only at h1 h2 h3
  subst h3
  obtain ⟨f, rfl⟩ := frame_out t X h1 h2
  clear h1 h2
  obtain ⟨p, o, b, st, toks, ⟨hL, hB, hz, hO⟩, hR⟩ := hA
  have hp := hO.hp
  have hcn := hO.hc
  have hdn := hO.hd
  obtain ⟨q0, q1, q3, f1, f3, hX, hbX⟩ := hL.cells
  rw [mu_eq (k := 2) q1 rfl] at hN
  obtain ⟨g1, hq, ⟨b', g3⟩, g4⟩ := past_lex s p b false o st toks hp
  rw [g3] at hR
  have hPa := lxPast_ok hL hz (by omega) hp
  generalize pastP s p = q at *
  clear q0 q1 q3 f1 f3 g3 hL
  go_wp2_with fail
  go_at_call 24
  refine hPa.mono ?_
  rintro e w1 ⟨rfl, hL, hb1⟩
  replace hB := hB.trans hb1
  replace hz := Nat.le_trans hz hb1.size
  clear hPa hb1
  by_cases hlt : q < s.size
  · by_cases h10 : s[q] = 10
    · have hE : true = (match s.data.toList.drop q with | [] => true | c :: _ => c == 10) := by rw [drop_cons s q hlt, h10]; rfl
      have i3 : ((q : Int) == (s.size : Int)) = false := by simp; omega
      have hnl := step_nl (b := b') (o := o) (h := false) (st := st) (toks := toks) hlt h10
      have hnl2 := step_nl (b := b') (o := o) (h := true) (st := st) (toks := toks ++ [⟨6, [], q⟩]) hlt h10
      rw [hR] at hnl
      clear hR g4
      by_cases h0 : o = 0
      · subst h0
        simp only [Bool.false_or, Bool.true_or, decide_true, and_self, if_true, Bool.true_eq_false, and_false, if_false] at hnl hnl2
        have hR3 := Lib.hid (hnl2.trans hnl.symm)
        clear hnl hnl2
        go_wp2_with fail
        go_at_call 25
        refine (lxEnds_ok hL (by omega) hq true hE).mono ?_
        rintro e w2 ⟨rfl, hb2⟩
        replace hL := hL.later hb2
        replace hB := hB.trans (hb2.mono hz)
        replace hz := Nat.le_trans hz hb2.size
        clear hb2
        clear hE
        obtain ⟨q0, q1, q3, f1, f3, hX, hbX⟩ := hL.cells
        go_wp2_with fail
        go_quiet (fail)
        obtain ⟨v1, hv, hbv⟩ : ∃ v, v = w2.drewN nq ∧ Below w2.heap.size w2 v := ⟨_, rfl, below_draws _ _⟩
        rw [← hv]
        clear hv q0 q1 q3 f1 f3
        replace hL := hL.later hbv
        replace hB := hB.trans (hbv.mono hz)
        replace hz := Nat.le_trans hz hbv.size
        obtain ⟨q0, q1, q3, f1, f3, hX, hbX⟩ := hL.cells
        have hput := lxPut_ok 6 ⟨#[]⟩ q hL hz (by decide) (by omega)
        go_wp2_with fail
        go_at_call 28
        refine hput.mono ?_
        rintro e w3 ⟨rfl, hL3, hb3⟩
        go_wp2
        go_step3
        go_step
        go_step
        refine fallL (all_1 hs hT hQ _ hc0 N _ w3 ?_ ?_) rfl
        · exact ⟨rfl, rfl, rfl, q, b', st, _, ⟨hL3, hB.trans hb3, Nat.le_trans hz hb3.size, ⟨hq, hO.ho, hO.hb, by rw [List.length_append]; simp; omega, hO.hd⟩⟩, hR3.out, fun _ => h10⟩
        · rw [mu_eq (k := 1) hL3.cells.2.1 rfl]; omega
      · have e0 : decide (o = 0) = false := decide_eq_false h0
        simp only [h0, e0, Bool.false_or, Bool.true_or, false_and, if_false] at hnl
        have hR3 := Lib.hid hnl.symm
        have i4 : (0 : Int) < (o : Int) := by omega
        clear hnl hnl2 e0
        go_wp2_with fail
        go_at_call 25
        refine (lxEnds_ok hL (by omega) hq true hE).mono ?_
        rintro e w2 ⟨rfl, hb2⟩
        replace hL := hL.later hb2
        replace hB := hB.trans (hb2.mono hz)
        replace hz := Nat.le_trans hz hb2.size
        clear hb2
        clear hE
        obtain ⟨q0, q1, q3, f1, f3, hX, hbX⟩ := hL.cells
        go_wp2_with fail
        go_quiet (fail)
        obtain ⟨v1, hv, hbv⟩ : ∃ v, v = w2.drewN nq ∧ Below w2.heap.size w2 v := ⟨_, rfl, below_draws _ _⟩
        rw [← hv]
        clear hv q0 q1 q3 f1 f3
        replace hL := hL.later hbv
        replace hB := hB.trans (hbv.mono hz)
        replace hz := Nat.le_trans hz hbv.size
        obtain ⟨q0, q1, q3, f1, f3, hX, hbX⟩ := hL.cells
        go_wp2
        go_step3
        have hL2 := hL.setPos (q + 1) ((q : Int) + 1) (by omega)
        refine ⟨⟨rfl, rfl, rfl, q + 1, o, 0, st, toks, ⟨hL2, Below.setCell (p := ⟨X, 1, none⟩) hB hbX _, by rw [World.size_setCell]; exact hz, ⟨by omega, hO.ho, hO.hb, by omega, hO.hd⟩⟩, hR3.out⟩, ?_⟩
        rw [mu_eq (k := 2) hL2.cells.2.1 rfl]
        omega
    · obtain ⟨h32, h35⟩ := g4 hlt h10
      have hTk : ∀ W, LxS W base X s q o st toks → base ≤ W.heap.size → Below base w0 W → Calls Tryd.prog 27 #[.pointer (some ⟨X, 0, none⟩)] W (TokR W base X s q st toks (tokL o (s.data.toList.drop q))) := fun W h1 h2 h3 => lxToken_ok h1 h2 (by omega) hlt (by omega) hO.ho (hT W h3)
      cases hr : tokL o (s.data.toList.drop q) with
      | tok k x n o' =>
        have hl := tokL_len hr
        rw [List.length_drop] at hl
        have hlen : s.data.toList.length = s.size := by simp
        rw [hlen] at hl
        have hR3 := Lib.hid ((tok_lex (b := b') (st := st) (toks := toks) hlt h10 h32 h35 hr).symm.trans hR)
        have ho' := tokL_opn hr hO.ho
        rw [hr] at hTk
        have hE : false = (match s.data.toList.drop q with | [] => true | c :: _ => c == 10) := by rw [drop_cons s q hlt]; simpa using h10
        clear hr hR hlen h10 h32 h35 g4
        go_wp2_with fail
        go_at_call 25
        refine (lxEnds_ok hL (by omega) hq false hE).mono ?_
        rintro e w2 ⟨rfl, hb2⟩
        replace hL := hL.later hb2
        replace hB := hB.trans (hb2.mono hz)
        replace hz := Nat.le_trans hz hb2.size
        clear hb2
        clear hE
        go_wp2_with fail
        go_at_call 27
        refine (hTk _ hL hz hB).mono ?_
        rintro e w3 ⟨rfl, hL3, hb3⟩
        go_wp2
        go_step3
        refine ⟨⟨rfl, rfl, rfl, q + n, o', b', st, _, ⟨hL3, hB.trans hb3, Nat.le_trans hz hb3.size, ⟨by omega, ho', hO.hb, by rw [List.length_append]; simp; omega, hO.hd⟩⟩, hR3.out⟩, ?_⟩
        rw [mu_eq (k := 2) hL3.cells.2.1 rfl]
        omega
      | bad c =>
        have hR3 := Lib.hid ((bad_lex (b := b') (st := st) (toks := toks) hlt h10 h32 h35 hr).symm.trans hR)
        rw [hr] at hTk
        have hE : false = (match s.data.toList.drop q with | [] => true | c :: _ => c == 10) := by rw [drop_cons s q hlt]; simpa using h10
        clear hr hR h10 h32 h35 g4
        go_wp2_with fail
        go_at_call 25
        refine (lxEnds_ok hL (by omega) hq false hE).mono ?_
        rintro e w2 ⟨rfl, hb2⟩
        replace hL := hL.later hb2
        replace hB := hB.trans (hb2.mono hz)
        replace hz := Nat.le_trans hz hb2.size
        clear hb2
        clear hE
        go_wp2_with fail
        go_at_call 27
        refine (hTk _ hL hz hB).mono ?_
        rintro e w3 ⟨rfl, hb3⟩
        exact hQ.p _ _ _ rfl (by rw [← hR3.out]; exact ⟨rfl, hB.trans hb3⟩)
  · have hqs : q = s.size := by omega
    subst hqs
    have hE : true = (match s.data.toList.drop s.size with | [] => true | c :: _ => c == 10) := by rw [List.drop_eq_nil_of_le (by simp)]
    have i3 : ((s.size : Int) == (s.size : Int)) = true := by simp
    have hR2 := step_end (s := s.data.toList) (S := ⟨s.size, b', false, o, st, toks⟩) (by simp)
    rw [hR] at hR2
    have hlen : s.data.toList.length = s.size := by simp
    rw [hlen] at hR2
    have hR3 := Lib.hid hR2
    clear hR hR2 hlen g4 hlt
    go_wp2_with fail
    go_at_call 25
    refine (lxEnds_ok hL (by omega) hq true hE).mono ?_
    rintro e w2 ⟨rfl, hb2⟩
    replace hL := hL.later hb2
    replace hB := hB.trans (hb2.mono hz)
    replace hz := Nat.le_trans hz hb2.size
    clear hb2
    clear hE
    obtain ⟨q0, q1, q3, f1, f3, hX, hbX⟩ := hL.cells
    go_wp2_with fail
    go_quiet (fail)
    obtain ⟨v1, hv, hbv⟩ : ∃ v, v = w2.drewN nq ∧ Below w2.heap.size w2 v := ⟨_, rfl, below_draws _ _⟩
    rw [← hv]
    clear hv q0 q1 q3 f1 f3
    replace hL := hL.later hbv
    replace hB := hB.trans (hbv.mono hz)
    replace hz := Nat.le_trans hz hbv.size
    obtain ⟨q0, q1, q3, f1, f3, hX, hbX⟩ := hL.cells
    go_wp2
    go_step3
    refine ⟨⟨rfl, rfl, rfl, s.size, o, st, toks, ⟨hL, hB, hz, ⟨hq, hO.ho, hO.hb, by omega, hO.hd⟩⟩, hR3.out⟩, ?_⟩
    rw [mu_eq (k := 0) q1 rfl]
    omega
end
end Go.Proofs.YtgheejogpbhokaaDoor
