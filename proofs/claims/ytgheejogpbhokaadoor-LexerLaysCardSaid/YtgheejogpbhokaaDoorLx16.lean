/- The lexer goes through its source: from the label line. -/
import Derived.Test.YtgheejogpbhokaaDoorLx15
namespace Go.Proofs.YtgheejogpbhokaaDoor
set_option linter.unusedVariables false
set_option linter.unusedSimpArgs false
open Go.RowKit
set_option maxRecDepth 1000000
section
variable {w0 : World} {base X : Nat} {s : ByteArray} {R : LR} {Q : Exit → Act → World → Prop}

set_option maxHeartbeats 4000000 in
theorem all_0 (hs : s.size ≤ 65536) (hT : ∀ W, Below base w0 W → Lib.Utf8Tabs 1 2 W) (hQ : Outs w0 base X s R Q) (c : Code) (hc : AllScope c) (N : Nat) (a : Act) (w : World) (hJ : JL w0 base X s R 0 a w) (hN : muL s X 0 a w ≤ N) :
    ∃ rest, findLabel c 0 = some (.seq .skip rest) ∧ rest.wp Tryd.prog (jumps (fun l' a' w' => JL w0 base X s R l' a' w' ∧ muL s X l' a' w' < N) Q) a w := by
  have hc0 := hc
  unfold AllScope at hc
  rw [show Tryd.f18.body = some _ from rfl] at hc
  injection hc with hc
  injection hc with hc
  subst hc
  refine ⟨_, rfl, ?_⟩
  obtain ⟨h1, h2, h3, hA⟩ := hJ
  obtain ⟨t, ds⟩ := a
  dsimp only at h1 h2 h3
  subst h3
  obtain ⟨f, rfl⟩ := frame_out t X h1 h2
  clear h1 h2
  obtain ⟨p, st, toks, ⟨hL, hB, hz, hO⟩, hR⟩ := hA
  have hp := hO.hp
  have hcn := hO.hc
  have hdn := hO.hd
  obtain ⟨q0, q1, q3, f1, f3, hX, hbX⟩ := hL.cells
  rw [mu_eq (k := 3) q1 rfl] at hN
  go_wp2
  go_loopw [7] (fun v wr => ∃ k : Nat, p ≤ k ∧ k ≤ s.size ∧ LxS wr base X s k 0 st toks ∧ Below base w0 wr ∧ base ≤ wr.heap.size ∧ Hid (blL (s.data.toList.drop p) = k - p + blL (s.data.toList.drop k))) (fun v wr => atM s X wr)
  case atStart => exact ⟨p, Nat.le_refl _, hp, hL, hB, hz, Lib.hid (by omega)⟩
  case round =>
    clear hL hB hz q0 q1 q3 f1 f3 hX hbX
    obtain ⟨k, hk1, hk2, hL, hB, hz, hbl⟩ := hrel
    obtain ⟨q0, q1, q3, f1, f3, hX, hbX⟩ := hL.cells
    have hm := Lib.hid (atM_eq (s := s) q1)
    have i2 : (0 : Int) ≤ (k : Int) := by omega
    by_cases hlt : k < s.size
    · have i1 : (k : Int) < (s.size : Int) := by omega
      by_cases h32 : s[k] = 32
      · have e32 := byte_eq (k := 32) rfl h32
        have hst := Lib.hid (blL_step s k hlt h32)
        clear h32
        go_wp2_with fail
        go_quiet (fail)
        obtain ⟨v, hv, hbv⟩ : ∃ v, v = wr.drewN nq ∧ Below wr.heap.size wr v := ⟨_, rfl, below_draws _ _⟩
        rw [← hv]
        clear hv q0 q1 q3 f1 f3
        replace hL := hL.later hbv
        replace hB := hB.trans (hbv.mono hz)
        replace hz := Nat.le_trans hz hbv.size
        obtain ⟨q0, q1, q3, f1, f3, hX, hbX⟩ := hL.cells
        go_wp2
        go_roundw
        case rel =>
          exact ⟨k + 1, by omega, by omega, hL.setPos (k + 1) _ (by omega), Below.setCell (p := ⟨X, 1, none⟩) hB hbX _, by rw [World.size_setCell]; exact hz, Lib.hid (by have a := hbl.out; have b := hst.out; omega)⟩
        case measure =>
          rw [hm.out, atM_eq (p := k + 1) (hL.setPos (k + 1) _ (by omega)).cells.2.1]
          omega
      · have e32 : ((s[k].toNat : Int) == 32) = false := byte_ne (d := 32) (k := 32) rfl h32
        have hst := blL_stop s k hlt h32
        rw [hst] at hbl
        clear h32 hst
        have hn : blL (s.data.toList.drop p) = k - p := by have := hbl.out; omega
        have hb1 := bl_lex s true 0 st toks (k - p) p 0 hn (by omega)
        rw [show p + (k - p) = k by omega, Nat.zero_add] at hb1
        obtain ⟨g1, hq, g3, g4⟩ := past_lexE s k (k - p) true 0 st toks hk2
        rw [hb1.2.2, Nat.add_zero] at g3
        have hR2 := (g3.symm.trans hb1.2.1.symm).trans hR
        have hsub : (k : Int) - (p : Int) = ((k - p : Nat) : Int) := by omega
        have hkp : k - p ≤ k := Nat.sub_le _ _
        clear hn hb1 g3 hbl hm hR
        go_wp2_with fail
        go_quiet (fail)
        obtain ⟨v1, hv, hbv⟩ : ∃ v, v = wr.drewN nq ∧ Below wr.heap.size wr v := ⟨_, rfl, below_draws _ _⟩
        rw [← hv]
        clear hv q0 q1 q3 f1 f3
        replace hL := hL.later hbv
        replace hB := hB.trans (hbv.mono hz)
        replace hz := Nat.le_trans hz hbv.size
        obtain ⟨q0, q1, q3, f1, f3, hX, hbX⟩ := hL.cells
        have hPa := lxPast_ok hL hz (by omega) hk2
        generalize pastP s k = q at *
        generalize k - p = n at *
        go_wp2_with fail
        go_at_call 24
        refine hPa.mono ?_
        rintro e w1 ⟨rfl, hL, hbp⟩
        replace hB := hB.trans hbp
        replace hz := Nat.le_trans hz hbp.size
        clear hPa hbp hsub q0 q1 q3 f1 f3 hX hbX
        have fin : ∀ bE : Bool, bE = (match s.data.toList.drop q with | [] => true | c :: _ => c == 10) → _ := fun bE hE => lxEnds_ok hL (by omega) hq bE hE
        by_cases h10 : ∀ h : q < s.size, s[q] = 10
        · have hE := fin true (by
            by_cases hlt : q < s.size
            · rw [drop_cons s q hlt, h10 hlt]; rfl
            · rw [List.drop_eq_nil_of_le (by simp; omega)])
          clear fin
          go_wp2_with fail
          go_at_call 25
          refine hE.mono ?_
          rintro e w2 ⟨rfl, hb2⟩
          replace hL := hL.later hb2
          replace hB := hB.trans (hb2.mono hz)
          replace hz := Nat.le_trans hz hb2.size
          go_wp2
          go_step3
          refine ⟨⟨rfl, rfl, rfl, q, n, st, toks, ⟨hL, hB, hz, ⟨hq, hO.ho, hO.hb, by omega, hO.hd⟩⟩, hR2, h10⟩, ?_⟩
          rw [mu_eq (k := 1) hL.cells.2.1 rfl]
          omega
        · have hlt : q < s.size := Classical.byContradiction fun h => h10 (fun h2 => absurd h2 h)
          have h10' : s[q] ≠ 10 := fun h => h10 (fun _ => h)
          clear h10
          obtain ⟨h32, h35⟩ := g4 hlt h10'
          have hE := fin false (by rw [drop_cons s q hlt]; simpa using h10')
          have hIn : ∀ W, LxS W base X s q 0 st toks → base ≤ W.heap.size → Calls Tryd.prog 26 #[.pointer (some ⟨X, 0, none⟩), .int .i64 n] W (IndR W base X s q 0 (beginL n q st toks)) := fun W h1 h2 => lxIndent_ok h1 h2 (by omega) (by omega) (by omega) (by omega) hO.hb
          rw [head_lex hlt h10' h32 h35] at hR2
          clear fin h32 h35 g4
          cases hr : beginL n q st toks with
          | inl y =>
            obtain ⟨y1, y2, y3⟩ := begin_in hr hO.hb hO.hd
            rw [hr] at hIn hR2
            have hR3 := Lib.hid hR2
            clear hr hR2
            go_wp2_with fail
            go_at_call 25
            refine hE.mono ?_
            rintro e w2 ⟨rfl, hb2⟩
            replace hL := hL.later hb2
            replace hB := hB.trans (hb2.mono hz)
            replace hz := Nat.le_trans hz hb2.size
            go_wp2_with fail
            go_at_call 26
            refine (hIn _ hL hz).mono ?_
            rintro e w3 ⟨rfl, hL3, hb3⟩
            go_wp2
            go_step3
            go_step
            go_step
            refine fallL (all_2 hs hT hQ _ hc0 N _ w3 ?_ ?_) rfl
            · exact ⟨rfl, rfl, rfl, q, 0, n, y.1, y.2, ⟨hL3, hB.trans hb3, Nat.le_trans hz hb3.size, ⟨hq, hO.ho, y1, by omega, y3⟩⟩, hR3.out⟩
            · rw [mu_eq (k := 2) hL3.cells.2.1 rfl]; omega
          | inr c =>
            rw [hr] at hIn hR2
            have hR3 := Lib.hid hR2
            clear hr hR2
            go_wp2_with fail
            go_at_call 25
            refine hE.mono ?_
            rintro e w2 ⟨rfl, hb2⟩
            replace hL := hL.later hb2
            replace hB := hB.trans (hb2.mono hz)
            replace hz := Nat.le_trans hz hb2.size
            go_wp2_with fail
            go_at_call 26
            refine (hIn _ hL hz).mono ?_
            rintro e w3 ⟨rfl, hb3⟩
            exact hQ.p _ _ _ rfl (by rw [← hR3.out]; exact ⟨rfl, hB.trans hb3⟩)
    · have hks : k = s.size := by omega
      subst hks
      rw [blL_end] at hbl
      have i1 : decide ((s.size : Int) < (s.size : Int)) = false := by simp
      clear hlt
      have hn : blL (s.data.toList.drop p) = s.size - p := by have := hbl.out; omega
      have hb1 := bl_lex s true 0 st toks (s.size - p) p 0 hn (by omega)
      rw [show p + (s.size - p) = s.size by omega, Nat.zero_add] at hb1
      obtain ⟨g1, hq, g3, g4⟩ := past_lexE s s.size (s.size - p) true 0 st toks hk2
      rw [hb1.2.2, Nat.add_zero] at g3
      have hR2 := (g3.symm.trans hb1.2.1.symm).trans hR
      have hsub : (s.size : Int) - (p : Int) = ((s.size - p : Nat) : Int) := by omega
      have hkp : s.size - p ≤ s.size := Nat.sub_le _ _
      clear hn hb1 g3 hbl hm hR
      go_wp2_with fail
      go_quiet (fail)
      obtain ⟨v1, hv, hbv⟩ : ∃ v, v = wr.drewN nq ∧ Below wr.heap.size wr v := ⟨_, rfl, below_draws _ _⟩
      rw [← hv]
      clear hv q0 q1 q3 f1 f3
      replace hL := hL.later hbv
      replace hB := hB.trans (hbv.mono hz)
      replace hz := Nat.le_trans hz hbv.size
      obtain ⟨q0, q1, q3, f1, f3, hX, hbX⟩ := hL.cells
      have hPa := lxPast_ok hL hz (by omega) hk2
      generalize pastP s s.size = q at *
      generalize s.size - p = n at *
      go_wp2_with fail
      go_at_call 24
      refine hPa.mono ?_
      rintro e w1 ⟨rfl, hL, hbp⟩
      replace hB := hB.trans hbp
      replace hz := Nat.le_trans hz hbp.size
      clear hPa hbp hsub q0 q1 q3 f1 f3 hX hbX
      have fin : ∀ bE : Bool, bE = (match s.data.toList.drop q with | [] => true | c :: _ => c == 10) → _ := fun bE hE => lxEnds_ok hL (by omega) hq bE hE
      by_cases h10 : ∀ h : q < s.size, s[q] = 10
      · have hE := fin true (by
          by_cases hlt : q < s.size
          · rw [drop_cons s q hlt, h10 hlt]; rfl
          · rw [List.drop_eq_nil_of_le (by simp; omega)])
        clear fin
        go_wp2_with fail
        go_at_call 25
        refine hE.mono ?_
        rintro e w2 ⟨rfl, hb2⟩
        replace hL := hL.later hb2
        replace hB := hB.trans (hb2.mono hz)
        replace hz := Nat.le_trans hz hb2.size
        go_wp2
        go_step3
        refine ⟨⟨rfl, rfl, rfl, q, n, st, toks, ⟨hL, hB, hz, ⟨hq, hO.ho, hO.hb, by omega, hO.hd⟩⟩, hR2, h10⟩, ?_⟩
        rw [mu_eq (k := 1) hL.cells.2.1 rfl]
        omega
      · have hlt : q < s.size := Classical.byContradiction fun h => h10 (fun h2 => absurd h2 h)
        have h10' : s[q] ≠ 10 := fun h => h10 (fun _ => h)
        clear h10
        obtain ⟨h32, h35⟩ := g4 hlt h10'
        have hE := fin false (by rw [drop_cons s q hlt]; simpa using h10')
        have hIn : ∀ W, LxS W base X s q 0 st toks → base ≤ W.heap.size → Calls Tryd.prog 26 #[.pointer (some ⟨X, 0, none⟩), .int .i64 n] W (IndR W base X s q 0 (beginL n q st toks)) := fun W h1 h2 => lxIndent_ok h1 h2 (by omega) (by omega) (by omega) (by omega) hO.hb
        rw [head_lex hlt h10' h32 h35] at hR2
        clear fin h32 h35 g4
        cases hr : beginL n q st toks with
        | inl y =>
          obtain ⟨y1, y2, y3⟩ := begin_in hr hO.hb hO.hd
          rw [hr] at hIn hR2
          have hR3 := Lib.hid hR2
          clear hr hR2
          go_wp2_with fail
          go_at_call 25
          refine hE.mono ?_
          rintro e w2 ⟨rfl, hb2⟩
          replace hL := hL.later hb2
          replace hB := hB.trans (hb2.mono hz)
          replace hz := Nat.le_trans hz hb2.size
          go_wp2_with fail
          go_at_call 26
          refine (hIn _ hL hz).mono ?_
          rintro e w3 ⟨rfl, hL3, hb3⟩
          go_wp2
          go_step3
          go_step
          go_step
          refine fallL (all_2 hs hT hQ _ hc0 N _ w3 ?_ ?_) rfl
          · exact ⟨rfl, rfl, rfl, q, 0, n, y.1, y.2, ⟨hL3, hB.trans hb3, Nat.le_trans hz hb3.size, ⟨hq, hO.ho, y1, by omega, y3⟩⟩, hR3.out⟩
          · rw [mu_eq (k := 2) hL3.cells.2.1 rfl]; omega
        | inr c =>
          rw [hr] at hIn hR2
          have hR3 := Lib.hid hR2
          clear hr hR2
          go_wp2_with fail
          go_at_call 25
          refine hE.mono ?_
          rintro e w2 ⟨rfl, hb2⟩
          replace hL := hL.later hb2
          replace hB := hB.trans (hb2.mono hz)
          replace hz := Nat.le_trans hz hb2.size
          go_wp2_with fail
          go_at_call 26
          refine (hIn _ hL hz).mono ?_
          rintro e w3 ⟨rfl, hb3⟩
          exact hQ.p _ _ _ rfl (by rw [← hR3.out]; exact ⟨rfl, hB.trans hb3⟩)
end
end Go.Proofs.YtgheejogpbhokaaDoor
