/- Joined by a program: Pe10, Pe11. -/
import Derived.Test.YtjndbcnmmnkilaaGreatDoorPF14
namespace Go.Proofs.YtjndbcnmmnkilaaGreatDoor
set_option linter.unusedVariables false
set_option linter.unusedSimpArgs false
set_option maxRecDepth 1000000
set_option maxHeartbeats 16000000
section
open Go.RowKit
open List (length_append length_cons length_nil length_singleton)
section
variable {wB nB gB : ByteArray → Bool} {nO : ByteArray → Option (List Int)} {e : Int} 
theorem pBlock_ok (hD : Deps wB nB gB nO) (hC : Cst wB) (D : Nat) (HAs' : ∀ k, k ≤ D → PA e (Pp nB gB nO e k)) : CN e 101 (fun l => s_block e (Pp nB gB nO e D) l) := by
 intro X l w hP0 hne
 obtain ⟨R, hR⟩ : ∃ R, s_block e (Pp nB gB nO e D) l = R := ⟨_, rfl⟩
 simp only [hR] at hne ⊢
 unfold s_block at hR
 have HAs := Lh HAs'
 clear HAs'
 have HA := HAs.out D (Nat.le_refl _)
 have hXl := hP0.lt
 have hk0 : Kp w.heap.size X w w := Kp.refl _ _ _
 have hz0 := hk0.size
 go_enter Tryz.func101, Tryz.ntmps101
 go_upto_region 1 with fail
 generalize hG : w.alloc zN = w1 at *
 obtain ⟨hb1, hxR_1, _⟩ := nb hG
 clear hG
 obtain ⟨hk1, _, _⟩ := kd hk0 hb1
 have hP1 := hP0.later hb1
 go_wp2_with fail
 go_at_call 103
 refine (needS_ok hD hC.s_3a hP1).mono ?_
 rintro E w2 hE
 rcases hE with ⟨hv, rfl, hP2, hq⟩ | ⟨hv, rfl, hq⟩
 rotate_left 1
 ·simp only [needS, hv, Bool.false_eq_true, if_false, Rs.bind_bad] at hR; go_wp2_with fail; exact ⟨rfl, retBad (hk1.call (Nat.le_refl _) hq) hR.symm⟩
 simp only [needS, hv, if_true, Rs.bind_ok, Rs.bind_assoc] at hR
 obtain ⟨hk2, _, _⟩ := kc hk1 hq
 have hxR_2 := kx hq hxR_1
 go_wp2_with fail
 go_at_call 109
 refine (kind_ok hP2 6).mono ?_
 rintro E w3 hE
 rcases hE with ⟨hv, rfl, hP3, hq⟩ | ⟨hv, rfl, hq⟩
 rotate_left 1
 ·have hv2 : ¬ (hd e (l.tail)).kind = (6 : Int) := by intro h; rw [h] at hv; exact absurd hv lq16
  simp only [needK, if_neg hv2, Rs.bind_bad] at hR; go_wp2_with fail; exact ⟨rfl, retBad (hk2.call (Nat.le_refl _) hq) hR.symm⟩
 have hv2 : (hd e (l.tail)).kind = (6 : Int) := by simpa using hv
 simp only [needK, if_pos hv2, Rs.bind_ok, Rs.bind_assoc] at hR
 obtain ⟨hk3, _, _⟩ := kc hk2 hq
 have hxR_3 := kx hq hxR_2
 go_wp2_with fail
 go_at_call 109
 refine (kind_ok hP3 7).mono ?_
 rintro E w4 hE
 rcases hE with ⟨hv, rfl, hP4, hq⟩ | ⟨hv, rfl, hq⟩
 rotate_left 1
 ·have hv2 : ¬ (hd e (l.tail.tail)).kind = (7 : Int) := by intro h; rw [h] at hv; exact absurd hv lq16
  simp only [needK, if_neg hv2, Rs.bind_bad] at hR; go_wp2_with fail; exact ⟨rfl, retBad (hk3.call (Nat.le_refl _) hq) hR.symm⟩
 have hv2 : (hd e (l.tail.tail)).kind = (7 : Int) := by simpa using hv
 simp only [needK, if_pos hv2, Rs.bind_ok, Rs.bind_assoc] at hR
 obtain ⟨hk4, _, _⟩ := kc hk3 hq
 have hxR_4 := kx hq hxR_3
 have n1 := Rs.ne_of hR hne
 go_wp2_with fail
 go_at_call 56
 refine (HA.pstmt X _ _ hP4 n1).mono ?_
 rintro E w5 hE
 rcases hE with ⟨cc, aa, hv, rfl, hq⟩ | ⟨T9, l9, A9, c9, K9, d9, hv, rfl, hP5, hF9_5, hq⟩
 ·exact lv62
 rw [hv] at hR
 simp only [yO, yA] at hR
 clear hv n1
 have hF9_5 := hF9_5.intoN (P := Nn) (lo := w1.heap.size) (x := X) lq17 lq17
 obtain ⟨hk5, _, _⟩ := kc hk4 hq
 have hxR_5 := kx hq hxR_4
 unfold ndV
 have hro := row_made (P := Nn) (lo := w1.heap.size) (x := X) (X := X) w5 [⟨T9, A9, c9, K9, d9⟩] #[.int .i64 T9.kind, .int .i64 T9.pos, .string T9.text, .bool T9.neg, .slice A9 T9.mag.length c9, .slice K9 T9.kids.length d9] 1 rfl rfl lq17 lq17 lq16 (Old.nn X _) (by
  intro q hq; simp only [List.mem_cons, List.not_mem_nil, or_false] at hq
  rcases hq with rfl <;> assumption)
 go_wp2_with fail
 generalize hG : w5.alloc (oN T9 A9 c9 K9 d9) = w6 at *
 obtain ⟨hb6, _, _⟩ := nb hG
 clear hG
 obtain ⟨hk6, _, _⟩ := kd hk5 hb6
 have hP6 := hP5.later hb6
 have hxR_6 := kb hb6 hxR_5
 have hF9_6 := hF9_5.later hb6 (Old.nn X _)
 have hln := hP6.ln
 have hpos9 := hF9_6.now.parts.2.2.2.2.2.2.2.1
 go_loopg [3] D (fun k v wr => ∃ (ks : List Nd) (l' : List Tok) (A : Option Addr) (c : Nat), v = .slice A ks.length c ∧ Hid (Pz e wr X l' ∧ RowS Nn w1.heap.size X wr A c ks ∧ Kp w.heap.size X w wr ∧ ((Pp nB gB nO e k).qstmts 8 ks l').bind (fun ks r => .ok (Nd.mk 2 T9.pos ⟨#[]⟩ false [] ks) r.tail) = R ∧ ks.length + l'.length ≤ 1000001 ∧ k ≤ D ∧ ks[0]? = some T9 ∧ wr.heap[w.heap.size]? = some (.cells #[.int .i64 0, .int .i64 0, .string ⟨#[]⟩, .bool false, .slice none 0 0, .slice none 0 0] 29) ∧ w1.heap.size ≤ wr.heap.size))
 case atStart => exact ⟨[T9], l9, _, 1, rfl, Lh ⟨hP6, hro, hk6, hR, by simp only [length_cons, length_nil]; omega, Nat.le_refl _, rfl, hxR_6, by omega⟩⟩
 case round =>
  obtain ⟨ks, l0, A0, c0, rfl, hH⟩ := hrel; obtain ⟨hP20, hR0_20, hk20, hRk, hN, hgk, hfst, hxR_20, hw1r⟩ := hH.out; clear hH hP6 hro hk6 hR HA hxR_6 hF9_6
  cases gk with
  | zero => exact absurd hRk.symm hne
  | succ gk =>
   have hR : (s_stmts e (Pp nB gB nO e gk) 8 ks l0).bind (fun ks r => .ok (Nd.mk 2 T9.pos ⟨#[]⟩ false [] ks) r.tail) = R := hRk; clear hRk; unfold s_stmts at hR; have HA := HAs.out gk lq17; have hz20 := hk20.size; have hEF := ef_all nB gB nO e gk
   by_cases h8 : (hd e l0).kind = 8
   ·have o1 : ((hd e l0).kind != 8) = false := by simp [h8]
    rw [if_pos h8] at hR; clear h8; go_wp2_with fail
    go_at_call 55
    refine (next_ok hP20).mono ?_
    rintro E w21 ⟨rfl, hq⟩; obtain ⟨hk21, hs21, hz21⟩ := kd hk20 hq; have hP21 := hP20.later hq; have hxR_21 := kb hq hxR_20; have hR0_21 := hR0_20.later hq (Old.nn X _); have F0_21 := tfield0 (hd e l0).kind (hd e l0).text (hd e l0).pos; unfold tokA; go_wp2_with fail
    go_at_call 177
    refine (pass_ok hP21).mono ?_
    rintro E w22 ⟨rfl, hP22, hq⟩; obtain ⟨hk22, hs22, hz22⟩ := kc hk21 hq; have hxR_22 := kx hq hxR_21; have hR0_22 := hR0_21.kp hq (Old.nn X _) lq17; unfold tokA; obtain ⟨g0, hA0, k0, k1, hp0, hl0⟩ := hR0_22.first hfst; subst hA0; have hform := hR0_22.form; obtain ⟨hf1, hf2⟩ := hform; unfold maxLen at hf2; have i1 : (0 : Int) < (ks.length : Int) := by omega
    have hFz_22 := hR0_22.node (k := 2) (p := T9.pos) (t := ⟨#[]⟩) ⟨by decide, by decide⟩ hpos9 lq16 false; go_wp2_with fail
    go_at_call 54
    refine (node_okA _ _ _ _ _ _ _).mono ?_
    rintro E w23 ⟨rfl, hq⟩; obtain ⟨hk23, hs23, hz23⟩ := kd hk22 hq; have hP23 := hP22.later hq; have hxR_23 := kb hq hxR_22; have hFz_23 := hFz_22.later hq (Old.nn X _); have hR0_23 := hR0_22.later hq (Old.nn X _); clear k0 k1; obtain ⟨k0, k1, k2, k3, k4, k5⟩ := bx_cells hxR_23; have z := Lib.frozen_of_heap hxR_23; have HE := Lh (show _ ∧ _ ∧ _ from ⟨hk23, hP23, hFz_23⟩); obtain ⟨r0, r1, r2, r3, r4, r5⟩ := bp hxR_23 (.int .i64 2) (.int .i64 (T9.pos)) (.string (⟨#[]⟩)) (.bool false) (.slice none 0 0) (.slice (some ⟨g0, 0, none⟩) ks.length c0); clear hxR_23 hFz_23 hR0_23 hk23 hP23
    go_wp2_with fail
    refine bodyPost_ret (v := .agg #[.int .i64 2, .int .i64 (T9.pos), .string (⟨#[]⟩), .bool false, .slice none 0 0, .slice (some ⟨g0, 0, none⟩) ks.length c0]) (by simp [results, Tryz.results101, go_sem, r0, r1, r2, r3, r4, r5, ndV]) rfl ?_
    exact lv74
   ·have o1 : ((hd e l0).kind != 8) = true := by simp [h8]
    rw [if_neg h8] at hR; simp only [Rs.bind_assoc] at hR; clear h8; go_wp2_with fail
    go_at_call 55
    refine (next_ok hP20).mono ?_
    rintro E w21 ⟨rfl, hq⟩; obtain ⟨hk21, hs21, hz21⟩ := kd hk20 hq; have hP21 := hP20.later hq; have hxR_21 := kb hq hxR_20; have hR0_21 := hR0_20.later hq (Old.nn X _); have F0_21 := tfield0 (hd e l0).kind (hd e l0).text (hd e l0).pos; unfold tokA; have hlt := hR0_21.lt; have n1 := Rs.ne_of hR hne; go_wp2_with fail
    go_at_call 56
    refine (HA.pstmt X _ _ hP21 n1).mono ?_
    rintro E w22 hE
    rcases hE with ⟨cc, aa, hv, rfl, hq⟩ | ⟨T1, l1, A1, c1, K1, d1, hv, rfl, hP22, hF1, hq⟩
    ·rw [hv] at hR; go_wp2_with fail; exact ⟨rfl, retBad (hk21.call (Nat.le_refl _) hq) hR.symm⟩
    rw [hv] at hR; simp only [yO, yA] at hR; have hle := hEF.estmt _ _ _ hv; clear hv n1; have hA := hF1.away (P := Nn) (lo := w1.heap.size) (x := X) (own := (Value.slice A0 ks.length c0).ownBlock) (fun _ h => h.elim) lq17 lq17 (fun g e => (hlt g e).2); clear hF1 hlt; obtain ⟨hk22, hs22, hz22⟩ := kc hk21 hq; have hxR_22 := kx hq hxR_21; have hR0_22 := hR0_21.kp hq (Old.nn X _) lq17; unfold ndV
    have hb23 := (Below.refl w22.heap.size w22).alloc (Nat.le_refl _) (.cells #[.int .i64 T1.kind, .int .i64 T1.pos, .string T1.text, .bool T1.neg, .slice A1 T1.mag.length c1, .slice K1 T1.kids.length d1] 29); have hbq := heap_alloc_new w22 (.cells #[.int .i64 T1.kind, .int .i64 T1.pos, .string T1.text, .bool T1.neg, .slice A1 T1.mag.length c1, .slice K1 T1.kids.length d1] 29); have hse23 : w22.heap.size + 1 ≤ (w22.alloc (.cells #[.int .i64 T1.kind, .int .i64 T1.pos, .string T1.text, .bool T1.neg, .slice A1 T1.mag.length c1, .slice K1 T1.kids.length d1] 29)).heap.size := by simp
    have hA := hA.laterA hb23 (Old.nn X _); obtain ⟨hk23, hs23, hz23⟩ := kd hk22 hb23; have hP23 := hP22.later hb23; have hxR_23 := kb hb23 hxR_22; have hR0_23 := hR0_22.later hb23 (Old.nn X _); go_wp2_with (at_builtin; refine wp_append_row rfl _ _ rfl hR0_23 rfl hA w22.heap.size rfl hbq lq17 lq17 lq17 (Old.nn X _) ?_; intro g24 cap24 w24 hRn hq hgl hgr); have hk24 := hk23.trans ((Kp.of_below hq X).mono lq17); have hs24 := hq.size; have hz24 := hk24.size; have hP24 := hP23.blocks (fun k hk => hq.5 k lq17); have hxR_24 := kb hq hxR_23; have hR0_24 := hRn; clear hRn hA hbq hgr hxR_23 hR0_23 hP23
    have HE := Lh (show _ ∧ _ ∧ _ ∧ _ from ⟨hP24, hR0_24, hk24, hxR_24⟩); clear hP24 hR0_24 hk24 hxR_24; go_wp2_with fail
    go_roundg gk
    case measure => omega
    case rel => exact ⟨ks ++ [T1], l1, some ⟨g24, 0, none⟩, cap24, by simp, Lh ⟨HE.out.1, HE.out.2.1, HE.out.2.2.1, hR, by simp only [length_append, length_cons, length_nil]; omega, by omega, by rw [List.getElem?_append_left (List.getElem?_eq_some_iff.1 hfst).1]; exact hfst, HE.out.2.2.2, by omega⟩⟩
end
section
variable {wB nB gB : ByteArray → Bool} {nO : ByteArray → Option (List Int)} {e : Int} {p : Ps}
theorem pAtom_ok (hD : Deps wB nB gB nO) (hC : Cst wB) (HA : PA e p) : CN e 243 (fun l => s_atom nB gB nO e p l) := by
 intro X l w hP0 hne
 obtain ⟨R, hR⟩ : ∃ R, s_atom nB gB nO e p l = R := ⟨_, rfl⟩
 simp only [hR] at hne ⊢
 have hok := hP0.hd
 obtain ⟨hk64, hpos, hts⟩ := hok
 have htm : (hd e l).text.size ≤ maxLen := by unfold maxLen; omega
 have hXl := hP0.lt
 have hk0 : Kp w.heap.size X w w := Kp.refl _ _ _
 have hz0 := hk0.size
 go_enter Tryz.func243, Tryz.ntmps243
 go_upto_region 1 with fail
 generalize hG : w.alloc zN = w1 at *
 obtain ⟨hb1, hxR_1, _⟩ := nb hG
 clear hG
 obtain ⟨hk1, _, _⟩ := kd hk0 hb1
 have hP1 := hP0.later hb1
 go_wp2_with fail
 go_at_call 55
 refine (next_ok hP1).mono ?_
 rintro E w2 ⟨rfl, hq⟩
 obtain ⟨hk2, _, _⟩ := kd hk1 hq
 have hP2 := hP1.later hq
 have hxR_2 := kb hq hxR_1
 unfold tokA
 go_upto_region 2 with fail
 generalize hG : w2.alloc (.cells #[.int .i64 (hd e l).kind, .string (hd e l).text, .int .i64 (hd e l).pos] 39) = w3 at *
 obtain ⟨hb3, hxk_3, _⟩ := nb hG
 clear hG
 obtain ⟨hk3, _, _⟩ := kd hk2 hb3
 have hP3 := hP2.later hb3
 have hxR_3 := kb hb3 hxR_2
 by_cases h1 : (hd e l).kind = 1
 ·rw [atom_1 h1] at hR; have o1 : ((hd e l).kind == 1) = true := by simpa using h1
  clear h1; obtain ⟨q0, q1, q2⟩ := bx_three hxk_3; go_wp2_with fail
  go_at_call 184
  clear q0 q1 q2
  refine (name_ok hD hP3).mono ?_
  rintro E w4 hE
  rcases hE with ⟨hv, rfl, hP4, hq⟩ | ⟨hv, rfl, hq⟩
  rotate_left 1
  ·exact lv60
  rw [hv] at hR; simp only [Rs.bind_ok] at hR; clear hv; obtain ⟨hk4, hs4, hz4⟩ := kc hk3 hq; have hxR_4 := kx hq hxR_3; have hxk_4 := kx hq hxk_3; unfold tokA; obtain ⟨q0, q1, q2⟩ := bx_three hxk_4; have hFz_4 := (RowS.nil Nn (w.heap.size + 1) X w4).node (k := 31) (p := (hd e l).pos) (t := (hd e l).text) ⟨by decide, by decide⟩ hpos htm false; go_wp2_with fail
  go_at_call 54
  refine (node_okA _ _ _ _ _ _ _).mono ?_
  rintro E w5 ⟨rfl, hq⟩; obtain ⟨hk5, hs5, hz5⟩ := kd hk4 hq; have hP5 := hP4.later hq; have hxR_5 := kb hq hxR_4; have hxk_5 := kb hq hxk_4; have hFz_5 := hFz_4.later hq (Old.nn X _); clear q0 q1 q2; obtain ⟨k0, k1, k2, k3, k4, k5⟩ := bx_cells hxR_5; have z := Lib.frozen_of_heap hxR_5; have HE := Lh (show _ ∧ _ ∧ _ from ⟨hk5, hP5, hFz_5⟩); obtain ⟨r0, r1, r2, r3, r4, r5⟩ := bp hxR_5 (.int .i64 31) (.int .i64 ((hd e l).pos)) (.string ((hd e l).text)) (.bool false) (.slice none 0 0) (.slice none 0 0); clear hxR_5 hFz_5 hk5 hP5; go_wp2_with fail
  refine bodyPost_ret (v := .agg #[.int .i64 31, .int .i64 ((hd e l).pos), .string ((hd e l).text), .bool false, .slice none 0 0, .slice none 0 0]) lq5 rfl ?_
  exact lv74
 ·have o1 : ((hd e l).kind == 1) = false := by simpa using h1
  by_cases h3 : (hd e l).kind = 3
  ·rw [atom_3 h3] at hR; have o3 : ((hd e l).kind == 3) = true := by simpa using h3
   clear h1 h3; obtain ⟨q0, q1, q2⟩ := bx_three hxk_3; go_wp2_with fail
   go_at_call 284
   clear q0 q1 q2
   refine (hD.num _ _ hts).mono ?_
   rintro E w4 ⟨Ai, ni, ci, neg, er, rfl, hq, hnum⟩; have hqs := hq; obtain ⟨hk4, hs4, hz4⟩ := kd hk3 hq; have hP4 := hP3.later hq; have hxR_4 := kb hq hxR_3; have hxk_4 := kb hq hxk_3
   rcases hno : nO (hd e l).text with _ | ms
   ·rw [hno] at hnum hR; clear hno hqs
    go_upto_region 8 with fail
    generalize hG : w4.alloc (.cells #[.bool neg, .slice Ai ni ci] 26) = w5 at *
    obtain ⟨hb5, hxi_5, hse5⟩ := nb hG; clear hG; obtain ⟨hk5, hs5, hz5⟩ := kd hk4 hb5; have hP5 := hP4.later hb5; have hxR_5 := kb hb5 hxR_4; have hxk_5 := kb hb5 hxk_4
    rcases hnum with her | ⟨her, hz, h45⟩
    ·have o5 : (er != 0) = true := by simpa using her
     have o5' : (er == 0) = false := by simpa using her
     clear her; go_wp2_with fail
     go_at_call 182
     refine (wrong_ok hP5).mono ?_
     rintro E w6 ⟨rfl, hq⟩; go_wp2_with fail; exact ⟨rfl, retBad (hk5.below (Nat.le_refl _) hq) hR.symm⟩
    ·subst her; obtain ⟨tx, htx⟩ : ∃ tx, (hd e l).text = tx := ⟨_, rfl⟩; simp only [htx] at hz h45; have o6 : (((tx[0].toNat : Nat) : Int) == 45) = true := by rw [h45]; rfl
     clear h45; obtain ⟨q0, q1, q2⟩ := bx_three hxk_5; go_wp2_with fail
     go_at_call 182
     clear q0 q1 q2
     refine (wrong_ok hP5).mono ?_
     rintro E w6 ⟨rfl, hq⟩; go_wp2_with fail; exact ⟨rfl, retBad (hk5.below (Nat.le_refl _) hq) hR.symm⟩
   ·rw [hno] at hnum hR; clear hno; obtain ⟨her, ⟨hz, h45⟩, hneg, hlen, hnc, hcm, hw32, hrd⟩ := hnum; subst her hneg hlen
    dsimp only at hR
    have hFz_4 : St (Pt Nn (w.heap.size + 1) X w4.heap.size) w4 (Nd.mk 32 (hd e l).pos ⟨#[]⟩ false ms []) Ai ci none 0 := fun W hW => NodeAt.of ⟨hnc, hcm, hrd W (fun k k1 k2 => hW k (.inr ⟨by omega, k2, by omega⟩)), hw32, Nat.le_refl _, Nat.zero_le _, (show I64 32 from ⟨by decide, by decide⟩), hpos, Nat.zero_le _, by show KidsAt W [] none 0; rw [KidsAt]; trivial⟩
    clear hqs hrd hw32 hnc hcm
    go_upto_region 8 with fail
    generalize hG : w4.alloc (.cells #[.bool false, .slice Ai ms.length ci] 26) = w5 at *
    obtain ⟨hb5, hxi_5, hse5⟩ := nb hG; clear hG; obtain ⟨hk5, hs5, hz5⟩ := kd hk4 hb5; have hP5 := hP4.later hb5; have hxR_5 := kb hb5 hxR_4; have hxk_5 := kb hb5 hxk_4; have hFz_5 := hFz_4.later hb5 (Old.nn X _); obtain ⟨tx, htx⟩ : ∃ tx, (hd e l).text = tx := ⟨_, rfl⟩; simp only [htx] at hz h45; have o6 : (((tx[0].toNat : Nat) : Int) == 45) = false := by refine beq_eq_false_iff_ne.2 fun h => h45 ?_; exact UInt8.toNat_inj.1 (by simpa using Int.ofNat_inj.1 h)
    clear h45; obtain ⟨q0, q1, q2⟩ := bx_three hxk_5; go_wp2_with fail
    go_at_call 177
    clear q0 q1 q2
    refine (pass_ok hP5).mono ?_
    rintro E w6 ⟨rfl, hP6, hq⟩; obtain ⟨hk6, hs6, hz6⟩ := kc hk5 hq; have hxR_6 := kx hq hxR_5; have hxk_6 := kx hq hxk_5; have hxi_6 := kx hq hxi_5; have hFz_6 := hFz_5.kp hq (Old.nn X _) lq17; unfold tokA; obtain ⟨q0, q1, q2⟩ := bx_three hxk_6; obtain ⟨j0, j1⟩ := bx_two hxi_6; obtain ⟨k0, k1, k2, k3, k4, k5⟩ := bx_cells hxR_6; have z := Lib.frozen_of_heap hxR_6; have HE := Lh (show _ ∧ _ ∧ _ from ⟨hk6, hP6, hFz_6⟩); obtain ⟨r0, r1, r2, r3, r4, r5⟩ := bp hxR_6 (.int .i64 32) (.int .i64 (hd e l).pos) (.string ⟨#[]⟩) (.bool false) (.slice Ai ms.length ci) (.slice none 0 0)
    clear hxR_6 hxk_6 hxi_6 hFz_6 hk6 hP6; go_wp2_with fail
    refine bodyPost_ret (v := .agg #[.int .i64 32, .int .i64 (hd e l).pos, .string ⟨#[]⟩, .bool false, .slice Ai ms.length ci, .slice none 0 0]) lq5 rfl ?_
    exact lv74
  ·have o3 : ((hd e l).kind == 3) = false := by simpa using h3
   by_cases h4 : (hd e l).kind = 4
   ·rw [atom_4 h4] at hR; have o4 : ((hd e l).kind == 4) = true := by simpa using h4
    clear h1 h3 h4; obtain ⟨q0, q1, q2⟩ := bx_three hxk_3; have htb := hP3.tabs; go_wp2_with fail
    go_at_call 219
    clear q0 q1 q2
    refine (hD.good _ _ hts htb).mono ?_
    rintro E w4 ⟨hE, hq⟩; clear htb
    rcases hg : gB (hd e l).text with _ | _
    ·rw [hg] at hE hR; subst hE; simp only [Bool.false_eq_true, if_false] at hR; obtain ⟨hk4, hs4, hz4⟩ := kd hk3 hq; have hP4 := hP3.later hq; have hxR_4 := kb hq hxR_3; have hxk_4 := kb hq hxk_3; go_wp2_with fail
     go_at_call 182
     refine (wrong_ok hP4).mono ?_
     rintro E w5 ⟨rfl, hq⟩; go_wp2_with fail; exact ⟨rfl, retBad (hk4.below (Nat.le_refl _) hq) hR.symm⟩
    ·rw [hg] at hE hR; subst hE; simp only [if_true] at hR; obtain ⟨hk4, hs4, hz4⟩ := kd hk3 hq; have hP4 := hP3.later hq; have hxR_4 := kb hq hxR_3; have hxk_4 := kb hq hxk_3; go_wp2_with fail
     go_at_call 177
     refine (pass_ok hP4).mono ?_
     rintro E w5 ⟨rfl, hP5, hq⟩; obtain ⟨hk5, hs5, hz5⟩ := kc hk4 hq; have hxR_5 := kx hq hxR_4; have hxk_5 := kx hq hxk_4; unfold tokA; obtain ⟨q0, q1, q2⟩ := bx_three hxk_5; have hFz_5 := (RowS.nil Nn (w.heap.size + 1) X w5).node (k := 33) (p := (hd e l).pos) (t := (hd e l).text) ⟨by decide, by decide⟩ hpos htm false; go_wp2_with fail
     go_at_call 54
     refine (node_okA _ _ _ _ _ _ _).mono ?_
     rintro E w6 ⟨rfl, hq⟩; obtain ⟨hk6, hs6, hz6⟩ := kd hk5 hq; have hP6 := hP5.later hq; have hxR_6 := kb hq hxR_5; have hxk_6 := kb hq hxk_5; have hFz_6 := hFz_5.later hq (Old.nn X _); clear q0 q1 q2; obtain ⟨k0, k1, k2, k3, k4, k5⟩ := bx_cells hxR_6; have z := Lib.frozen_of_heap hxR_6; have HE := Lh (show _ ∧ _ ∧ _ from ⟨hk6, hP6, hFz_6⟩); obtain ⟨r0, r1, r2, r3, r4, r5⟩ := bp hxR_6 (.int .i64 33) (.int .i64 ((hd e l).pos)) (.string ((hd e l).text)) (.bool false) (.slice none 0 0) (.slice none 0 0); clear hxR_6 hFz_6 hk6 hP6; go_wp2_with fail
     refine bodyPost_ret (v := .agg #[.int .i64 33, .int .i64 ((hd e l).pos), .string ((hd e l).text), .bool false, .slice none 0 0, .slice none 0 0]) lq5 rfl ?_
     exact lv74
   ·have o4 : ((hd e l).kind == 4) = false := by simpa using h4
    rw [atom_x h1 h3 h4] at hR; clear h1 h3 h4; have hb : [⟨#[78, 111, 110, 101]⟩, ⟨#[84, 114, 117, 101]⟩, ⟨#[70, 97, 108, 115, 101]⟩].any (sameB wB (hd e l)) = (isW e ⟨#[78, 111, 110, 101]⟩ l || isW e ⟨#[84, 114, 117, 101]⟩ l || isW e ⟨#[70, 97, 108, 115, 101]⟩ l) := by simp [sameW hC.w_None, sameW hC.w_True, sameW hC.w_False, Bool.or_assoc]
    obtain ⟨b, hbb⟩ : ∃ b, (isW e ⟨#[78, 111, 110, 101]⟩ l || isW e ⟨#[84, 114, 117, 101]⟩ l || isW e ⟨#[70, 97, 108, 115, 101]⟩ l) = b := ⟨_, rfl⟩; rw [hbb] at hb hR; have hI := Lh (isL_ok hD hP3 [⟨#[78, 111, 110, 101]⟩, ⟨#[84, 114, 117, 101]⟩, ⟨#[70, 97, 108, 115, 101]⟩] #[.string ⟨#[78, 111, 110, 101]⟩, .string ⟨#[84, 114, 117, 101]⟩, .string ⟨#[70, 97, 108, 115, 101]⟩] 3 b rfl rfl lq16 hb); clear hb hbb; obtain ⟨q0, q1, q2⟩ := bx_three hxk_3; go_wp2_with fail
    go_at_call 176
    clear q0 q1 q2
    refine hI.out.mono ?_
    rintro E w4 ⟨hE, hP4, hq⟩; clear hI
    rcases hE with ⟨rfl, rfl⟩ | ⟨rfl, rfl⟩
    ·simp only [if_true] at hR; obtain ⟨hk4, hs4, hz4⟩ := kc hk3 hq; have hxR_4 := kx hq hxR_3; have hxk_4 := kx hq hxk_3
     go_upto_region 18 with fail
     refine region_anyZ (fun W => W.heap[w2.heap.size]? = some (.cells #[.int .i64 (hd e l).kind, .string (hd e l).text, .int .i64 (hd e l).pos] 39)) 6 lq15 ?_
     refine zt 0 (.pointer (some ⟨w2.heap.size, 2, none⟩)) rfl (Or.inl ⟨by rfl, ?_⟩) hxk_4 ?_
     ·exact lv59
     try simp only [Act.put, xA, xB, xC]
     refine zt 1 (.int .i64 (hd e l).pos) rfl (Or.inl ⟨by rfl, ?_⟩) hxk_4 ?_
     ·exact lv59
     try simp only [Act.put, xA, xB, xC]
     refine zt 2 (.pointer (some ⟨X, 0, none⟩)) rfl (Or.inl ⟨by rfl, ?_⟩) hxk_4 ?_
     ·exact lv59
     try simp only [Act.put, xA, xB, xC]
     refine zo 3 rfl fun K hK => ?_
     go_simp
     go_at_call 177
     refine (pass_ok (hP4.later (bl_drew (Below.refl _ _)))).mono ?_
     rintro E w5 ⟨rfl, hP5, hq⟩; have hq := kp_undrew hq; have hdr5 : w4.drew.heap.size = w4.heap.size := rfl; obtain ⟨hk5, hs5, hz5⟩ := kc hk4 hq; have hxR_5 := kx hq hxR_4; have hxk_5 := kx hq hxk_4; unfold tokA
     refine hK.out _ _ (fun _ => hxk_5) ?_
     clear hK K
     try simp only [Act.put, xA, xB, xC]
     have F1x := tfield1 (hd e l).kind (hd e l).text (hd e l).pos
     refine zt 4 (.string (hd e l).text) rfl (Or.inl ⟨by rfl, ?_⟩) hxk_5 ?_
     ·exact lv59
     try simp only [Act.put, xA, xB, xC]
     have hFz_5 := (RowS.nil Nn (w.heap.size + 1) X w5).node (k := 34) (p := (hd e l).pos) (t := (hd e l).text) ⟨by decide, by decide⟩ hpos htm false
     refine zo 5 rfl fun K hK => ?_
     go_simp
     go_at_call 54
     refine (node_okA _ _ _ _ _ _ _).mono ?_
     rintro E w6 ⟨rfl, hq⟩; obtain ⟨hk6, hs6, hz6⟩ := kd hk5 hq; have hP6 := hP5.later hq; have hxR_6 := kb hq hxR_5; have hxk_6 := kb hq hxk_5; have hFz_6 := hFz_5.later hq (Old.nn X _)
     refine hK.out _ _ (fun _ => hxk_6) ?_
     clear hK K
     try simp only [Act.put, xA, xB, xC]
     obtain ⟨k0, k1, k2, k3, k4, k5⟩ := bx_cells hxR_6; have z := Lib.frozen_of_heap hxR_6
     refine zo 6 rfl fun K hK => ?_
     go_simp
     refine hK.out _ _ (fun h => absurd rfl h) ?_
     clear hK K k0 k1 k2 k3 k4 k5 z
     try simp only [Act.put, xA, xB, xC]
     refine anyZ_end lq15 ?_ _
     have HE := Lh (show _ ∧ _ ∧ _ from ⟨hk6, hP6, hFz_6⟩); obtain ⟨r0, r1, r2, r3, r4, r5⟩ := bp hxR_6 (.int .i64 34) (.int .i64 ((hd e l).pos)) (.string ((hd e l).text)) (.bool false) (.slice none 0 0) (.slice none 0 0); clear hxR_6 hFz_6 hk6 hP6; go_wp2_with fail
     refine bodyPost_ret (v := .agg #[.int .i64 34, .int .i64 ((hd e l).pos), .string ((hd e l).text), .bool false, .slice none 0 0, .slice none 0 0]) lq5 rfl ?_
     exact lv74
    ·simp only [Bool.false_eq_true, if_false] at hR; obtain ⟨hk4, hs4, hz4⟩ := kc hk3 hq; have hxR_4 := kx hq hxR_3; have hxk_4 := kx hq hxk_3; go_wp2_with fail
     go_at_call 98
     refine (takeS_ok hD hC.s_28 hP4).mono ?_
     rintro E w5 hE
     rcases hE with ⟨hv, rfl, hP5, hq⟩ | ⟨hv, rfl, hP5, hq⟩
     ·simp only [hv, if_true, yO, yA] at hR; obtain ⟨hk5, hs5, hz5⟩ := kc hk4 hq; have hxR_5 := kx hq hxR_4; have hxk_5 := kx hq hxk_4; obtain ⟨q0, q1, q2⟩ := bx_three hxk_5; have n1 := ne_tail hR hne; go_wp2_with fail
      go_at_call 285
      clear q0 q1 q2
      refine (HA.pround (hd e l).pos X _ _ hpos hP5 n1).mono ?_
      rintro E w6 hE
      rcases hE with ⟨cc, aa, hv, rfl, hq⟩ | ⟨T1, l1, A1, c1, K1, d1, hv, rfl, hP6, hF1_6, hq⟩
      ·exact lv63
      rw [hv] at hR; clear hv n1; have hF1_6 := hF1_6.intoN (P := Nn) (lo := w.heap.size + 1) (x := X) lq17 lq17; obtain ⟨hk6, hs6, hz6⟩ := kc hk5 hq; have hxR_6 := kx hq hxR_5; have hxk_6 := kx hq hxk_5; unfold ndV; have HE := Lh (show _ ∧ _ ∧ _ from ⟨hk6, hP6, hF1_6⟩); obtain ⟨k0, k1, k2, k3, k4, k5⟩ := bx_cells hxR_6; have z := Lib.frozen_of_heap hxR_6; obtain ⟨r0, r1, r2, r3, r4, r5⟩ := bp hxR_6 (.int .i64 T1.kind) (.int .i64 T1.pos) (.string T1.text) (.bool T1.neg) (.slice A1 T1.mag.length c1) (.slice K1 T1.kids.length d1); clear hxR_6 hF1_6 hk6 hP6; exact lv52
     ·simp only [hv, yF, if_false, yO, yA] at hR; obtain ⟨hk5, hs5, hz5⟩ := kc hk4 hq; have hxR_5 := kx hq hxR_4; have hxk_5 := kx hq hxk_4; go_wp2_with fail
      go_at_call 98
      refine (takeS_ok hD hC.s_5b hP5).mono ?_
      rintro E w6 hE
      rcases hE with ⟨hv, rfl, hP6, hq⟩ | ⟨hv, rfl, hP6, hq⟩
      ·simp only [hv, if_true, yO, yA] at hR; obtain ⟨hk6, hs6, hz6⟩ := kc hk5 hq; have hxR_6 := kx hq hxR_5; have hxk_6 := kx hq hxk_5; obtain ⟨q0, q1, q2⟩ := bx_three hxk_6; have n1 := ne_tail hR hne; go_wp2_with fail
       go_at_call 286
       clear q0 q1 q2
       refine (HA.psquare (hd e l).pos X _ _ hpos hP6 n1).mono ?_
       rintro E w7 hE
       rcases hE with ⟨cc, aa, hv, rfl, hq⟩ | ⟨T1, l1, A1, c1, K1, d1, hv, rfl, hP7, hF1_7, hq⟩
       ·exact lv65
       rw [hv] at hR; clear hv n1; have hF1_7 := hF1_7.intoN (P := Nn) (lo := w.heap.size + 1) (x := X) lq17 lq17; obtain ⟨hk7, hs7, hz7⟩ := kc hk6 hq; have hxR_7 := kx hq hxR_6; have hxk_7 := kx hq hxk_6; unfold ndV; have HE := Lh (show _ ∧ _ ∧ _ from ⟨hk7, hP7, hF1_7⟩); obtain ⟨k0, k1, k2, k3, k4, k5⟩ := bx_cells hxR_7; have z := Lib.frozen_of_heap hxR_7; obtain ⟨r0, r1, r2, r3, r4, r5⟩ := bp hxR_7 (.int .i64 T1.kind) (.int .i64 T1.pos) (.string T1.text) (.bool T1.neg) (.slice A1 T1.mag.length c1) (.slice K1 T1.kids.length d1); clear hxR_7 hF1_7 hk7 hP7; exact lv52
      ·simp only [hv, yF, if_false, yO, yA] at hR; obtain ⟨hk6, hs6, hz6⟩ := kc hk5 hq; have hxR_6 := kx hq hxR_5; have hxk_6 := kx hq hxk_5; go_wp2_with fail
       go_at_call 98
       refine (takeS_ok hD hC.s_7b hP6).mono ?_
       rintro E w7 hE
       rcases hE with ⟨hv, rfl, hP7, hq⟩ | ⟨hv, rfl, hP7, hq⟩
       ·simp only [hv, if_true, yO, yA] at hR; obtain ⟨hk7, hs7, hz7⟩ := kc hk6 hq; have hxR_7 := kx hq hxR_6; have hxk_7 := kx hq hxk_6; obtain ⟨q0, q1, q2⟩ := bx_three hxk_7; have n1 := ne_tail hR hne; go_wp2_with fail
        go_at_call 287
        clear q0 q1 q2
        refine (HA.pcurly (hd e l).pos X _ _ hpos hP7 n1).mono ?_
        rintro E w8 hE
        rcases hE with ⟨cc, aa, hv, rfl, hq⟩ | ⟨T1, l1, A1, c1, K1, d1, hv, rfl, hP8, hF1_8, hq⟩
        ·exact lv64
        rw [hv] at hR; clear hv n1; have hF1_8 := hF1_8.intoN (P := Nn) (lo := w.heap.size + 1) (x := X) lq17 lq17; obtain ⟨hk8, _, _⟩ := kc hk7 hq; have hxR_8 := kx hq hxR_7; have hxk_8 := kx hq hxk_7; unfold ndV; have HE := Lh (show _ ∧ _ ∧ _ from ⟨hk8, hP8, hF1_8⟩); obtain ⟨k0, k1, k2, k3, k4, k5⟩ := bx_cells hxR_8; have z := Lib.frozen_of_heap hxR_8; obtain ⟨r0, r1, r2, r3, r4, r5⟩ := bp hxR_8 (.int .i64 T1.kind) (.int .i64 T1.pos) (.string T1.text) (.bool T1.neg) (.slice A1 T1.mag.length c1) (.slice K1 T1.kids.length d1); clear hxR_8 hF1_8 hk8 hP8; exact lv52
       ·simp only [hv, yF, if_false, yO, yA] at hR; obtain ⟨hk7, hs7, hz7⟩ := kc hk6 hq; have hxR_7 := kx hq hxR_6; have hxk_7 := kx hq hxk_6; go_wp2_with fail
        go_at_call 182
        refine (wrong_ok hP7).mono ?_
        rintro E w8 ⟨rfl, hq⟩; go_wp2_with fail; exact ⟨rfl, retBad (hk7.below (Nat.le_refl _) hq) hR.symm⟩
end
end
end Go.Proofs.YtjndbcnmmnkilaaGreatDoor
