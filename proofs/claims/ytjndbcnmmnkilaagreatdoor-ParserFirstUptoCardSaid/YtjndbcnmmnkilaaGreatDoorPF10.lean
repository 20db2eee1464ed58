/- Joined by a program: Pe1, Pe2. -/
import Derived.Test.YtjndbcnmmnkilaaGreatDoorPF08
namespace Go.Proofs.YtjndbcnmmnkilaaGreatDoor
set_option linter.unusedVariables false
set_option linter.unusedSimpArgs false
set_option maxRecDepth 1000000
set_option maxHeartbeats 16000000
section
open Go.RowKit
open List (length_append length_cons length_nil length_singleton)
section
variable {wB nB gB : ByteArray → Bool} {nO : ByteArray → Option (List Int)} {e : Int} {p : Ps}
theorem pNot_ok (hD : Deps wB nB gB nO) (hC : Cst wB) (HA : PA e p) : CN e 283 (fun l => s_not e p l) := by
 intro X l w hP0 hne
 obtain ⟨R, hR⟩ : ∃ R, s_not e p l = R := ⟨_, rfl⟩
 simp only [hR] at hne ⊢
 unfold s_not at hR
 have hXl := hP0.lt
 have hk0 : Kp w.heap.size X w w := Kp.refl _ _ _
 have hz0 := hk0.size
 have hpos := hP0.hd.2.1
 go_enter Tryz.func283, Tryz.ntmps283
 go_upto_region 1 with fail
 generalize hG : w.alloc zN = w1 at *
 obtain ⟨hb1, hxR_1, _⟩ := nb hG
 clear hG
 obtain ⟨hk1, _, _⟩ := kd hk0 hb1
 have hP1 := hP0.later hb1
 go_wp2_with fail
 go_at_call 55
 refine (next_ok hP1).mono ?_
 rintro E w2 ⟨rfl, hq⟩
 obtain ⟨hk2, _, _⟩ := kd hk1 hq
 have hP2 := hP1.later hq
 have hxR_2 := kb hq hxR_1
 have F2_2 := tfield2 (hd e l).kind (hd e l).text (hd e l).pos
 unfold tokA
 go_wp2_with fail
 go_at_call 98
 refine (takeW_ok hD hC.w_not hP2).mono ?_
 rintro E w3 hE
 rcases hE with ⟨hv, rfl, hP3, hq⟩ | ⟨hv, rfl, hP3, hq⟩
 ·simp only [hv, if_true, yO, yA] at hR; obtain ⟨hk3, hs3, hz3⟩ := kc hk2 hq; have hxR_3 := kx hq hxR_2; have n1 := Rs.ne_of hR hne; go_wp2_with fail
  go_at_call 283
  refine (HA.pnot X _ _ hP3 n1).mono ?_
  rintro E w4 hE
  rcases hE with ⟨cc, aa, hv, rfl, hq⟩ | ⟨T1, l1, A1, c1, K1, d1, hv, rfl, hP4, hF1_4, hq⟩
  ·exact lv60
  rw [hv] at hR; simp only [yO, yA] at hR; clear hv n1; have hF1_4 := hF1_4.intoN (P := Nn) (lo := w.heap.size + 1) (x := X) lq17 lq17; obtain ⟨hk4, hs4, hz4⟩ := kc hk3 hq; have hxR_4 := kx hq hxR_3; unfold ndV; go_wp2_with fail
  have hro := row_made (P := Nn) (lo := w.heap.size + 1) (x := X) (X := X) w4 [⟨T1, A1, c1, K1, d1⟩] #[.int .i64 T1.kind, .int .i64 T1.pos, .string T1.text, .bool T1.neg, .slice A1 T1.mag.length c1, .slice K1 T1.kids.length d1] 1 rfl rfl lq17 lq17 lq16 (Old.nn X _) (by
   intro q hq; simp only [List.mem_cons, List.not_mem_nil, or_false] at hq
   rcases hq with rfl <;> assumption)
  generalize hG : w4.alloc (oN T1 A1 c1 K1 d1) = w5 at *
  obtain ⟨hb5, _, _⟩ := nb hG; clear hG; obtain ⟨hk5, _, _⟩ := kd hk4 hb5; have hP5 := hP4.later hb5; have hxR_5 := kb hb5 hxR_4; have hF1_5 := hF1_4.later hb5 (Old.nn X _); have hFz_5 := hro.node (k := 47) (p := (hd e l).pos) (t := ⟨#[]⟩) ⟨by decide, by decide⟩ hpos lq16 false; clear hro; go_wp2_with fail
  go_at_call 54
  refine (node_okA _ _ _ _ _ _ _).mono ?_
  rintro E w6 ⟨rfl, hq⟩; obtain ⟨hk6, _, _⟩ := kd hk5 hq; have hP6 := hP5.later hq; have hxR_6 := kb hq hxR_5; have hF1_6 := hF1_5.later hq (Old.nn X _); have hFz_6 := hFz_5.later hq (Old.nn X _); obtain ⟨k0, k1, k2, k3, k4, k5⟩ := bx_cells hxR_6; have z := Lib.frozen_of_heap hxR_6; have HE := Lh (show _ ∧ _ ∧ _ from ⟨hk6, hP6, hFz_6⟩); obtain ⟨r0, r1, r2, r3, r4, r5⟩ := bp hxR_6 (.int .i64 47) (.int .i64 ((hd e l).pos)) (.string ⟨#[]⟩) (.bool false) (.slice none 0 0) (.slice (some ⟨w4.heap.size, 0, none⟩) 1 1); clear hxR_6 hF1_6 hFz_6 hk6 hP6; go_wp2_with fail
  refine bodyPost_ret (v := .agg #[.int .i64 47, .int .i64 ((hd e l).pos), .string ⟨#[]⟩, .bool false, .slice none 0 0, .slice (some ⟨w4.heap.size, 0, none⟩) 1 1]) (by simp [results, Tryz.results283, go_sem, r0, r1, r2, r3, r4, r5, ndV]) rfl ?_
  exact lv74
 ·simp only [hv, yF, if_false, yO, yA] at hR; obtain ⟨hk3, hs3, hz3⟩ := kc hk2 hq; have hxR_3 := kx hq hxR_2; have n1 := ne_tail hR hne; go_wp2_with fail
  go_at_call 314
  refine (HA.pcompare X _ _ hP3 n1).mono ?_
  rintro E w4 hE
  rcases hE with ⟨cc, aa, hv, rfl, hq⟩ | ⟨T1, l1, A1, c1, K1, d1, hv, rfl, hP4, hF1_4, hq⟩
  ·exact lv60
  rw [hv] at hR; clear hv n1; have hF1_4 := hF1_4.intoN (P := Nn) (lo := w.heap.size + 1) (x := X) lq17 lq17; obtain ⟨hk4, hs4, hz4⟩ := kc hk3 hq; have hxR_4 := kx hq hxR_3; unfold ndV; have HE := Lh (show _ ∧ _ ∧ _ from ⟨hk4, hP4, hF1_4⟩); obtain ⟨k0, k1, k2, k3, k4, k5⟩ := bx_cells hxR_4; have z := Lib.frozen_of_heap hxR_4; obtain ⟨r0, r1, r2, r3, r4, r5⟩ := bp hxR_4 (.int .i64 T1.kind) (.int .i64 T1.pos) (.string T1.text) (.bool T1.neg) (.slice A1 T1.mag.length c1) (.slice K1 T1.kids.length d1); clear hxR_4 hF1_4 hk4 hP4; go_wp2_with fail
  refine bodyPost_ret (v := ndV T1 A1 c1 K1 d1) (by simp [results, Tryz.results283, go_sem, r0, r1, r2, r3, r4, r5, ndV]) rfl ?_
  exact lv74
theorem pMinus_ok (hD : Deps wB nB gB nO) (hC : Cst wB) (HA : PA e p) : CN e 340 (fun l => s_minus e p l) := by
 intro X l w hP0 hne
 obtain ⟨R, hR⟩ : ∃ R, s_minus e p l = R := ⟨_, rfl⟩
 simp only [hR] at hne ⊢
 unfold s_minus at hR
 have hXl := hP0.lt
 have hk0 : Kp w.heap.size X w w := Kp.refl _ _ _
 have hz0 := hk0.size
 have hpos := hP0.hd.2.1
 go_enter Tryz.func340, Tryz.ntmps340
 go_upto_region 1 with fail
 generalize hG : w.alloc zN = w1 at *
 obtain ⟨hb1, hxR_1, _⟩ := nb hG
 clear hG
 obtain ⟨hk1, _, _⟩ := kd hk0 hb1
 have hP1 := hP0.later hb1
 go_wp2_with fail
 go_at_call 55
 refine (next_ok hP1).mono ?_
 rintro E w2 ⟨rfl, hq⟩
 obtain ⟨hk2, _, _⟩ := kd hk1 hq
 have hP2 := hP1.later hq
 have hxR_2 := kb hq hxR_1
 have F2_2 := tfield2 (hd e l).kind (hd e l).text (hd e l).pos
 unfold tokA
 go_wp2_with fail
 go_at_call 98
 refine (takeS_ok hD hC.s_2d hP2).mono ?_
 rintro E w3 hE
 rcases hE with ⟨hv, rfl, hP3, hq⟩ | ⟨hv, rfl, hP3, hq⟩
 ·simp only [hv, if_true, yO, yA] at hR; obtain ⟨hk3, hs3, hz3⟩ := kc hk2 hq; have hxR_3 := kx hq hxR_2; have n1 := Rs.ne_of hR hne; go_wp2_with fail
  go_at_call 340
  refine (HA.pminus X _ _ hP3 n1).mono ?_
  rintro E w4 hE
  rcases hE with ⟨cc, aa, hv, rfl, hq⟩ | ⟨T1, l1, A1, c1, K1, d1, hv, rfl, hP4, hF1_4, hq⟩
  ·exact lv60
  rw [hv] at hR; simp only [yO, yA] at hR; clear hv n1; have hF1_4 := hF1_4.intoN (P := Nn) (lo := w.heap.size + 1) (x := X) lq17 lq17; obtain ⟨hk4, hs4, hz4⟩ := kc hk3 hq; have hxR_4 := kx hq hxR_3; unfold ndV; go_wp2_with fail
  have hro := row_made (P := Nn) (lo := w.heap.size + 1) (x := X) (X := X) w4 [⟨T1, A1, c1, K1, d1⟩] #[.int .i64 T1.kind, .int .i64 T1.pos, .string T1.text, .bool T1.neg, .slice A1 T1.mag.length c1, .slice K1 T1.kids.length d1] 1 rfl rfl lq17 lq17 lq16 (Old.nn X _) (by
   intro q hq; simp only [List.mem_cons, List.not_mem_nil, or_false] at hq
   rcases hq with rfl <;> assumption)
  generalize hG : w4.alloc (oN T1 A1 c1 K1 d1) = w5 at *
  obtain ⟨hb5, _, _⟩ := nb hG; clear hG; obtain ⟨hk5, _, _⟩ := kd hk4 hb5; have hP5 := hP4.later hb5; have hxR_5 := kb hb5 hxR_4; have hF1_5 := hF1_4.later hb5 (Old.nn X _); have hFz_5 := hro.node (k := 50) (p := (hd e l).pos) (t := ⟨#[]⟩) ⟨by decide, by decide⟩ hpos lq16 false; clear hro; go_wp2_with fail
  go_at_call 54
  refine (node_okA _ _ _ _ _ _ _).mono ?_
  rintro E w6 ⟨rfl, hq⟩; obtain ⟨hk6, _, _⟩ := kd hk5 hq; have hP6 := hP5.later hq; have hxR_6 := kb hq hxR_5; have hF1_6 := hF1_5.later hq (Old.nn X _); have hFz_6 := hFz_5.later hq (Old.nn X _); obtain ⟨k0, k1, k2, k3, k4, k5⟩ := bx_cells hxR_6; have z := Lib.frozen_of_heap hxR_6; have HE := Lh (show _ ∧ _ ∧ _ from ⟨hk6, hP6, hFz_6⟩); obtain ⟨r0, r1, r2, r3, r4, r5⟩ := bp hxR_6 (.int .i64 50) (.int .i64 ((hd e l).pos)) (.string ⟨#[]⟩) (.bool false) (.slice none 0 0) (.slice (some ⟨w4.heap.size, 0, none⟩) 1 1); clear hxR_6 hF1_6 hFz_6 hk6 hP6; go_wp2_with fail
  refine bodyPost_ret (v := .agg #[.int .i64 50, .int .i64 ((hd e l).pos), .string ⟨#[]⟩, .bool false, .slice none 0 0, .slice (some ⟨w4.heap.size, 0, none⟩) 1 1]) (by simp [results, Tryz.results340, go_sem, r0, r1, r2, r3, r4, r5, ndV]) rfl ?_
  exact lv74
 ·simp only [hv, yF, if_false, yO, yA] at hR; obtain ⟨hk3, hs3, hz3⟩ := kc hk2 hq; have hxR_3 := kx hq hxR_2; have n1 := ne_tail hR hne; go_wp2_with fail
  go_at_call 180
  refine (HA.ppostfix X _ _ hP3 n1).mono ?_
  rintro E w4 hE
  rcases hE with ⟨cc, aa, hv, rfl, hq⟩ | ⟨T1, l1, A1, c1, K1, d1, hv, rfl, hP4, hF1_4, hq⟩
  ·exact lv60
  rw [hv] at hR; clear hv n1; have hF1_4 := hF1_4.intoN (P := Nn) (lo := w.heap.size + 1) (x := X) lq17 lq17; obtain ⟨hk4, hs4, hz4⟩ := kc hk3 hq; have hxR_4 := kx hq hxR_3; unfold ndV; have HE := Lh (show _ ∧ _ ∧ _ from ⟨hk4, hP4, hF1_4⟩); obtain ⟨k0, k1, k2, k3, k4, k5⟩ := bx_cells hxR_4; have z := Lib.frozen_of_heap hxR_4; obtain ⟨r0, r1, r2, r3, r4, r5⟩ := bp hxR_4 (.int .i64 T1.kind) (.int .i64 T1.pos) (.string T1.text) (.bool T1.neg) (.slice A1 T1.mag.length c1) (.slice K1 T1.kids.length d1); clear hxR_4 hF1_4 hk4 hP4; go_wp2_with fail
  refine bodyPost_ret (v := ndV T1 A1 c1 K1 d1) (by simp [results, Tryz.results340, go_sem, r0, r1, r2, r3, r4, r5, ndV]) rfl ?_
  exact lv74
theorem pExpr_ok (hD : Deps wB nB gB nO) (hC : Cst wB) (HA : PA e p) : CN e 100 (fun l => s_expr e p l) := by
 intro X l w hP0 hne
 obtain ⟨R, hR⟩ : ∃ R, s_expr e p l = R := ⟨_, rfl⟩
 simp only [hR] at hne ⊢
 unfold s_expr at hR
 have hXl := hP0.lt
 have hk0 : Kp w.heap.size X w w := Kp.refl _ _ _
 have hz0 := hk0.size
 go_enter Tryz.func100, Tryz.ntmps100
 go_upto_region 1 with fail
 generalize hG : w.alloc zN = w1 at *
 obtain ⟨hb1, hxR_1, _⟩ := nb hG
 clear hG
 obtain ⟨hk1, _, _⟩ := kd hk0 hb1
 have hP1 := hP0.later hb1
 have n1 := Rs.ne_of hR hne
 go_wp2_with fail
 go_at_call 179
 refine (HA.por X _ _ hP1 n1).mono ?_
 rintro E w2 hE
 rcases hE with ⟨cc, aa, hv, rfl, hq⟩ | ⟨T1, l1, A1, c1, K1, d1, hv, rfl, hP2, hF1_2, hq⟩
 ·exact lv61
 rw [hv] at hR
 simp only [yO, yA] at hR
 clear hv n1
 have hF1_2 := hF1_2.intoN (P := Nn) (lo := w.heap.size + 1) (x := X) lq17 lq17
 obtain ⟨hk2, _, _⟩ := kc hk1 hq
 have hxR_2 := kx hq hxR_1
 unfold ndV
 go_upto_region 2 with fail
 generalize hG : w2.alloc (oN T1 A1 c1 K1 d1) = w3 at *
 obtain ⟨hb3, hxn_3, _⟩ := nb hG
 clear hG
 obtain ⟨hk3, _, _⟩ := kd hk2 hb3
 have hP3 := hP2.later hb3
 have hxR_3 := kb hb3 hxR_2
 have hF1_3 := hF1_2.later hb3 (Old.nn X _)
 go_wp2_with fail
 go_at_call 98
 refine (takeW_ok hD hC.w_if hP3).mono ?_
 rintro E w4 hE
 rcases hE with ⟨hv, rfl, hP4, hq⟩ | ⟨hv, rfl, hP4, hq⟩
 ·simp only [hv, if_true, yO, yA] at hR; obtain ⟨hk4, hs4, hz4⟩ := kc hk3 hq; have hxR_4 := kx hq hxR_3; have hxn_4 := kx hq hxn_3; have hF1_4 := hF1_3.kp hq (Old.nn X _) lq17; have n1 := Rs.ne_of hR hne; go_wp2_with fail
  go_at_call 179
  refine (HA.por X _ _ hP4 n1).mono ?_
  rintro E w5 hE
  rcases hE with ⟨cc, aa, hv, rfl, hq⟩ | ⟨T2, l2, A2, c2, K2, d2, hv, rfl, hP5, hF2_5, hq⟩
  ·exact lv62
  rw [hv] at hR; simp only [yO, yA] at hR; clear hv n1; have hF2_5 := hF2_5.intoN (P := Nn) (lo := w.heap.size + 1) (x := X) lq17 lq17; obtain ⟨hk5, _, _⟩ := kc hk4 hq; have hxR_5 := kx hq hxR_4; have hxn_5 := kx hq hxn_4; have hF1_5 := hF1_4.kp hq (Old.nn X _) lq17; unfold ndV
  go_upto_region 5 with fail
  generalize hG : w5.alloc (oN T2 A2 c2 K2 d2) = w6 at *
  obtain ⟨hb6, hxt_6, _⟩ := nb hG; clear hG; obtain ⟨hk6, _, _⟩ := kd hk5 hb6; have hP6 := hP5.later hb6; have hxR_6 := kb hb6 hxR_5; have hxn_6 := kb hb6 hxn_5; have hF1_6 := hF1_5.later hb6 (Old.nn X _); have hF2_6 := hF2_5.later hb6 (Old.nn X _); go_wp2_with fail
  go_at_call 103
  refine (needW_ok hD hC.w_else hP6).mono ?_
  rintro E w7 hE
  rcases hE with ⟨hv, rfl, hP7, hq⟩ | ⟨hv, rfl, hq⟩
  rotate_left 1
  ·simp only [needW, hv, Bool.false_eq_true, if_false, Rs.bind_bad] at hR; go_wp2_with fail; exact ⟨rfl, retBad (hk6.call (Nat.le_refl _) hq) hR.symm⟩
  simp only [needW, hv, if_true, Rs.bind_ok, Rs.bind_assoc] at hR; obtain ⟨hk7, _, _⟩ := kc hk6 hq; have hxR_7 := kx hq hxR_6; have hxn_7 := kx hq hxn_6; have hxt_7 := kx hq hxt_6; have hF1_7 := hF1_6.kp hq (Old.nn X _) lq17; have hF2_7 := hF2_6.kp hq (Old.nn X _) lq17; have n1 := Rs.ne_of hR hne
  go_upto_region 6 with fail
  refine region_anyZ (fun W => W.heap[w2.heap.size]? = some (.cells #[.int .i64 T1.kind, .int .i64 T1.pos, .string T1.text, .bool T1.neg, .slice A1 T1.mag.length c1, .slice K1 T1.kids.length d1] 29) ∧ W.heap[w5.heap.size]? = some (.cells #[.int .i64 T2.kind, .int .i64 T2.pos, .string T2.text, .bool T2.neg, .slice A2 T2.mag.length c2, .slice K2 T2.kids.length d2] 29)) 8 lq15 ?_
  refine zt 0 (.pointer (some ⟨w2.heap.size, 1, none⟩)) rfl (Or.inl ⟨by rfl, ?_⟩) ⟨hxn_7, hxt_7⟩ ?_
  ·exact lv42
  try simp only [Act.put, xA, xB, xC]
  refine zt 1 (.int .i64 T1.pos) rfl (Or.inl ⟨by rfl, ?_⟩) ⟨hxn_7, hxt_7⟩ ?_
  ·exact lv42
  try simp only [Act.put, xA, xB, xC]
  refine zt 2 (.agg #[.int .i64 T1.kind, .int .i64 T1.pos, .string T1.text, .bool T1.neg, .slice A1 T1.mag.length c1, .slice K1 T1.kids.length d1]) rfl (Or.inl ⟨by rfl, ?_⟩) ⟨hxn_7, hxt_7⟩ ?_
  ·exact lv42
  try simp only [Act.put, xA, xB, xC]
  refine zt 3 (.agg #[.int .i64 T2.kind, .int .i64 T2.pos, .string T2.text, .bool T2.neg, .slice A2 T2.mag.length c2, .slice K2 T2.kids.length d2]) rfl (Or.inl ⟨by rfl, ?_⟩) ⟨hxn_7, hxt_7⟩ ?_
  ·exact lv42
  try simp only [Act.put, xA, xB, xC]
  refine zt 4 (.pointer (some ⟨X, 0, none⟩)) rfl (Or.inl ⟨by rfl, ?_⟩) ⟨hxn_7, hxt_7⟩ ?_
  ·exact lv42
  try simp only [Act.put, xA, xB, xC]
  refine zo 5 rfl fun K hK => ?_
  go_simp
  go_at_call 100
  refine (HA.pexpr X _ _ (hP7.later (bl_drew (Below.refl _ _))) n1).mono ?_
  rintro E w8 hE
  rcases hE with ⟨cc, aa, hv, rfl, hq⟩ | ⟨T3, l3, A3, c3, K3, d3, hv, rfl, hP8, hF3_8, hq⟩
  ·exact lv68
  rw [hv] at hR; simp only [yO, yA] at hR; clear hv n1; have hq := kp_undrew hq; have hdr8 : w7.drew.heap.size = w7.heap.size := rfl; have hF3_8 := hF3_8.intoN (P := Nn) (lo := w.heap.size + 1) (x := X) lq17 lq17; obtain ⟨hk8, _, _⟩ := kc hk7 hq; have hxR_8 := kx hq hxR_7; have hxn_8 := kx hq hxn_7; have hxt_8 := kx hq hxt_7; have hF1_8 := hF1_7.kp hq (Old.nn X _) lq17; have hF2_8 := hF2_7.kp hq (Old.nn X _) lq17; unfold ndV
  refine hK.out _ _ (fun _ => ⟨hxn_8, hxt_8⟩) ?_
  clear hK K
  try simp only [Act.put, xA, xB, xC]
  refine zo 6 rfl fun K hK => ?_
  go_simp
  have hro := row_made (P := Nn) (lo := w.heap.size + 1) (x := X) (X := X) w8 [⟨T1, A1, c1, K1, d1⟩, ⟨T2, A2, c2, K2, d2⟩, ⟨T3, A3, c3, K3, d3⟩] #[.int .i64 T1.kind, .int .i64 T1.pos, .string T1.text, .bool T1.neg, .slice A1 T1.mag.length c1, .slice K1 T1.kids.length d1, .int .i64 T2.kind, .int .i64 T2.pos, .string T2.text, .bool T2.neg, .slice A2 T2.mag.length c2, .slice K2 T2.kids.length d2, .int .i64 T3.kind, .int .i64 T3.pos, .string T3.text, .bool T3.neg, .slice A3 T3.mag.length c3, .slice K3 T3.kids.length d3] 3 rfl rfl lq17 lq17 lq16 (Old.nn X _) (by
   intro q hq; simp only [List.mem_cons, List.not_mem_nil, or_false] at hq
   rcases hq with rfl | rfl | rfl <;> assumption)
  generalize hG : w8.alloc (.cells #[.int .i64 T1.kind, .int .i64 T1.pos, .string T1.text, .bool T1.neg, .slice A1 T1.mag.length c1, .slice K1 T1.kids.length d1, .int .i64 T2.kind, .int .i64 T2.pos, .string T2.text, .bool T2.neg, .slice A2 T2.mag.length c2, .slice K2 T2.kids.length d2, .int .i64 T3.kind, .int .i64 T3.pos, .string T3.text, .bool T3.neg, .slice A3 T3.mag.length c3, .slice K3 T3.kids.length d3] 29) = w9 at *
  obtain ⟨hb9, _, _⟩ := nb hG; clear hG; obtain ⟨hk9, _, _⟩ := kd hk8 hb9; have hP9 := hP8.later hb9; have hxR_9 := kb hb9 hxR_8; have hxn_9 := kb hb9 hxn_8; have hxt_9 := kb hb9 hxt_8; have hF1_9 := hF1_8.later hb9 (Old.nn X _); have hF2_9 := hF2_8.later hb9 (Old.nn X _); have hF3_9 := hF3_8.later hb9 (Old.nn X _)
  refine hK.out _ _ (fun _ => ⟨hxn_9, hxt_9⟩) ?_
  clear hK K
  try simp only [Act.put, xA, xB, xC]
  have hFz_9 := hro.node (k := 44) (p := T1.pos) (t := ⟨#[]⟩) ⟨by decide, by decide⟩ hF1_9.now.parts.2.2.2.2.2.2.2.1 lq16 false; clear hro
  refine zo 7 rfl fun K hK => ?_
  go_simp
  go_at_call 54
  refine (node_okA _ _ _ _ _ _ _).mono ?_
  rintro E w10 ⟨rfl, hq⟩; obtain ⟨hk10, _, _⟩ := kd hk9 hq; have hP10 := hP9.later hq; have hxR_10 := kb hq hxR_9; have hxn_10 := kb hq hxn_9; have hxt_10 := kb hq hxt_9; have hF1_10 := hF1_9.later hq (Old.nn X _); have hF2_10 := hF2_9.later hq (Old.nn X _); have hF3_10 := hF3_9.later hq (Old.nn X _); have hFz_10 := hFz_9.later hq (Old.nn X _)
  refine hK.out _ _ (fun _ => ⟨hxn_10, hxt_10⟩) ?_
  clear hK K
  try simp only [Act.put, xA, xB, xC]
  obtain ⟨k0, k1, k2, k3, k4, k5⟩ := bx_cells hxR_10; have z := Lib.frozen_of_heap hxR_10
  refine zo 8 rfl fun K hK => ?_
  go_simp
  refine hK.out _ _ (fun h => absurd rfl h) ?_
  clear hK K k0 k1 k2 k3 k4 k5 z
  try simp only [Act.put, xA, xB, xC]
  refine anyZ_end lq15 ?_ _
  have HE := Lh (show _ ∧ _ ∧ _ from ⟨hk10, hP10, hFz_10⟩); obtain ⟨r0, r1, r2, r3, r4, r5⟩ := bp hxR_10 (.int .i64 44) (.int .i64 (T1.pos)) (.string ⟨#[]⟩) (.bool false) (.slice none 0 0) (.slice (some ⟨w8.heap.size, 0, none⟩) 3 3); clear hxR_10 hxn_10 hxt_10 hF1_10 hF2_10 hF3_10 hFz_10 hk10 hP10; go_wp2_with fail
  refine bodyPost_ret (v := .agg #[.int .i64 44, .int .i64 (T1.pos), .string ⟨#[]⟩, .bool false, .slice none 0 0, .slice (some ⟨w8.heap.size, 0, none⟩) 3 3]) (by simp [results, Tryz.results100, go_sem, r0, r1, r2, r3, r4, r5, ndV]) rfl ?_
  exact lv74
 ·simp only [hv, yF, if_false, yO, yA] at hR; obtain ⟨hk4, hs4, hz4⟩ := kc hk3 hq; have hxR_4 := kx hq hxR_3; have hxn_4 := kx hq hxn_3; have hF1_4 := hF1_3.kp hq (Old.nn X _) lq17; have HE := Lh (show _ ∧ _ ∧ _ from ⟨hk4, hP4, hF1_4⟩); obtain ⟨k0, k1, k2, k3, k4, k5⟩ := bx_cells hxR_4; have z := Lib.frozen_of_heap hxR_4; obtain ⟨mn0, mn1, mn2, mn3, mn4, mn5⟩ := bx_cells hxn_4; obtain ⟨r0, r1, r2, r3, r4, r5⟩ := bp hxR_4 (.int .i64 T1.kind) (.int .i64 T1.pos) (.string T1.text) (.bool T1.neg) (.slice A1 T1.mag.length c1) (.slice K1 T1.kids.length d1); clear hxR_4 hxn_4 hF1_4 hk4 hP4
  go_wp2_with fail
  refine bodyPost_ret (v := ndV T1 A1 c1 K1 d1) (by simp [results, Tryz.results100, go_sem, r0, r1, r2, r3, r4, r5, ndV]) rfl ?_
  exact lv74
end
section
variable {wB nB gB : ByteArray → Bool} {nO : ByteArray → Option (List Int)} {e : Int} 
theorem pRest_ok (hD : Deps wB nB gB nO) (hC : Cst wB) (D : Nat) (HAs : ∀ k, k < D → PA e (Pp nB gB nO e k)) : CLN e 183 (Pp nB gB nO e D).qrest := by
 intro P X T A c K d l w hO hT hP0 hne
 obtain ⟨R, hR⟩ : ∃ R, (Pp nB gB nO e D).qrest [T] l = R := ⟨_, rfl⟩
 simp only [hR] at hne ⊢
 unfold ndV
 have hln := hP0.ln
 have hF00 : St (Pt P w.heap.size X w.heap.size) w T A c K d := hT.mono fun k hk => .inl hk
 have hF0_0 := hF00
 clear hF00 hT
 have hXl := hP0.lt
 have hk0 : Kp w.heap.size X w w := Kp.refl _ _ _
 have hz0 := hk0.size
 go_enter Tryz.func183, Tryz.ntmps183
 go_upto_region 1 with fail
 generalize hG : w.alloc (oN T A c K d) = w1 at *
 obtain ⟨hb1, hxt_1, _⟩ := nb hG
 clear hG
 obtain ⟨hk1, _, _⟩ := kd hk0 hb1
 have hP1 := hP0.later hb1
 have hF0_1 := hF0_0.later hb1 (hO.mono lq17)
 obtain ⟨k0, k1, k2, k3, k4, k5⟩ := bx_cells hxt_1
 have hro := row_made (P := P) (lo := w.heap.size) (x := X) (X := X) w1 [⟨T, A, c, K, d⟩] #[.int .i64 T.kind, .int .i64 T.pos, .string T.text, .bool T.neg, .slice A T.mag.length c, .slice K T.kids.length d] 1 rfl rfl lq17 lq17 lq16 (hO.mono lq17) (by
  intro q hq; simp only [List.mem_cons, List.not_mem_nil, or_false] at hq
  rcases hq with rfl
  exact hF0_1)
 go_upto_region 2 with fail
 generalize hG : w1.alloc (oN T A c K d) = w2 at *
 obtain ⟨hb2, _, _⟩ := nb hG
 clear hG
 clear k0 k1 k2 k3 k4 k5
 obtain ⟨hk2, _, _⟩ := kd hk1 hb2
 have hP2 := hP1.later hb2
 have hxt_2 := kb hb2 hxt_1
 have hF0_2 := hF0_1.later hb2 (hO.mono lq17)
 go_loopg [5] D (fun k v wr => ∃ (ks : List Nd) (l' : List Tok) (A : Option Addr) (c : Nat), v = .slice A ks.length c ∧ Hid (Pz e wr X l' ∧ RowS P w.heap.size X wr A c ks ∧ Kp w.heap.size X w wr ∧ (Pp nB gB nO e k).qrest ks l' = R ∧ ks.length + l'.length ≤ 1000001 ∧ k ≤ D))
 case atStart => exact ⟨[T], l, _, 1, rfl, Lh ⟨hP2, hro, hk2, hR, by simp only [length_cons, length_nil]; omega, Nat.le_refl _⟩⟩
 case round =>
  obtain ⟨ks, l0, A0, c0, rfl, hH⟩ := hrel; obtain ⟨hP10, hR0_10, hk10, hRk, hN, hgk⟩ := hH.out; clear hH hP2 hro hk2 hR
  cases gk with
  | zero => exact absurd hRk.symm hne
  | succ gk =>
   have hR : s_rest e (Pp nB gB nO e gk) ks l0 = R := hRk; clear hRk; unfold s_rest at hR; have HA := HAs gk lq17; have hz10 := hk10.size; have hEF := ef_all nB gB nO e gk; go_wp2_with fail
   go_at_call 98
   refine (takeS_ok hD hC.s_2c hP10).mono ?_
   rintro E w11 hE
   rcases hE with ⟨hv, rfl, hP11, hq⟩ | ⟨hv, rfl, hP11, hq⟩
   ·simp only [hv, if_true, yO, yA] at hR; obtain ⟨hk11, hs11, hz11⟩ := kc hk10 hq; have hR0_11 := hR0_10.kp hq (hO.mono lq17) lq17; go_wp2_with fail
    go_at_call 186
    refine (begins_ok hD hC hP11).mono ?_
    rintro E w12 ⟨hE, hP12, hq⟩
    rcases hE with ⟨hv, rfl⟩ | ⟨hv, rfl⟩
    ·simp only [hv, if_true, yO, yA] at hR; obtain ⟨hk12, hs12, hz12⟩ := kc hk11 hq; have hR0_12 := hR0_11.kp hq (hO.mono lq17) lq17; have hlt := hR0_12.lt; have n1 := Rs.ne_of hR hne; go_wp2_with fail
     go_at_call 100
     refine (HA.pexpr X _ _ hP12 n1).mono ?_
     rintro E w13 hE
     rcases hE with ⟨cc, aa, hv, rfl, hq⟩ | ⟨T1, l1, A1, c1, K1, d1, hv, rfl, hP13, hF1, hq⟩
     ·rw [hv] at hR; go_wp2_with fail; exact ⟨rfl, .inl ⟨cc, aa, hR.symm, rfl, hk12.call (Nat.le_refl _) hq⟩⟩
     rw [hv] at hR; simp only [yO, yA] at hR; have hle := hEF.eexpr _ _ _ hv; clear hv n1; have hA := hF1.away (P := P) (lo := w.heap.size) (x := X) (own := (Value.slice A0 ks.length c0).ownBlock) (fun _ h => h.elim) lq17 lq17 (fun g e => (hlt g e).2); clear hF1 hlt; obtain ⟨hk13, _, _⟩ := kc hk12 hq; have hR0_13 := hR0_12.kp hq (hO.mono lq17) lq17; unfold ndV; have hb14 := (Below.refl w13.heap.size w13).alloc (Nat.le_refl _) (.cells #[.int .i64 T1.kind, .int .i64 T1.pos, .string T1.text, .bool T1.neg, .slice A1 T1.mag.length c1, .slice K1 T1.kids.length d1] 29)
     have hbq := heap_alloc_new w13 (.cells #[.int .i64 T1.kind, .int .i64 T1.pos, .string T1.text, .bool T1.neg, .slice A1 T1.mag.length c1, .slice K1 T1.kids.length d1] 29); have hse14 : w13.heap.size + 1 ≤ (w13.alloc (.cells #[.int .i64 T1.kind, .int .i64 T1.pos, .string T1.text, .bool T1.neg, .slice A1 T1.mag.length c1, .slice K1 T1.kids.length d1] 29)).heap.size := by simp
     have hA := hA.laterA hb14 (hO.mono lq17); obtain ⟨hk14, _, _⟩ := kd hk13 hb14; exact lv14
    ·simp only [hv, yF, if_false, yO, yA] at hR; obtain ⟨hk12, hs12, hz12⟩ := kc hk11 hq; have hR0_12 := hR0_11.kp hq (hO.mono lq17) lq17; have HE := Lh (show _ ∧ _ ∧ _ from ⟨hP12, hR0_12, hk12⟩); clear hP12 hR0_12 hk12; go_wp2_with fail; go_ret; exact .inr ⟨ks, _, A0, c0, hR.symm, rfl, HE.out.1, HE.out.2.1, HE.out.2.2⟩
   ·exact lv28
theorem pItems_ok (hD : Deps wB nB gB nO) (hC : Cst wB) (D : Nat) (HAs : ∀ k, k < D → PA e (Pp nB gB nO e k)) : CLN e 319 (Pp nB gB nO e D).qitems := by
 intro P X T A c K d l w hO hT hP0 hne
 obtain ⟨R, hR⟩ : ∃ R, (Pp nB gB nO e D).qitems [T] l = R := ⟨_, rfl⟩
 simp only [hR] at hne ⊢
 unfold ndV
 have hln := hP0.ln
 have hF00 : St (Pt P w.heap.size X w.heap.size) w T A c K d := hT.mono fun k hk => .inl hk
 have hF0_0 := hF00
 clear hF00 hT
 have hXl := hP0.lt
 have hk0 : Kp w.heap.size X w w := Kp.refl _ _ _
 have hz0 := hk0.size
 go_enter Tryz.func319, Tryz.ntmps319
 go_upto_region 1 with fail
 generalize hG : w.alloc (oN T A c K d) = w1 at *
 obtain ⟨hb1, hxt_1, _⟩ := nb hG
 clear hG
 obtain ⟨hk1, _, _⟩ := kd hk0 hb1
 have hP1 := hP0.later hb1
 have hF0_1 := hF0_0.later hb1 (hO.mono lq17)
 obtain ⟨k0, k1, k2, k3, k4, k5⟩ := bx_cells hxt_1
 have hro := row_made (P := P) (lo := w.heap.size) (x := X) (X := X) w1 [⟨T, A, c, K, d⟩] #[.int .i64 T.kind, .int .i64 T.pos, .string T.text, .bool T.neg, .slice A T.mag.length c, .slice K T.kids.length d] 1 rfl rfl lq17 lq17 lq16 (hO.mono lq17) (by
  intro q hq; simp only [List.mem_cons, List.not_mem_nil, or_false] at hq
  rcases hq with rfl
  exact hF0_1)
 go_upto_region 2 with fail
 generalize hG : w1.alloc (oN T A c K d) = w2 at *
 obtain ⟨hb2, _, _⟩ := nb hG
 clear hG
 clear k0 k1 k2 k3 k4 k5
 obtain ⟨hk2, _, _⟩ := kd hk1 hb2
 have hP2 := hP1.later hb2
 have hxt_2 := kb hb2 hxt_1
 have hF0_2 := hF0_1.later hb2 (hO.mono lq17)
 go_loopg [5] D (fun k v wr => ∃ (ks : List Nd) (l' : List Tok) (A : Option Addr) (c : Nat), v = .slice A ks.length c ∧ Hid (Pz e wr X l' ∧ RowS P w.heap.size X wr A c ks ∧ Kp w.heap.size X w wr ∧ (Pp nB gB nO e k).qitems ks l' = R ∧ ks.length + l'.length ≤ 1000001 ∧ k ≤ D))
 case atStart => exact ⟨[T], l, _, 1, rfl, Lh ⟨hP2, hro, hk2, hR, by simp only [length_cons, length_nil]; omega, Nat.le_refl _⟩⟩
 case round =>
  obtain ⟨ks, l0, A0, c0, rfl, hH⟩ := hrel; obtain ⟨hP10, hR0_10, hk10, hRk, hN, hgk⟩ := hH.out; clear hH hP2 hro hk2 hR
  cases gk with
  | zero => exact absurd hRk.symm hne
  | succ gk =>
   have hR : s_items e (Pp nB gB nO e gk) ks l0 = R := hRk; clear hRk; unfold s_items at hR; have HA := HAs gk lq17; have hz10 := hk10.size; have hEF := ef_all nB gB nO e gk; go_wp2_with fail
   go_at_call 98
   refine (takeS_ok hD hC.s_2c hP10).mono ?_
   rintro E w11 hE
   rcases hE with ⟨hv, rfl, hP11, hq⟩ | ⟨hv, rfl, hP11, hq⟩
   ·simp only [hv, if_true, yO, yA] at hR; obtain ⟨hk11, hs11, hz11⟩ := kc hk10 hq; have hR0_11 := hR0_10.kp hq (hO.mono lq17) lq17; go_wp2_with fail
    go_at_call 186
    refine (begins_ok hD hC hP11).mono ?_
    rintro E w12 ⟨hE, hP12, hq⟩
    rcases hE with ⟨hv, rfl⟩ | ⟨hv, rfl⟩
    ·simp only [hv, if_true, yO, yA, Bool.true_or] at hR; obtain ⟨hk12, hs12, hz12⟩ := kc hk11 hq; have hR0_12 := hR0_11.kp hq (hO.mono lq17) lq17; have hlt := hR0_12.lt; have n1 := Rs.ne_of hR hne; go_wp2_with fail
     go_at_call 320
     refine (HA.pitem X _ _ hP12 n1).mono ?_
     rintro E w13 hE
     rcases hE with ⟨cc, aa, hv, rfl, hq⟩ | ⟨T1, l1, A1, c1, K1, d1, hv, rfl, hP13, hF1, hq⟩
     ·rw [hv] at hR; go_wp2_with fail; exact ⟨rfl, .inl ⟨cc, aa, hR.symm, rfl, hk12.call (Nat.le_refl _) hq⟩⟩
     rw [hv] at hR; simp only [yO, yA] at hR; have hle := hEF.eitem _ _ _ hv; clear hv n1; have hA := hF1.away (P := P) (lo := w.heap.size) (x := X) (own := (Value.slice A0 ks.length c0).ownBlock) (fun _ h => h.elim) lq17 lq17 (fun g e => (hlt g e).2); clear hF1 hlt; obtain ⟨hk13, hs13, hz13⟩ := kc hk12 hq; have hR0_13 := hR0_12.kp hq (hO.mono lq17) lq17; unfold ndV; have hb14 := (Below.refl w13.heap.size w13).alloc (Nat.le_refl _) (.cells #[.int .i64 T1.kind, .int .i64 T1.pos, .string T1.text, .bool T1.neg, .slice A1 T1.mag.length c1, .slice K1 T1.kids.length d1] 29)
     have hbq := heap_alloc_new w13 (.cells #[.int .i64 T1.kind, .int .i64 T1.pos, .string T1.text, .bool T1.neg, .slice A1 T1.mag.length c1, .slice K1 T1.kids.length d1] 29); have hse14 : w13.heap.size + 1 ≤ (w13.alloc (.cells #[.int .i64 T1.kind, .int .i64 T1.pos, .string T1.text, .bool T1.neg, .slice A1 T1.mag.length c1, .slice K1 T1.kids.length d1] 29)).heap.size := by simp
     have hA := hA.laterA hb14 (hO.mono lq17); obtain ⟨hk14, hs14, hz14⟩ := kd hk13 hb14; exact lv14
    ·simp only [hv, yF, if_false, yO, yA, Bool.false_or] at hR; obtain ⟨hk12, hs12, hz12⟩ := kc hk11 hq; have hR0_12 := hR0_11.kp hq (hO.mono lq17) lq17; go_wp2_with fail
     go_at_call 176
     refine (is1S_ok hD hC.s_2a2a hP12).mono ?_
     rintro E w13 ⟨hE, hP13, hq⟩
     rcases hE with ⟨hv, rfl⟩ | ⟨hv, rfl⟩
     ·simp only [hv, if_true, yO, yA] at hR; obtain ⟨hk13, hs13, hz13⟩ := kc hk12 hq; have hR0_13 := hR0_12.kp hq (hO.mono lq17) lq17; have hlt := hR0_13.lt; have n1 := Rs.ne_of hR hne; go_wp2_with fail
      go_at_call 320
      refine (HA.pitem X _ _ hP13 n1).mono ?_
      rintro E w14 hE
      rcases hE with ⟨cc, aa, hv, rfl, hq⟩ | ⟨T1, l1, A1, c1, K1, d1, hv, rfl, hP14, hF1, hq⟩
      ·rw [hv] at hR; go_wp2_with fail; exact ⟨rfl, .inl ⟨cc, aa, hR.symm, rfl, hk13.call (Nat.le_refl _) hq⟩⟩
      rw [hv] at hR; simp only [yO, yA] at hR; have hle := hEF.eitem _ _ _ hv; clear hv n1; have hA := hF1.away (P := P) (lo := w.heap.size) (x := X) (own := (Value.slice A0 ks.length c0).ownBlock) (fun _ h => h.elim) lq17 lq17 (fun g e => (hlt g e).2); clear hF1 hlt; obtain ⟨hk14, hs14, hz14⟩ := kc hk13 hq; have hR0_14 := hR0_13.kp hq (hO.mono lq17) lq17; unfold ndV; have hb15 := (Below.refl w14.heap.size w14).alloc (Nat.le_refl _) (.cells #[.int .i64 T1.kind, .int .i64 T1.pos, .string T1.text, .bool T1.neg, .slice A1 T1.mag.length c1, .slice K1 T1.kids.length d1] 29)
      have hbq := heap_alloc_new w14 (.cells #[.int .i64 T1.kind, .int .i64 T1.pos, .string T1.text, .bool T1.neg, .slice A1 T1.mag.length c1, .slice K1 T1.kids.length d1] 29); have hse15 : w14.heap.size + 1 ≤ (w14.alloc (.cells #[.int .i64 T1.kind, .int .i64 T1.pos, .string T1.text, .bool T1.neg, .slice A1 T1.mag.length c1, .slice K1 T1.kids.length d1] 29)).heap.size := by simp
      have hA := hA.laterA hb15 (hO.mono lq17); obtain ⟨hk15, hs15, hz15⟩ := kd hk14 hb15; have hP15 := hP14.later hb15; have hR0_15 := hR0_14.later hb15 (hO.mono lq17); go_wp2_with (at_builtin; refine wp_append_row rfl _ _ rfl hR0_15 rfl hA w14.heap.size rfl hbq lq17 lq17 lq17 (hO.mono lq17) ?_; intro g16 cap16 w16 hRn hq hgl hgr); have hk16 := hk15.trans ((Kp.of_below hq X).mono lq17); have hs16 := hq.size; have hz16 := hk16.size; have hP16 := hP15.blocks (fun k hk => hq.5 k lq17); have hR0_16 := hRn; clear hRn hA hbq hgr hR0_15 hP15; have HE := Lh (show _ ∧ _ ∧ _ from ⟨hP16, hR0_16, hk16⟩)
      clear hP16 hR0_16 hk16 hse15; go_wp2_with fail
      go_roundg gk
      case measure => omega
      case rel => exact ⟨ks ++ [T1], l1, some ⟨g16, 0, none⟩, cap16, by simp, Lh ⟨HE.out.1, HE.out.2.1, HE.out.2.2, hR, by have := tlSf ‹isS e _ l0 = true›; simp only [length_append, length_cons, length_nil]; omega, by omega⟩⟩
     ·simp only [hv, yF, if_false, yO, yA] at hR; obtain ⟨hk13, hs13, hz13⟩ := kc hk12 hq; have hR0_13 := hR0_12.kp hq (hO.mono lq17) lq17; have HE := Lh (show _ ∧ _ ∧ _ from ⟨hP13, hR0_13, hk13⟩); clear hP13 hR0_13 hk13; go_wp2_with fail; go_ret; exact .inr ⟨ks, _, A0, c0, hR.symm, rfl, HE.out.1, HE.out.2.1, HE.out.2.2⟩
   ·exact lv28
end
end
end Go.Proofs.YtjndbcnmmnkilaaGreatDoor
