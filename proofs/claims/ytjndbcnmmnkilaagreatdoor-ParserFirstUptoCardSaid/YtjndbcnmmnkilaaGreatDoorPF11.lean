/- Joined by a program: Pe3. -/
import Derived.Test.YtjndbcnmmnkilaaGreatDoorPF08
namespace Go.Proofs.YtjndbcnmmnkilaaGreatDoor
set_option linter.unusedVariables false
set_option linter.unusedSimpArgs false
set_option maxRecDepth 1000000
set_option maxHeartbeats 16000000
section
open Go.RowKit
open List (length_append length_cons length_nil length_singleton)
section
variable {wB nB gB : ByteArray → Bool} {nO : ByteArray → Option (List Int)} {e : Int} {p : Ps}
theorem pPair_ok (hD : Deps wB nB gB nO) (hC : Cst wB) (HA : PA e p) : CNN e 321 (fun t l => s_pair e p t l) := by
 intro P X T0 A0 c0 K0 d0 l w hO hT hP0 hne
 obtain ⟨R, hR⟩ : ∃ R, s_pair e p T0 l = R := ⟨_, rfl⟩
 simp only [hR] at hne ⊢
 unfold s_pair at hR
 unfold ndV
 have hXl := hP0.lt
 have hk0 : Kp w.heap.size X w w := Kp.refl _ _ _
 have hz0 := hk0.size
 go_enter Tryz.func321, Tryz.ntmps321
 go_upto_region 1 with fail
 have hsz1 := Lh (show (w.alloc (.cells #[.int .i64 T0.kind, .int .i64 T0.pos, .string T0.text, .bool T0.neg, .slice A0 T0.mag.length c0, .slice K0 T0.kids.length d0] 29)).heap.size = w.heap.size + 1 by simp)
 generalize hG : w.alloc (oN T0 A0 c0 K0 d0) = w1 at *
 obtain ⟨hb1, hxt_1, _⟩ := nb hG
 clear hG
 obtain ⟨hk1, _, _⟩ := kd hk0 hb1
 have hP1 := hP0.later hb1
 generalize hG : w1.alloc zN = w2 at *
 obtain ⟨hb2, hxR_2, _⟩ := nb hG
 clear hG
 obtain ⟨hk2, _, _⟩ := kd hk1 hb2
 have hP2 := hP1.later hb2
 have hxt_2 := kb hb2 hxt_1
 rw [hsz1.out] at hxR_2
 have hF0_2 : St (Pt P w2.heap.size X w2.heap.size) w2 T0 A0 c0 K0 d0 := hT.move (fun k hk => hk2.block k (hO k hk).2 (by have := (hO k hk).1; omega)) fun k hk => .inl hk
 go_wp2_with fail
 go_at_call 103
 refine (needS_ok hD hC.s_3a hP2).mono ?_
 rintro E w3 hE
 rcases hE with ⟨hv, rfl, hP3, hq⟩ | ⟨hv, rfl, hq⟩
 rotate_left 1
 ·simp only [needS, hv, Bool.false_eq_true, if_false, Rs.bind_bad] at hR; go_wp2_with fail; exact ⟨rfl, retBad (hk2.call (Nat.le_refl _) hq) hR.symm⟩
 simp only [needS, hv, if_true, Rs.bind_ok, Rs.bind_assoc] at hR
 obtain ⟨hk3, _, _⟩ := kc hk2 hq
 have hxt_3 := kx hq hxt_2
 have hxR_3 := kx hq hxR_2
 have hF0_3 := hF0_2.kp hq (hO.mono lq17) lq17
 have n1 := Rs.ne_of hR hne
 go_upto_region 2 with fail
 refine region_anyZ (fun W => W.heap[w.heap.size]? = some (.cells #[.int .i64 T0.kind, .int .i64 T0.pos, .string T0.text, .bool T0.neg, .slice A0 T0.mag.length c0, .slice K0 T0.kids.length d0] 29)) 7 lq15 ?_
 refine zt 0 (.pointer (some ⟨w.heap.size, 1, none⟩)) rfl (Or.inl ⟨by rfl, ?_⟩) hxt_3 ?_
 ·exact lv56
 try simp only [Act.put, xA, xB, xC]
 refine zt 1 (.int .i64 T0.pos) rfl (Or.inl ⟨by rfl, ?_⟩) hxt_3 ?_
 ·exact lv56
 try simp only [Act.put, xA, xB, xC]
 refine zt 2 (.agg #[.int .i64 T0.kind, .int .i64 T0.pos, .string T0.text, .bool T0.neg, .slice A0 T0.mag.length c0, .slice K0 T0.kids.length d0]) rfl (Or.inl ⟨by rfl, ?_⟩) hxt_3 ?_
 ·exact lv56
 try simp only [Act.put, xA, xB, xC]
 refine zt 3 (.pointer (some ⟨X, 0, none⟩)) rfl (Or.inl ⟨by rfl, ?_⟩) hxt_3 ?_
 ·exact lv56
 try simp only [Act.put, xA, xB, xC]
 refine zo 4 rfl fun K hK => ?_
 go_simp
 go_at_call 100
 refine (HA.pexpr X _ _ (hP3.later (bl_drew (Below.refl _ _))) n1).mono ?_
 rintro E w4 hE
 rcases hE with ⟨cc, aa, hv, rfl, hq⟩ | ⟨T1, l1, A1, c1, K1, d1, hv, rfl, hP4, hF1_4, hq⟩
 ·rw [hv] at hR; exact ⟨rfl, retBad (hk3.call (Nat.le_refl _) (kp_undrew hq)) hR.symm⟩
 rw [hv] at hR
 simp only [yO, yA] at hR
 clear hv n1
 have hq := kp_undrew hq
 have hdr4 : w3.drew.heap.size = w3.heap.size := rfl
 have hF1_4 := hF1_4.intoN (P := P) (lo := w2.heap.size) (x := X) lq17 lq17
 obtain ⟨hk4, _, _⟩ := kc hk3 hq
 have hxt_4 := kx hq hxt_3
 have hxR_4 := kx hq hxR_3
 have hF0_4 := hF0_3.kp hq (hO.mono lq17) lq17
 unfold ndV
 refine hK.out _ _ (fun _ => hxt_4) ?_
 clear hK K
 try simp only [Act.put, xA, xB, xC]
 refine zo 5 rfl fun K hK => ?_
 go_simp
 have hro := row_made (P := P) (lo := w2.heap.size) (x := X) (X := X) w4 [⟨T0, A0, c0, K0, d0⟩, ⟨T1, A1, c1, K1, d1⟩] #[.int .i64 T0.kind, .int .i64 T0.pos, .string T0.text, .bool T0.neg, .slice A0 T0.mag.length c0, .slice K0 T0.kids.length d0, .int .i64 T1.kind, .int .i64 T1.pos, .string T1.text, .bool T1.neg, .slice A1 T1.mag.length c1, .slice K1 T1.kids.length d1] 2 rfl rfl lq17 lq17 lq16 (hO.mono lq17) (by
  intro q hq; simp only [List.mem_cons, List.not_mem_nil, or_false] at hq
  rcases hq with rfl | rfl <;> assumption)
 generalize hG : w4.alloc (.cells #[.int .i64 T0.kind, .int .i64 T0.pos, .string T0.text, .bool T0.neg, .slice A0 T0.mag.length c0, .slice K0 T0.kids.length d0, .int .i64 T1.kind, .int .i64 T1.pos, .string T1.text, .bool T1.neg, .slice A1 T1.mag.length c1, .slice K1 T1.kids.length d1] 29) = w5 at *
 obtain ⟨hb5, _, _⟩ := nb hG
 clear hG
 obtain ⟨hk5, _, _⟩ := kd hk4 hb5
 have hP5 := hP4.later hb5
 have hxt_5 := kb hb5 hxt_4
 have hxR_5 := kb hb5 hxR_4
 have hF0_5 := hF0_4.later hb5 (hO.mono lq17)
 have hF1_5 := hF1_4.later hb5 (hO.mono lq17)
 refine hK.out _ _ (fun _ => hxt_5) ?_
 clear hK K
 try simp only [Act.put, xA, xB, xC]
 have hFz_5 := hro.node (k := 39) (p := T0.pos) (t := ⟨#[]⟩) ⟨by decide, by decide⟩ hF0_5.now.parts.2.2.2.2.2.2.2.1 lq16 false
 clear hro
 refine zo 6 rfl fun K hK => ?_
 go_simp
 go_at_call 54
 refine (node_okA _ _ _ _ _ _ _).mono ?_
 rintro E w6 ⟨rfl, hq⟩
 obtain ⟨hk6, _, _⟩ := kd hk5 hq
 have hP6 := hP5.later hq
 have hxt_6 := kb hq hxt_5
 have hxR_6 := kb hq hxR_5
 have hF0_6 := hF0_5.later hq (hO.mono lq17)
 have hF1_6 := hF1_5.later hq (hO.mono lq17)
 have hFz_6 := hFz_5.later hq (hO.mono lq17)
 refine hK.out _ _ (fun _ => hxt_6) ?_
 clear hK K
 try simp only [Act.put, xA, xB, xC]
 obtain ⟨k0, k1, k2, k3, k4, k5⟩ := bx_cells hxR_6
 have z := Lib.frozen_of_heap hxR_6
 refine zo 7 rfl fun K hK => ?_
 go_simp
 refine hK.out _ _ (fun h => absurd rfl h) ?_
 clear hK K k0 k1 k2 k3 k4 k5 z
 try simp only [Act.put, xA, xB, xC]
 refine anyZ_end lq15 ?_ _
 have HE := Lh (show _ ∧ _ ∧ _ from ⟨hk6, hP6, hFz_6⟩)
 obtain ⟨r0, r1, r2, r3, r4, r5⟩ := bp hxR_6 (.int .i64 39) (.int .i64 (T0.pos)) (.string ⟨#[]⟩) (.bool false) (.slice none 0 0) (.slice (some ⟨w4.heap.size, 0, none⟩) 2 2)
 clear hxt_6 hxR_6 hF0_6 hF1_6 hFz_6 hk6 hP6
 go_wp2_with fail
 refine bodyPost_ret (v := .agg #[.int .i64 39, .int .i64 (T0.pos), .string ⟨#[]⟩, .bool false, .slice none 0 0, .slice (some ⟨w4.heap.size, 0, none⟩) 2 2]) (by simp [results, Tryz.results321, go_sem, r0, r1, r2, r3, r4, r5, ndV]) rfl ?_
 exact ret6 HE.out.1 HE.out.2.1 HE.out.2.2 lq17 lq17 hXl (hO.mono lq17) hR.symm
theorem pItem_ok (hD : Deps wB nB gB nO) (hC : Cst wB) (HA : PA e p) : CN e 320 (fun l => s_item e p l) := by
 intro X l w hP0 hne
 obtain ⟨R, hR⟩ : ∃ R, s_item e p l = R := ⟨_, rfl⟩
 simp only [hR] at hne ⊢
 unfold s_item at hR
 have hXl := hP0.lt
 have hk0 : Kp w.heap.size X w w := Kp.refl _ _ _
 have hz0 := hk0.size
 have hpos := hP0.hd.2.1
 go_enter Tryz.func320, Tryz.ntmps320
 go_upto_region 1 with fail
 generalize hG : w.alloc zN = w1 at *
 obtain ⟨hb1, hxR_1, _⟩ := nb hG
 clear hG
 obtain ⟨hk1, _, _⟩ := kd hk0 hb1
 have hP1 := hP0.later hb1
 go_wp2_with fail
 go_at_call 55
 refine (next_ok hP1).mono ?_
 rintro E w2 ⟨rfl, hq⟩
 obtain ⟨hk2, _, _⟩ := kd hk1 hq
 have hP2 := hP1.later hq
 have hxR_2 := kb hq hxR_1
 have F2_2 := tfield2 (hd e l).kind (hd e l).text (hd e l).pos
 unfold tokA
 go_wp2_with fail
 go_at_call 98
 refine (takeS_ok hD hC.s_2a2a hP2).mono ?_
 rintro E w3 hE
 rcases hE with ⟨hv, rfl, hP3, hq⟩ | ⟨hv, rfl, hP3, hq⟩
 ·simp only [hv, if_true, yO, yA] at hR; obtain ⟨hk3, hs3, hz3⟩ := kc hk2 hq; have hxR_3 := kx hq hxR_2; have n1 := Rs.ne_of hR hne; go_wp2_with fail
  go_at_call 100
  refine (HA.pexpr X _ _ hP3 n1).mono ?_
  rintro E w4 hE
  rcases hE with ⟨cc, aa, hv, rfl, hq⟩ | ⟨T1, l1, A1, c1, K1, d1, hv, rfl, hP4, hF1_4, hq⟩
  ·exact lv60
  rw [hv] at hR; simp only [yO, yA] at hR; clear hv n1; have hF1_4 := hF1_4.intoN (P := Nn) (lo := w.heap.size + 1) (x := X) lq17 lq17; obtain ⟨hk4, hs4, hz4⟩ := kc hk3 hq; have hxR_4 := kx hq hxR_3; unfold ndV; go_wp2_with fail
  have hro := row_made (P := Nn) (lo := w.heap.size + 1) (x := X) (X := X) w4 [⟨T1, A1, c1, K1, d1⟩] #[.int .i64 T1.kind, .int .i64 T1.pos, .string T1.text, .bool T1.neg, .slice A1 T1.mag.length c1, .slice K1 T1.kids.length d1] 1 rfl rfl lq17 lq17 lq16 (Old.nn X _) (by
   intro q hq; simp only [List.mem_cons, List.not_mem_nil, or_false] at hq
   rcases hq with rfl <;> assumption)
  generalize hG : w4.alloc (oN T1 A1 c1 K1 d1) = w5 at *
  obtain ⟨hb5, _, _⟩ := nb hG; clear hG; obtain ⟨hk5, hs5, hz5⟩ := kd hk4 hb5; have hP5 := hP4.later hb5; have hxR_5 := kb hb5 hxR_4; have hF1_5 := hF1_4.later hb5 (Old.nn X _); have hFz_5 := hro.node (k := 40) (p := (hd e l).pos) (t := ⟨#[]⟩) ⟨by decide, by decide⟩ hpos lq16 false; clear hro; go_wp2_with fail
  go_at_call 54
  refine (node_okA _ _ _ _ _ _ _).mono ?_
  rintro E w6 ⟨rfl, hq⟩; obtain ⟨hk6, _, _⟩ := kd hk5 hq; have hP6 := hP5.later hq; have hxR_6 := kb hq hxR_5; have hF1_6 := hF1_5.later hq (Old.nn X _); have hFz_6 := hFz_5.later hq (Old.nn X _); obtain ⟨k0, k1, k2, k3, k4, k5⟩ := bx_cells hxR_6; have z := Lib.frozen_of_heap hxR_6; have HE := Lh (show _ ∧ _ ∧ _ from ⟨hk6, hP6, hFz_6⟩); obtain ⟨r0, r1, r2, r3, r4, r5⟩ := bp hxR_6 (.int .i64 40) (.int .i64 ((hd e l).pos)) (.string ⟨#[]⟩) (.bool false) (.slice none 0 0) (.slice (some ⟨w4.heap.size, 0, none⟩) 1 1); clear hxR_6 hF1_6 hFz_6 hk6 hP6; go_wp2_with fail
  refine bodyPost_ret (v := .agg #[.int .i64 40, .int .i64 ((hd e l).pos), .string ⟨#[]⟩, .bool false, .slice none 0 0, .slice (some ⟨w4.heap.size, 0, none⟩) 1 1]) (by simp [results, Tryz.results320, go_sem, r0, r1, r2, r3, r4, r5, ndV]) rfl ?_
  exact lv74
 ·simp only [hv, yF, if_false, yO, yA] at hR; obtain ⟨hk3, hs3, hz3⟩ := kc hk2 hq; have hxR_3 := kx hq hxR_2; have n1 := Rs.ne_of hR hne; go_wp2_with fail
  go_at_call 100
  refine (HA.pexpr X _ _ hP3 n1).mono ?_
  rintro E w4 hE
  rcases hE with ⟨cc, aa, hv, rfl, hq⟩ | ⟨T1, l1, A1, c1, K1, d1, hv, rfl, hP4, hF1_4, hq⟩
  ·exact lv60
  rw [hv] at hR; simp only [yO, yA] at hR; clear hv n1; have hF1_4 := hF1_4.intoN (P := Nn) (lo := w.heap.size + 1) (x := X) lq17 lq17; obtain ⟨hk4, hs4, hz4⟩ := kc hk3 hq; have hxR_4 := kx hq hxR_3; unfold ndV; have n1 := ne_tail hR hne; go_wp2_with fail
  go_at_call 321
  refine (HA.ppair (Pt Nn (w.heap.size + 1) X w4.heap.size) X _ _ _ _ _ _ _ (Pt.old (Old.nn X _) lq17 lq17) hF1_4 hP4 n1).mono ?_
  rintro E w5 hE
  rcases hE with ⟨cc, aa, hv, rfl, hq⟩ | ⟨T2, l2, A2, c2, K2, d2, hv, rfl, hP5, hF2_5, hq⟩
  ·exact lv62
  rw [hv] at hR; clear hv n1; have hF2_5 := hF2_5.into (P := Nn) (lo := w.heap.size + 1) (x := X) (fun k q => q.grow lq12) lq17 lq17; obtain ⟨hk5, hs5, hz5⟩ := kc hk4 hq; have hxR_5 := kx hq hxR_4; have hF1_5 := hF1_4.kp hq (Old.nn X _) lq17; unfold ndV; have HE := Lh (show _ ∧ _ ∧ _ from ⟨hk5, hP5, hF2_5⟩); obtain ⟨k0, k1, k2, k3, k4, k5⟩ := bx_cells hxR_5; have z := Lib.frozen_of_heap hxR_5; obtain ⟨r0, r1, r2, r3, r4, r5⟩ := bp hxR_5 (.int .i64 T2.kind) (.int .i64 T2.pos) (.string T2.text) (.bool T2.neg) (.slice A2 T2.mag.length c2) (.slice K2 T2.kids.length d2)
  clear hxR_5 hF1_5 hF2_5 hk5 hP5; go_wp2_with fail
  refine bodyPost_ret (v := ndV T2 A2 c2 K2 d2) (by simp [results, Tryz.results320, go_sem, r0, r1, r2, r3, r4, r5, ndV]) rfl ?_
  exact lv74
theorem pExprs_ok (hD : Deps wB nB gB nO) (hC : Cst wB) (HA : PA e p) : CN e 104 (fun l => s_exprs e p l) := by
 intro X l w hP0 hne
 obtain ⟨R, hR⟩ : ∃ R, s_exprs e p l = R := ⟨_, rfl⟩
 simp only [hR] at hne ⊢
 unfold s_exprs at hR
 have hXl := hP0.lt
 have hk0 : Kp w.heap.size X w w := Kp.refl _ _ _
 have hz0 := hk0.size
 go_enter Tryz.func104, Tryz.ntmps104
 go_upto_region 1 with fail
 generalize hG : w.alloc zN = w1 at *
 obtain ⟨hb1, hxR_1, _⟩ := nb hG
 clear hG
 obtain ⟨hk1, _, _⟩ := kd hk0 hb1
 have hP1 := hP0.later hb1
 have n1 := Rs.ne_of hR hne
 go_wp2_with fail
 go_at_call 100
 refine (HA.pexpr X _ _ hP1 n1).mono ?_
 rintro E w2 hE
 rcases hE with ⟨cc, aa, hv, rfl, hq⟩ | ⟨T1, l1, A1, c1, K1, d1, hv, rfl, hP2, hF1_2, hq⟩
 ·exact lv61
 rw [hv] at hR
 simp only [yO, yA] at hR
 clear hv n1
 have hF1_2 := hF1_2.intoN (P := Nn) (lo := w.heap.size + 1) (x := X) lq17 lq17
 obtain ⟨hk2, _, _⟩ := kc hk1 hq
 have hxR_2 := kx hq hxR_1
 unfold ndV
 go_upto_region 2 with fail
 generalize hG : w2.alloc (oN T1 A1 c1 K1 d1) = w3 at *
 obtain ⟨hb3, hxn_3, _⟩ := nb hG
 clear hG
 obtain ⟨hk3, _, _⟩ := kd hk2 hb3
 have hP3 := hP2.later hb3
 have hxR_3 := kb hb3 hxR_2
 have hF1_3 := hF1_2.later hb3 (Old.nn X _)
 go_wp2_with fail
 go_at_call 176
 refine (is1S_ok hD hC.s_2c hP3).mono ?_
 rintro E w4 ⟨hE, hP4, hq⟩
 rcases hE with ⟨hv, rfl⟩ | ⟨hv, rfl⟩
 ·simp only [hv, if_true, yO, yA] at hR; obtain ⟨hk4, hs4, hz4⟩ := kc hk3 hq; have hxR_4 := kx hq hxR_3; have hxn_4 := kx hq hxn_3; have hF1_4 := hF1_3.kp hq (Old.nn X _) lq17; have n1 := Rs.ne_of hR hne
  go_upto_region 4 with fail
  refine region_anyZ (fun W => W.heap[w2.heap.size]? = some (.cells #[.int .i64 T1.kind, .int .i64 T1.pos, .string T1.text, .bool T1.neg, .slice A1 T1.mag.length c1, .slice K1 T1.kids.length d1] 29)) 6 lq15 ?_
  refine zt 0 (.pointer (some ⟨w2.heap.size, 1, none⟩)) rfl (Or.inl ⟨by rfl, ?_⟩) hxn_4 ?_
  ·exact lv56
  try simp only [Act.put, xA, xB, xC]
  refine zt 1 (.int .i64 T1.pos) rfl (Or.inl ⟨by rfl, ?_⟩) hxn_4 ?_
  ·exact lv56
  try simp only [Act.put, xA, xB, xC]
  refine zt 2 (.pointer (some ⟨X, 0, none⟩)) rfl (Or.inl ⟨by rfl, ?_⟩) hxn_4 ?_
  ·exact lv56
  try simp only [Act.put, xA, xB, xC]
  refine zt 3 (.agg #[.int .i64 T1.kind, .int .i64 T1.pos, .string T1.text, .bool T1.neg, .slice A1 T1.mag.length c1, .slice K1 T1.kids.length d1]) rfl (Or.inl ⟨by rfl, ?_⟩) hxn_4 ?_
  ·exact lv56
  try simp only [Act.put, xA, xB, xC]
  refine zo 4 rfl fun K hK => ?_
  go_simp
  go_at_call 183
  refine (HA.prest (Pt Nn (w.heap.size + 1) X w4.heap.size) X _ _ _ _ _ _ w4.drew (Pt.old (Old.nn X _) lq17 lq17) (hF1_4.move (fun _ _ => rfl) fun _ h => h) (hP4.later (bl_drew (Below.refl _ _))) n1).mono ?_
  rintro E w5 hE
  rcases hE with ⟨cc, aa, hv, rfl, hq⟩ | ⟨ks2, l2, A2, c2, hv, rfl, hP5, hR2_5, hq⟩
  ·rw [hv] at hR; exact ⟨rfl, retBad (hk4.call (Nat.le_refl _) (kp_undrew hq)) hR.symm⟩
  rw [hv] at hR; simp only [yO, yA] at hR; clear hv n1; have hq := kp_undrew hq; have hdr5 : w4.drew.heap.size = w4.heap.size := rfl; have hR2_5 := hR2_5.into (P := Nn) (lo := w.heap.size + 1) (x := X) (fun k q => q.grow lq12) lq17 lq17; obtain ⟨hk5, _, _⟩ := kc hk4 hq; have hxR_5 := kx hq hxR_4; have hxn_5 := kx hq hxn_4; have hF1_5 := hF1_4.kp hq (Old.nn X _) lq17
  refine hK.out _ _ (fun _ => hxn_5) ?_
  clear hK K
  try simp only [Act.put, xA, xB, xC]
  have hFz_5 := hR2_5.node (k := 35) (p := T1.pos) (t := ⟨#[]⟩) ⟨by decide, by decide⟩ hF1_5.now.parts.2.2.2.2.2.2.2.1 lq16 false
  refine zo 5 rfl fun K hK => ?_
  go_simp
  go_at_call 54
  refine (node_okA _ _ _ _ _ _ _).mono ?_
  rintro E w6 ⟨rfl, hq⟩; obtain ⟨hk6, _, _⟩ := kd hk5 hq; have hP6 := hP5.later hq; have hxR_6 := kb hq hxR_5; have hxn_6 := kb hq hxn_5; have hF1_6 := hF1_5.later hq (Old.nn X _); have hFz_6 := hFz_5.later hq (Old.nn X _); have hR2_6 := hR2_5.later hq (Old.nn X _)
  refine hK.out _ _ (fun _ => hxn_6) ?_
  clear hK K
  try simp only [Act.put, xA, xB, xC]
  obtain ⟨k0, k1, k2, k3, k4, k5⟩ := bx_cells hxR_6; have z := Lib.frozen_of_heap hxR_6
  refine zo 6 rfl fun K hK => ?_
  go_simp
  refine hK.out _ _ (fun h => absurd rfl h) ?_
  clear hK K k0 k1 k2 k3 k4 k5 z
  try simp only [Act.put, xA, xB, xC]
  refine anyZ_end lq15 ?_ _
  have HE := Lh (show _ ∧ _ ∧ _ from ⟨hk6, hP6, hFz_6⟩); obtain ⟨r0, r1, r2, r3, r4, r5⟩ := bp hxR_6 (.int .i64 35) (.int .i64 (T1.pos)) (.string (⟨#[]⟩)) (.bool false) (.slice none 0 0) (.slice A2 ks2.length c2); clear hxR_6 hxn_6 hF1_6 hFz_6 hR2_6 hk6 hP6; go_wp2_with fail
  refine bodyPost_ret (v := .agg #[.int .i64 35, .int .i64 (T1.pos), .string (⟨#[]⟩), .bool false, .slice none 0 0, .slice A2 ks2.length c2]) (by simp [results, Tryz.results104, go_sem, r0, r1, r2, r3, r4, r5, ndV]) rfl ?_
  exact lv74
 ·simp only [hv, yF, if_false, yO, yA] at hR; obtain ⟨hk4, hs4, hz4⟩ := kc hk3 hq; have hxR_4 := kx hq hxR_3; have hxn_4 := kx hq hxn_3; have hF1_4 := hF1_3.kp hq (Old.nn X _) lq17; have HE := Lh (show _ ∧ _ ∧ _ from ⟨hk4, hP4, hF1_4⟩); obtain ⟨k0, k1, k2, k3, k4, k5⟩ := bx_cells hxR_4; have z := Lib.frozen_of_heap hxR_4; obtain ⟨mn0, mn1, mn2, mn3, mn4, mn5⟩ := bx_cells hxn_4; obtain ⟨r0, r1, r2, r3, r4, r5⟩ := bp hxR_4 (.int .i64 T1.kind) (.int .i64 T1.pos) (.string T1.text) (.bool T1.neg) (.slice A1 T1.mag.length c1) (.slice K1 T1.kids.length d1); clear hxR_4 hxn_4 hF1_4 hk4 hP4
  go_wp2_with fail
  refine bodyPost_ret (v := ndV T1 A1 c1 K1 d1) (by simp [results, Tryz.results104, go_sem, r0, r1, r2, r3, r4, r5, ndV]) rfl ?_
  exact lv74
theorem pRound_ok (hD : Deps wB nB gB nO) (hC : Cst wB) (HA : PA e p) : CI e 285 (fun at_ l => s_round e p at_ l) := by
 intro at_ X l w hat hP0 hne
 obtain ⟨R, hR⟩ : ∃ R, s_round e p at_ l = R := ⟨_, rfl⟩
 simp only [hR] at hne ⊢
 unfold s_round at hR
 have hXl := hP0.lt
 have hk0 : Kp w.heap.size X w w := Kp.refl _ _ _
 have hz0 := hk0.size
 go_enter Tryz.func285, Tryz.ntmps285
 go_upto_region 1 with fail
 generalize hG : w.alloc zN = w1 at *
 obtain ⟨hb1, hxR_1, _⟩ := nb hG
 clear hG
 obtain ⟨hk1, _, _⟩ := kd hk0 hb1
 have hP1 := hP0.later hb1
 go_wp2_with fail
 go_at_call 98
 refine (takeS_ok hD hC.s_29 hP1).mono ?_
 rintro E w2 hE
 rcases hE with ⟨hv, rfl, hP2, hq⟩ | ⟨hv, rfl, hP2, hq⟩
 ·simp only [hv, if_true, yO, yA] at hR; obtain ⟨hk2, hs2, hz2⟩ := kc hk1 hq; have hxR_2 := kx hq hxR_1; have hFz_2 := (RowS.nil Nn (w.heap.size + 1) X w2).node (k := 35) (p := at_) (t := ⟨#[]⟩) ⟨by decide, by decide⟩ hat lq16 false; go_wp2_with fail
  go_at_call 54
  refine (node_okA _ _ _ _ _ _ _).mono ?_
  rintro E w3 ⟨rfl, hq⟩; obtain ⟨hk3, hs3, hz3⟩ := kd hk2 hq; have hP3 := hP2.later hq; have hxR_3 := kb hq hxR_2; have hFz_3 := hFz_2.later hq (Old.nn X _); obtain ⟨k0, k1, k2, k3, k4, k5⟩ := bx_cells hxR_3; have z := Lib.frozen_of_heap hxR_3; have HE := Lh (show _ ∧ _ ∧ _ from ⟨hk3, hP3, hFz_3⟩); obtain ⟨r0, r1, r2, r3, r4, r5⟩ := bp hxR_3 (.int .i64 35) (.int .i64 at_) (.string (⟨#[]⟩)) (.bool false) (.slice none 0 0) (.slice none 0 0); clear hxR_3 hFz_3 hk3 hP3; go_wp2_with fail
  refine bodyPost_ret (v := .agg #[.int .i64 35, .int .i64 at_, .string (⟨#[]⟩), .bool false, .slice none 0 0, .slice none 0 0]) (by simp [results, Tryz.results285, go_sem, r0, r1, r2, r3, r4, r5, ndV]) rfl ?_
  exact lv74
 ·simp only [hv, yF, if_false, yO, yA] at hR; obtain ⟨hk2, hs2, hz2⟩ := kc hk1 hq; have hxR_2 := kx hq hxR_1; have n1 := Rs.ne_of hR hne; go_wp2_with fail
  go_at_call 100
  refine (HA.pexpr X _ _ hP2 n1).mono ?_
  rintro E w3 hE
  rcases hE with ⟨cc, aa, hv, rfl, hq⟩ | ⟨T1, l1, A1, c1, K1, d1, hv, rfl, hP3, hF1_3, hq⟩
  ·rw [hv] at hR; go_wp2_with fail; exact ⟨rfl, retBad (hk2.call (Nat.le_refl _) hq) hR.symm⟩
  rw [hv] at hR; simp only [yO, yA] at hR; clear hv n1; have hF1_3 := hF1_3.intoN (P := Nn) (lo := w.heap.size + 1) (x := X) lq17 lq17; obtain ⟨hk3, hs3, hz3⟩ := kc hk2 hq; have hxR_3 := kx hq hxR_2; unfold ndV
  go_upto_region 4 with fail
  have hF1_3 := hF1_3.setx (x' := w3.heap.size) lq17
  generalize hG : w3.alloc (oN T1 A1 c1 K1 d1) = w4 at *
  obtain ⟨hb4, hxn_4, _⟩ := nb hG; clear hG; obtain ⟨hk4, _, _⟩ := kd hk3 hb4; have hP4 := hP3.later hb4; have hxR_4 := kb hb4 hxR_3; have hF1_4 := hF1_3.later hb4 (Old.nn X _); go_wp2_with fail
  go_at_call 176
  refine (is1S_ok hD hC.s_2c hP4).mono ?_
  rintro E w5 ⟨hE, hP5, hq⟩
  rcases hE with ⟨hv, rfl⟩ | ⟨hv, rfl⟩
  ·simp only [hv, if_true, yO, yA] at hR; obtain ⟨hk5, hs5, hz5⟩ := kc hk4 hq; have hxR_5 := kx hq hxR_4; have hxn_5 := kx hq hxn_4; have hF1_5 := hF1_4.kp hq (Old.nn X _) lq17; obtain ⟨mn0, mn1, mn2, mn3, mn4, mn5⟩ := bx_cells hxn_5; have n1 := Rs.ne_of hR hne; go_wp2_with fail
   go_at_call 183
   clear mn0 mn1 mn2 mn3 mn4 mn5
   refine (HA.prest (Pt Nn (w.heap.size + 1) (w3.heap.size) w5.heap.size) X _ _ _ _ _ _ _ (Pt.old (Old.nn X _) lq17 lq17) hF1_5 hP5 n1).mono ?_
   rintro E w6 hE
   rcases hE with ⟨cc, aa, hv, rfl, hq⟩ | ⟨ks2, l2, A2, c2, hv, rfl, hP6, hR2_6, hq⟩
   ·exact lv63
   rw [hv] at hR; simp only [yO, yA] at hR; clear hv n1; have hR2_6 := hR2_6.into (P := Nn) (lo := w.heap.size + 1) (x := w3.heap.size) (fun k q => q.grow lq12) lq17 lq17; obtain ⟨hk6, hs6, hz6⟩ := kc hk5 hq; have hxR_6 := kx hq hxR_5; have hxn_6 := kx hq hxn_5; have hF1_6 := hF1_5.kp hq (Old.nn X _) lq17; have hFz_6 := hR2_6.node (k := 35) (p := at_) (t := ⟨#[]⟩) ⟨by decide, by decide⟩ hat lq16 false; go_wp2_with fail
   go_at_call 54
   refine (node_okA _ _ _ _ _ _ _).mono ?_
   rintro E w7 ⟨rfl, hq⟩; obtain ⟨hk7, _, _⟩ := kd hk6 hq; have hP7 := hP6.later hq; have hxR_7 := kb hq hxR_6; have hxn_7 := kb hq hxn_6; have hF1_7 := hF1_6.later hq (Old.nn X _); have hFz_7 := hFz_6.later hq (Old.nn X _); have hR2_7 := hR2_6.later hq (Old.nn X _); obtain ⟨k0, k1, k2, k3, k4, k5⟩ := bx_cells hxn_7; have z := Lib.frozen_of_heap hxn_7
   go_upto_region 6 with fail
   clear k0 k1 k2 k3 k4 k5 z; have hxn_8 := bx_put hxn_7 (u0 := .int .i64 35) (u1 := .int .i64 at_) (u2 := .string (⟨#[]⟩)) (u3 := .bool false) (u4 := .slice none 0 0) (u5 := .slice A2 ks2.length c2); have hxR_8 := (bx_off (b := w3.heap.size) (u0 := .int .i64 35) (u1 := .int .i64 at_) (u2 := .string (⟨#[]⟩)) (u3 := .bool false) (u4 := .slice none 0 0) (u5 := .slice A2 ks2.length c2) lq17).trans hxR_7
   have hF1_8 := hF1_7.put6 (b := w3.heap.size) (u0 := .int .i64 35) (u1 := .int .i64 at_) (u2 := .string (⟨#[]⟩)) (u3 := .bool false) (u4 := .slice none 0 0) (u5 := .slice A2 ks2.length c2) lq17 (fun h => h.elim); have hFz_8 := hFz_7.put6 (b := w3.heap.size) (u0 := .int .i64 35) (u1 := .int .i64 at_) (u2 := .string (⟨#[]⟩)) (u3 := .bool false) (u4 := .slice none 0 0) (u5 := .slice A2 ks2.length c2) lq17 (fun h => h.elim)
   have hR2_8 := hR2_7.put6 (b := w3.heap.size) (u0 := .int .i64 35) (u1 := .int .i64 at_) (u2 := .string (⟨#[]⟩)) (u3 := .bool false) (u4 := .slice none 0 0) (u5 := .slice A2 ks2.length c2) lq17 (fun h => h.elim); have hk8 := bx_kp hk7 (b := w3.heap.size) (u0 := .int .i64 35) (u1 := .int .i64 at_) (u2 := .string (⟨#[]⟩)) (u3 := .bool false) (u4 := .slice none 0 0) (u5 := .slice A2 ks2.length c2) lq17
   have hP8 := hP7.blocks (fun k hk => bx_off (b := w3.heap.size) (u0 := .int .i64 35) (u1 := .int .i64 at_) (u2 := .string (⟨#[]⟩)) (u3 := .bool false) (u4 := .slice none 0 0) (u5 := .slice A2 ks2.length c2) lq17); have hs8 : w7.heap.size ≤ ((((((w7.setCell ⟨w3.heap.size, 0, none⟩ (.int .i64 35)).setCell ⟨w3.heap.size, 1, none⟩ (.int .i64 at_)).setCell ⟨w3.heap.size, 2, none⟩ (.string (⟨#[]⟩))).setCell ⟨w3.heap.size, 3, none⟩ (.bool false)).setCell ⟨w3.heap.size, 4, none⟩ (.slice none 0 0)).setCell ⟨w3.heap.size, 5, none⟩ (.slice A2 ks2.length c2)).heap.size := Nat.le_of_eq bx_size.symm
   have hss8 : ((((((w7.setCell ⟨w3.heap.size, 0, none⟩ (.int .i64 35)).setCell ⟨w3.heap.size, 1, none⟩ (.int .i64 at_)).setCell ⟨w3.heap.size, 2, none⟩ (.string (⟨#[]⟩))).setCell ⟨w3.heap.size, 3, none⟩ (.bool false)).setCell ⟨w3.heap.size, 4, none⟩ (.slice none 0 0)).setCell ⟨w3.heap.size, 5, none⟩ (.slice A2 ks2.length c2)).heap.size ≤ w7.heap.size := Nat.le_of_eq bx_size; have hz8 := hk8.size
   generalize ((((((w7.setCell ⟨w3.heap.size, 0, none⟩ (.int .i64 35)).setCell ⟨w3.heap.size, 1, none⟩ (.int .i64 at_)).setCell ⟨w3.heap.size, 2, none⟩ (.string (⟨#[]⟩))).setCell ⟨w3.heap.size, 3, none⟩ (.bool false)).setCell ⟨w3.heap.size, 4, none⟩ (.slice none 0 0)).setCell ⟨w3.heap.size, 5, none⟩ (.slice A2 ks2.length c2)) = w8 at *
   go_wp2_with fail
   go_at_call 103
   refine (needS_ok hD hC.s_29 hP8).mono ?_
   rintro E w9 hE
   rcases hE with ⟨hv, rfl, hP9, hq⟩ | ⟨hv, rfl, hq⟩
   rotate_left 1
   ·exact lv54
   simp only [needS, hv, if_true, Rs.bind_ok, Rs.bind_assoc] at hR; obtain ⟨hk9, _, _⟩ := kc hk8 hq; have hxR_9 := kx hq hxR_8; have hxn_9 := kx hq hxn_8; have hF1_9 := hF1_8.kp hq (Old.nn X _) lq17; have hFz_9 := hFz_8.kp hq (Old.nn X _) lq17; have hR2_9 := hR2_8.kp hq (Old.nn X _) lq17; have HE := Lh (show _ ∧ _ ∧ _ from ⟨hk9, hP9, hFz_9⟩); obtain ⟨k0, k1, k2, k3, k4, k5⟩ := bx_cells hxR_9; have z := Lib.frozen_of_heap hxR_9; obtain ⟨mn0, mn1, mn2, mn3, mn4, mn5⟩ := bx_cells hxn_9
   obtain ⟨r0, r1, r2, r3, r4, r5⟩ := bp hxR_9 (.int .i64 35) (.int .i64 at_) (.string (⟨#[]⟩)) (.bool false) (.slice none 0 0) (.slice A2 ks2.length c2); clear hxR_9 hxn_9 hF1_9 hFz_9 hR2_9 hk9 hP9; go_wp2_with fail
   refine bodyPost_ret (v := .agg #[.int .i64 35, .int .i64 at_, .string (⟨#[]⟩), .bool false, .slice none 0 0, .slice A2 ks2.length c2]) (by simp [results, Tryz.results285, go_sem, r0, r1, r2, r3, r4, r5, ndV]) rfl ?_
   exact lv74
  ·simp only [hv, yF, if_false, yO, yA] at hR; obtain ⟨hk5, hs5, hz5⟩ := kc hk4 hq; have hxR_5 := kx hq hxR_4; have hxn_5 := kx hq hxn_4; have hF1_5 := hF1_4.kp hq (Old.nn X _) lq17; go_wp2_with fail
   go_at_call 103
   refine (needS_ok hD hC.s_29 hP5).mono ?_
   rintro E w6 hE
   rcases hE with ⟨hv, rfl, hP6, hq⟩ | ⟨hv, rfl, hq⟩
   rotate_left 1
   ·simp only [needS, hv, Bool.false_eq_true, if_false, Rs.bind_bad] at hR; go_wp2_with fail; exact ⟨rfl, retBad (hk5.call (Nat.le_refl _) hq) hR.symm⟩
   simp only [needS, hv, if_true, Rs.bind_ok, Rs.bind_assoc] at hR; obtain ⟨hk6, hs6, hz6⟩ := kc hk5 hq; have hxR_6 := kx hq hxR_5; have hxn_6 := kx hq hxn_5; have hF1_6 := hF1_5.kp hq (Old.nn X _) lq17; have HE := Lh (show _ ∧ _ ∧ _ from ⟨hk6, hP6, hF1_6⟩); obtain ⟨k0, k1, k2, k3, k4, k5⟩ := bx_cells hxR_6; have z := Lib.frozen_of_heap hxR_6; obtain ⟨mn0, mn1, mn2, mn3, mn4, mn5⟩ := bx_cells hxn_6; obtain ⟨r0, r1, r2, r3, r4, r5⟩ := bp hxR_6 (.int .i64 T1.kind) (.int .i64 T1.pos) (.string T1.text) (.bool T1.neg) (.slice A1 T1.mag.length c1) (.slice K1 T1.kids.length d1)
   clear hxR_6 hxn_6 hF1_6 hk6 hP6; go_wp2_with fail
   refine bodyPost_ret (v := ndV T1 A1 c1 K1 d1) (by simp [results, Tryz.results285, go_sem, r0, r1, r2, r3, r4, r5, ndV]) rfl ?_
   exact lv74
end
end
end Go.Proofs.YtjndbcnmmnkilaaGreatDoor
