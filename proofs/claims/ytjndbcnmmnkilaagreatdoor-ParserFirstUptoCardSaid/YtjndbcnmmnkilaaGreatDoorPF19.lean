/- Joined by a program: Pe12. -/
import Derived.Test.YtjndbcnmmnkilaaGreatDoorPF08
namespace Go.Proofs.YtjndbcnmmnkilaaGreatDoor
set_option linter.unusedVariables false
set_option linter.unusedSimpArgs false
set_option maxRecDepth 1000000
set_option maxHeartbeats 16000000
section
open Go.RowKit
open List (length_append length_cons length_nil length_singleton)
section
variable {wB nB gB : ByteArray → Bool} {nO : ByteArray → Option (List Int)} {e : Int} {p : Ps}
theorem pClass_ok (hD : Deps wB nB gB nO) (hC : Cst wB) (HA : PA e p) : CI e 106 (fun at_ l => classQ nB e p at_ l) := by
 intro at_ X l w hat hP0 hne
 obtain ⟨R, hR⟩ : ∃ R, classQ nB e p at_ l = R := ⟨_, rfl⟩
 simp only [hR] at hne ⊢
 unfold classQ at hR
 have htk := hP0.hd.2.2
 have hts : (hd e l).text.size ≤ maxLen := by unfold maxLen; omega
 have hXl := hP0.lt
 have hk0 : Kp w.heap.size X w w := Kp.refl _ _ _
 have hz0 := hk0.size
 go_enter Tryz.func106, Tryz.ntmps106
 go_upto_region 1 with fail
 generalize hG : w.alloc zN = w1 at *
 obtain ⟨hb1, hxR_1, _⟩ := nb hG
 clear hG
 obtain ⟨hk1, _, _⟩ := kd hk0 hb1
 have hP1 := hP0.later hb1
 go_wp2_with fail
 go_at_call 184
 refine (name_ok hD hP1).mono ?_
 rintro E w2 hE
 rcases hE with ⟨hv, rfl, hP2, hq⟩ | ⟨hv, rfl, hq⟩
 rotate_left 1
 ·rw [hv] at hR; simp only [Rs.bind_bad] at hR; go_wp2_with fail; exact ⟨rfl, retBad (hk1.call (Nat.le_refl _) hq) hR.symm⟩
 rw [hv] at hR
 simp only [yO, yA] at hR
 clear hv
 obtain ⟨hk2, _, _⟩ := kc hk1 hq
 have hxR_2 := kx hq hxR_1
 unfold tokA
 go_wp2_with fail
 go_at_call 178
 refine (none_okA _ _).mono ?_
 rintro E w3 ⟨rfl, hq⟩
 obtain ⟨hk3, _, _⟩ := kd hk2 hq
 have hP3 := hP2.later hq
 have hxR_3 := kb hq hxR_2
 go_upto_region 2 with fail
 have hb4 := (Below.refl w3.heap.size w3).alloc (Nat.le_refl _) (.cells #[.int .i64 (hd e l).kind, .string (hd e l).text, .int .i64 (hd e l).pos] 39)
 have hxk_4 := heap_alloc_new w3 (.cells #[.int .i64 (hd e l).kind, .string (hd e l).text, .int .i64 (hd e l).pos] 39)
 have hse4 : w3.heap.size + 1 ≤ (w3.alloc (.cells #[.int .i64 (hd e l).kind, .string (hd e l).text, .int .i64 (hd e l).pos] 39)).heap.size := by simp
 have hszE4 := Lh (show (w3.alloc (.cells #[.int .i64 (hd e l).kind, .string (hd e l).text, .int .i64 (hd e l).pos] 39)).heap.size = w3.heap.size + 1 by simp)
 generalize w3.alloc (.cells #[.int .i64 (hd e l).kind, .string (hd e l).text, .int .i64 (hd e l).pos] 39) = w4 at *
 obtain ⟨hk4, _, _⟩ := kd hk3 hb4
 have hP4 := hP3.later hb4
 have hxR_4 := kb hb4 hxR_3
 generalize hG : w4.alloc (.cells #[.int .i64 0, .int .i64 at_, .string ⟨#[]⟩, .bool false, .slice none 0 0, .slice none 0 0] 29) = w5 at *
 obtain ⟨hb5, hxb_5, _⟩ := nb hG
 clear hG
 obtain ⟨hk5, _, _⟩ := kd hk4 hb5
 have hP5 := hP4.later hb5
 have hxR_5 := kb hb5 hxR_4
 have hxk_5 := kb hb5 hxk_4
 rw [hszE4.out] at hxb_5
 go_wp2_with fail
 go_at_call 98
 refine (takeS_ok hD hC.s_28 hP5).mono ?_
 rintro E w6 hE
 rcases hE with ⟨hv, rfl, hP6, hq⟩ | ⟨hv, rfl, hP6, hq⟩
 ·simp only [hv, if_true, yO, yA] at hR; obtain ⟨hk6, hs6, hz6⟩ := kc hk5 hq; have hxR_6 := kx hq hxR_5; have hxk_6 := kx hq hxk_5; have hxb_6 := kx hq hxb_5; have n1 := Rs.ne_of hR hne; go_wp2_with fail
  go_at_call 100
  refine (HA.pexpr X _ _ hP6 n1).mono ?_
  rintro E w7 hE
  rcases hE with ⟨cc, aa, hv, rfl, hq⟩ | ⟨T1, l1, A1, c1, K1, d1, hv, rfl, hP7, hF1_7, hq⟩
  ·exact lv65
  rw [hv] at hR; simp only [yO, yA] at hR; clear hv n1; have hF1_7 := hF1_7.intoN (P := Nn) (lo := w.heap.size + 1) (x := (w3.heap.size + 1)) lq17 lq17; obtain ⟨hk7, hs7, hz7⟩ := kc hk6 hq; have hxR_7 := kx hq hxR_6; have hxk_7 := kx hq hxk_6; have hxb_7 := kx hq hxb_6; unfold ndV; obtain ⟨k0, k1, k2, k3, k4, k5⟩ := bx_cells hxb_7; have z := Lib.frozen_of_heap hxb_7
  go_upto_region 4 with fail
  clear k0 k1 k2 k3 k4 k5 z; have hxb_8 := bx_put hxb_7 (u0 := .int .i64 T1.kind) (u1 := .int .i64 T1.pos) (u2 := .string T1.text) (u3 := .bool T1.neg) (u4 := .slice A1 T1.mag.length c1) (u5 := .slice K1 T1.kids.length d1); have hxR_8 := (bx_off (b := (w3.heap.size + 1)) (u0 := .int .i64 T1.kind) (u1 := .int .i64 T1.pos) (u2 := .string T1.text) (u3 := .bool T1.neg) (u4 := .slice A1 T1.mag.length c1) (u5 := .slice K1 T1.kids.length d1) lq17).trans hxR_7
  have hxk_8 := (bx_off (b := (w3.heap.size + 1)) (u0 := .int .i64 T1.kind) (u1 := .int .i64 T1.pos) (u2 := .string T1.text) (u3 := .bool T1.neg) (u4 := .slice A1 T1.mag.length c1) (u5 := .slice K1 T1.kids.length d1) lq17).trans hxk_7; have hF1_8 := hF1_7.put6 (b := (w3.heap.size + 1)) (u0 := .int .i64 T1.kind) (u1 := .int .i64 T1.pos) (u2 := .string T1.text) (u3 := .bool T1.neg) (u4 := .slice A1 T1.mag.length c1) (u5 := .slice K1 T1.kids.length d1) lq17 (fun h => h.elim)
  have hk8 := bx_kp hk7 (b := (w3.heap.size + 1)) (u0 := .int .i64 T1.kind) (u1 := .int .i64 T1.pos) (u2 := .string T1.text) (u3 := .bool T1.neg) (u4 := .slice A1 T1.mag.length c1) (u5 := .slice K1 T1.kids.length d1) lq17; have hP8 := hP7.blocks (fun k hk => bx_off (b := (w3.heap.size + 1)) (u0 := .int .i64 T1.kind) (u1 := .int .i64 T1.pos) (u2 := .string T1.text) (u3 := .bool T1.neg) (u4 := .slice A1 T1.mag.length c1) (u5 := .slice K1 T1.kids.length d1) lq17)
  have hs8 : w7.heap.size ≤ ((((((w7.setCell ⟨(w3.heap.size + 1), 0, none⟩ (.int .i64 T1.kind)).setCell ⟨(w3.heap.size + 1), 1, none⟩ (.int .i64 T1.pos)).setCell ⟨(w3.heap.size + 1), 2, none⟩ (.string T1.text)).setCell ⟨(w3.heap.size + 1), 3, none⟩ (.bool T1.neg)).setCell ⟨(w3.heap.size + 1), 4, none⟩ (.slice A1 T1.mag.length c1)).setCell ⟨(w3.heap.size + 1), 5, none⟩ (.slice K1 T1.kids.length d1)).heap.size := Nat.le_of_eq bx_size.symm
  have hss8 : ((((((w7.setCell ⟨(w3.heap.size + 1), 0, none⟩ (.int .i64 T1.kind)).setCell ⟨(w3.heap.size + 1), 1, none⟩ (.int .i64 T1.pos)).setCell ⟨(w3.heap.size + 1), 2, none⟩ (.string T1.text)).setCell ⟨(w3.heap.size + 1), 3, none⟩ (.bool T1.neg)).setCell ⟨(w3.heap.size + 1), 4, none⟩ (.slice A1 T1.mag.length c1)).setCell ⟨(w3.heap.size + 1), 5, none⟩ (.slice K1 T1.kids.length d1)).heap.size ≤ w7.heap.size := Nat.le_of_eq bx_size; have hz8 := hk8.size
  generalize ((((((w7.setCell ⟨(w3.heap.size + 1), 0, none⟩ (.int .i64 T1.kind)).setCell ⟨(w3.heap.size + 1), 1, none⟩ (.int .i64 T1.pos)).setCell ⟨(w3.heap.size + 1), 2, none⟩ (.string T1.text)).setCell ⟨(w3.heap.size + 1), 3, none⟩ (.bool T1.neg)).setCell ⟨(w3.heap.size + 1), 4, none⟩ (.slice A1 T1.mag.length c1)).setCell ⟨(w3.heap.size + 1), 5, none⟩ (.slice K1 T1.kids.length d1)) = w8 at *
  go_wp2_with fail
  go_at_call 103
  refine (needS_ok hD hC.s_29 hP8).mono ?_
  rintro E w9 hE
  rcases hE with ⟨hv, rfl, hP9, hq⟩ | ⟨hv, rfl, hq⟩
  rotate_left 1
  ·exact lv54
  simp only [needS, hv, if_true, Rs.bind_ok, Rs.bind_assoc] at hR; obtain ⟨hk9, hs9, hz9⟩ := kc hk8 hq; have hxR_9 := kx hq hxR_8; have hxk_9 := kx hq hxk_8; have hxb_9 := kx hq hxb_8; have hF1_9 := hF1_8.kp hq (Old.nn X _) lq17; have n1 := Rs.ne_of hR hne
  go_upto_region 5 with fail
  refine region_anyZ (fun W => W.heap[w3.heap.size]? = some (.cells #[.int .i64 (hd e l).kind, .string (hd e l).text, .int .i64 (hd e l).pos] 39) ∧ W.heap[(w3.heap.size + 1)]? = some (.cells #[.int .i64 T1.kind, .int .i64 T1.pos, .string T1.text, .bool T1.neg, .slice A1 T1.mag.length c1, .slice K1 T1.kids.length d1] 29)) 8 lq15 ?_
  refine zt 0 (.int .i64 at_) rfl (Or.inl ⟨by rfl, ?_⟩) ⟨hxk_9, hxb_9⟩ ?_
  ·exact lv44
  try simp only [Act.put, xA, xB, xC]
  refine zt 1 (.pointer (some ⟨w3.heap.size, 1, none⟩)) rfl (Or.inl ⟨by rfl, ?_⟩) ⟨hxk_9, hxb_9⟩ ?_
  ·exact lv44
  try simp only [Act.put, xA, xB, xC]
  refine zt 2 (.string (hd e l).text) rfl (Or.inl ⟨by rfl, ?_⟩) ⟨hxk_9, hxb_9⟩ ?_
  ·exact lv44
  try simp only [Act.put, xA, xB, xC]
  refine zt 3 (.agg #[.int .i64 T1.kind, .int .i64 T1.pos, .string T1.text, .bool T1.neg, .slice A1 T1.mag.length c1, .slice K1 T1.kids.length d1]) rfl (Or.inl ⟨by rfl, ?_⟩) ⟨hxk_9, hxb_9⟩ ?_
  ·exact lv44
  try simp only [Act.put, xA, xB, xC]
  refine zt 4 (.pointer (some ⟨X, 0, none⟩)) rfl (Or.inl ⟨by rfl, ?_⟩) ⟨hxk_9, hxb_9⟩ ?_
  ·exact lv44
  try simp only [Act.put, xA, xB, xC]
  refine zo 5 rfl fun K hK => ?_
  go_simp
  go_at_call 101
  refine (HA.pblock X _ _ (hP9.later (bl_drew (Below.refl _ _))) n1).mono ?_
  rintro E w10 hE
  rcases hE with ⟨cc, aa, hv, rfl, hq⟩ | ⟨T2, l2, A2, c2, K2, d2, hv, rfl, hP10, hF2_10, hq⟩
  ·rw [hv] at hR; exact ⟨rfl, retBad (hk9.call (Nat.le_refl _) (kp_undrew hq)) hR.symm⟩
  rw [hv] at hR; simp only [yO, yA] at hR; clear hv n1; have hq := kp_undrew hq; have hdr10 : w9.drew.heap.size = w9.heap.size := rfl; have hF2_10 := hF2_10.intoN (P := Nn) (lo := w.heap.size + 1) (x := (w3.heap.size + 1)) lq17 lq17; obtain ⟨hk10, _, _⟩ := kc hk9 hq; have hxR_10 := kx hq hxR_9; have hxk_10 := kx hq hxk_9; have hxb_10 := kx hq hxb_9; have hF1_10 := hF1_9.kp hq (Old.nn X _) lq17; unfold ndV
  refine hK.out _ _ (fun _ => ⟨hxk_10, hxb_10⟩) ?_
  clear hK K
  try simp only [Act.put, xA, xB, xC]
  refine zo 6 rfl fun K hK => ?_
  go_simp
  have hro := row_made (P := Nn) (lo := w.heap.size + 1) (x := (w3.heap.size + 1)) (X := X) w10 [⟨T1, A1, c1, K1, d1⟩, ⟨T2, A2, c2, K2, d2⟩] #[.int .i64 T1.kind, .int .i64 T1.pos, .string T1.text, .bool T1.neg, .slice A1 T1.mag.length c1, .slice K1 T1.kids.length d1, .int .i64 T2.kind, .int .i64 T2.pos, .string T2.text, .bool T2.neg, .slice A2 T2.mag.length c2, .slice K2 T2.kids.length d2] 2 rfl rfl lq17 lq17 lq16 (Old.nn X _) (by
   intro q hq; simp only [List.mem_cons, List.not_mem_nil, or_false] at hq
   rcases hq with rfl | rfl <;> assumption)
  generalize hG : w10.alloc (.cells #[.int .i64 T1.kind, .int .i64 T1.pos, .string T1.text, .bool T1.neg, .slice A1 T1.mag.length c1, .slice K1 T1.kids.length d1, .int .i64 T2.kind, .int .i64 T2.pos, .string T2.text, .bool T2.neg, .slice A2 T2.mag.length c2, .slice K2 T2.kids.length d2] 29) = w11 at *
  obtain ⟨hb11, _, _⟩ := nb hG; clear hG; obtain ⟨hk11, _, _⟩ := kd hk10 hb11; have hP11 := hP10.later hb11; have hxR_11 := kb hb11 hxR_10; have hxk_11 := kb hb11 hxk_10; have hxb_11 := kb hb11 hxb_10; have hF1_11 := hF1_10.later hb11 (Old.nn X _); have hF2_11 := hF2_10.later hb11 (Old.nn X _)
  refine hK.out _ _ (fun _ => ⟨hxk_11, hxb_11⟩) ?_
  clear hK K
  try simp only [Act.put, xA, xB, xC]
  have hFz_11 := hro.node (k := 20) (p := at_) (t := (hd e l).text) ⟨by decide, by decide⟩ hat hts false; clear hro
  refine zo 7 rfl fun K hK => ?_
  go_simp
  go_at_call 54
  refine (node_okA _ _ _ _ _ _ _).mono ?_
  rintro E w12 ⟨rfl, hq⟩; obtain ⟨hk12, _, _⟩ := kd hk11 hq; have hP12 := hP11.later hq; have hxR_12 := kb hq hxR_11; have hxk_12 := kb hq hxk_11; have hxb_12 := kb hq hxb_11; have hF1_12 := hF1_11.later hq (Old.nn X _); have hF2_12 := hF2_11.later hq (Old.nn X _); have hFz_12 := hFz_11.later hq (Old.nn X _)
  refine hK.out _ _ (fun _ => ⟨hxk_12, hxb_12⟩) ?_
  clear hK K
  try simp only [Act.put, xA, xB, xC]
  obtain ⟨k0, k1, k2, k3, k4, k5⟩ := bx_cells hxR_12; have z := Lib.frozen_of_heap hxR_12
  refine zo 8 rfl fun K hK => ?_
  go_simp
  refine hK.out _ _ (fun h => absurd rfl h) ?_
  clear hK K k0 k1 k2 k3 k4 k5 z
  try simp only [Act.put, xA, xB, xC]
  refine anyZ_end lq15 ?_ _
  have HE := Lh (show _ ∧ _ ∧ _ from ⟨hk12, hP12, hFz_12⟩); obtain ⟨r0, r1, r2, r3, r4, r5⟩ := bp hxR_12 (.int .i64 20) (.int .i64 at_) (.string (hd e l).text) (.bool false) (.slice none 0 0) (.slice (some ⟨w10.heap.size, 0, none⟩) 2 2); clear hxR_12 hxk_12 hxb_12 hF1_12 hF2_12 hFz_12 hk12 hP12; go_wp2_with fail
  refine bodyPost_ret (v := .agg #[.int .i64 20, .int .i64 at_, .string (hd e l).text, .bool false, .slice none 0 0, .slice (some ⟨w10.heap.size, 0, none⟩) 2 2]) (by simp [results, Tryz.results106, go_sem, r0, r1, r2, r3, r4, r5, ndV]) rfl ?_
  exact lv74
 ·simp only [hv, yF, if_false, yO, yA] at hR; obtain ⟨hk6, hs6, hz6⟩ := kc hk5 hq; have hxR_6 := kx hq hxR_5; have hxk_6 := kx hq hxk_5; have hxb_6 := kx hq hxb_5; have hFy_6 := (RowS.nil Nn (w.heap.size + 1) ((w3.heap.size + 1)) w6).node (k := 0) (p := at_) (t := ⟨#[]⟩) ⟨by decide, by decide⟩ hat lq16 false; have n1 := Rs.ne_of hR hne
  go_upto_region 5 with fail
  refine region_anyZ (fun W => W.heap[w3.heap.size]? = some (.cells #[.int .i64 (hd e l).kind, .string (hd e l).text, .int .i64 (hd e l).pos] 39) ∧ W.heap[(w3.heap.size + 1)]? = some (.cells #[.int .i64 0, .int .i64 at_, .string ⟨#[]⟩, .bool false, .slice none 0 0, .slice none 0 0] 29)) 8 lq15 ?_
  refine zt 0 (.int .i64 at_) rfl (Or.inl ⟨by rfl, ?_⟩) ⟨hxk_6, hxb_6⟩ ?_
  ·exact lv44
  try simp only [Act.put, xA, xB, xC]
  refine zt 1 (.pointer (some ⟨w3.heap.size, 1, none⟩)) rfl (Or.inl ⟨by rfl, ?_⟩) ⟨hxk_6, hxb_6⟩ ?_
  ·exact lv44
  try simp only [Act.put, xA, xB, xC]
  refine zt 2 (.string (hd e l).text) rfl (Or.inl ⟨by rfl, ?_⟩) ⟨hxk_6, hxb_6⟩ ?_
  ·exact lv44
  try simp only [Act.put, xA, xB, xC]
  refine zt 3 (.agg #[.int .i64 0, .int .i64 at_, .string ⟨#[]⟩, .bool false, .slice none 0 0, .slice none 0 0]) rfl (Or.inl ⟨by rfl, ?_⟩) ⟨hxk_6, hxb_6⟩ ?_
  ·exact lv44
  try simp only [Act.put, xA, xB, xC]
  refine zt 4 (.pointer (some ⟨X, 0, none⟩)) rfl (Or.inl ⟨by rfl, ?_⟩) ⟨hxk_6, hxb_6⟩ ?_
  ·exact lv44
  try simp only [Act.put, xA, xB, xC]
  refine zo 5 rfl fun K hK => ?_
  go_simp
  go_at_call 101
  refine (HA.pblock X _ _ (hP6.later (bl_drew (Below.refl _ _))) n1).mono ?_
  rintro E w7 hE
  rcases hE with ⟨cc, aa, hv, rfl, hq⟩ | ⟨T2, l2, A2, c2, K2, d2, hv, rfl, hP7, hF2_7, hq⟩
  ·exact lv69
  rw [hv] at hR; simp only [yO, yA] at hR; clear hv n1; have hq := kp_undrew hq; have hdr7 : w6.drew.heap.size = w6.heap.size := rfl; have hF2_7 := hF2_7.intoN (P := Nn) (lo := w.heap.size + 1) (x := (w3.heap.size + 1)) lq17 lq17; obtain ⟨hk7, hs7, hz7⟩ := kc hk6 hq; have hxR_7 := kx hq hxR_6; have hxk_7 := kx hq hxk_6; have hxb_7 := kx hq hxb_6; have hFy_7 := hFy_6.kp hq (Old.nn X _) lq17; unfold ndV
  refine hK.out _ _ (fun _ => ⟨hxk_7, hxb_7⟩) ?_
  clear hK K
  try simp only [Act.put, xA, xB, xC]
  refine zo 6 rfl fun K hK => ?_
  go_simp
  have hro := row_made (P := Nn) (lo := w.heap.size + 1) (x := (w3.heap.size + 1)) (X := X) w7 [⟨Nd.mk 0 at_ ⟨#[]⟩ false [] [], none, 0, none, 0⟩, ⟨T2, A2, c2, K2, d2⟩] #[.int .i64 0, .int .i64 at_, .string ⟨#[]⟩, .bool false, .slice none 0 0, .slice none 0 0, .int .i64 T2.kind, .int .i64 T2.pos, .string T2.text, .bool T2.neg, .slice A2 T2.mag.length c2, .slice K2 T2.kids.length d2] 2 rfl rfl lq17 lq17 lq16 (Old.nn X _) (by
   intro q hq; simp only [List.mem_cons, List.not_mem_nil, or_false] at hq
   rcases hq with rfl | rfl <;> assumption)
  generalize hG : w7.alloc (.cells #[.int .i64 0, .int .i64 at_, .string ⟨#[]⟩, .bool false, .slice none 0 0, .slice none 0 0, .int .i64 T2.kind, .int .i64 T2.pos, .string T2.text, .bool T2.neg, .slice A2 T2.mag.length c2, .slice K2 T2.kids.length d2] 29) = w8 at *
  obtain ⟨hb8, _, _⟩ := nb hG; clear hG; obtain ⟨hk8, hs8, hz8⟩ := kd hk7 hb8; have hP8 := hP7.later hb8; have hxR_8 := kb hb8 hxR_7; have hxk_8 := kb hb8 hxk_7; have hxb_8 := kb hb8 hxb_7; have hFy_8 := hFy_7.later hb8 (Old.nn X _); have hF2_8 := hF2_7.later hb8 (Old.nn X _)
  refine hK.out _ _ (fun _ => ⟨hxk_8, hxb_8⟩) ?_
  clear hK K
  try simp only [Act.put, xA, xB, xC]
  have hFz_8 := hro.node (k := 20) (p := at_) (t := (hd e l).text) ⟨by decide, by decide⟩ hat hts false; clear hro
  refine zo 7 rfl fun K hK => ?_
  go_simp
  go_at_call 54
  refine (node_okA _ _ _ _ _ _ _).mono ?_
  rintro E w9 ⟨rfl, hq⟩; obtain ⟨hk9, hs9, hz9⟩ := kd hk8 hq; have hP9 := hP8.later hq; have hxR_9 := kb hq hxR_8; have hxk_9 := kb hq hxk_8; have hxb_9 := kb hq hxb_8; have hFy_9 := hFy_8.later hq (Old.nn X _); have hF2_9 := hF2_8.later hq (Old.nn X _); have hFz_9 := hFz_8.later hq (Old.nn X _)
  refine hK.out _ _ (fun _ => ⟨hxk_9, hxb_9⟩) ?_
  clear hK K
  try simp only [Act.put, xA, xB, xC]
  obtain ⟨k0, k1, k2, k3, k4, k5⟩ := bx_cells hxR_9; have z := Lib.frozen_of_heap hxR_9
  refine zo 8 rfl fun K hK => ?_
  go_simp
  refine hK.out _ _ (fun h => absurd rfl h) ?_
  clear hK K k0 k1 k2 k3 k4 k5 z
  try simp only [Act.put, xA, xB, xC]
  refine anyZ_end lq15 ?_ _
  have HE := Lh (show _ ∧ _ ∧ _ from ⟨hk9, hP9, hFz_9⟩); obtain ⟨r0, r1, r2, r3, r4, r5⟩ := bp hxR_9 (.int .i64 20) (.int .i64 at_) (.string (hd e l).text) (.bool false) (.slice none 0 0) (.slice (some ⟨w7.heap.size, 0, none⟩) 2 2); clear hxR_9 hxk_9 hxb_9 hFy_9 hF2_9 hFz_9 hk9 hP9; go_wp2_with fail
  refine bodyPost_ret (v := .agg #[.int .i64 20, .int .i64 at_, .string (hd e l).text, .bool false, .slice none 0 0, .slice (some ⟨w7.heap.size, 0, none⟩) 2 2]) (by simp [results, Tryz.results106, go_sem, r0, r1, r2, r3, r4, r5, ndV]) rfl ?_
  exact lv74
theorem pStatement_ok (hD : Deps wB nB gB nO) (hC : Cst wB) (hdef : CI e 105 (fun a l => defQ nB e p a l)) (hclass : CI e 106 (fun a l => classQ nB e p a l)) (htry : CI e 107 (fun a l => tryQ e p a l)) (HA : PA e p) : CN e 56 (fun l => s_stmt nB e p l) := by
 intro X l w hP0 hne
 obtain ⟨R, hR⟩ : ∃ R, s_stmt nB e p l = R := ⟨_, rfl⟩
 simp only [hR] at hne ⊢
 rw [stmt_eq] at hR
 have hpos := hP0.hd.2.1
 have hXl := hP0.lt
 have hk0 : Kp w.heap.size X w w := Kp.refl _ _ _
 have hz0 := hk0.size
 go_enter Tryz.func56, Tryz.ntmps56
 go_upto_region 1 with fail
 generalize hG : w.alloc zN = w1 at *
 obtain ⟨hb1, hxR_1, _⟩ := nb hG
 clear hG
 obtain ⟨hk1, _, _⟩ := kd hk0 hb1
 have hP1 := hP0.later hb1
 go_wp2_with fail
 go_at_call 55
 refine (next_ok hP1).mono ?_
 rintro E w2 ⟨rfl, hq⟩
 obtain ⟨hk2, _, _⟩ := kd hk1 hq
 have hP2 := hP1.later hq
 have hxR_2 := kb hq hxR_1
 have F2_2 := tfield2 (hd e l).kind (hd e l).text (hd e l).pos
 unfold tokA
 go_wp2_with fail
 go_at_call 98
 refine (takeW_ok hD hC.w_if hP2).mono ?_
 rintro E w3 hE
 rcases hE with ⟨hv, rfl, hP3, hq⟩ | ⟨hv, rfl, hP3, hq⟩
 ·simp only [hv, if_true, yO, yA] at hR; obtain ⟨hk3, hs3, hz3⟩ := kc hk2 hq; have hxR_3 := kx hq hxR_2; have n1 := ne_tail hR hne; go_wp2_with fail
  go_at_call 99
  refine (HA.pchoice (hd e l).pos X _ _ hpos hP3 n1).mono ?_
  rintro E w4 hE
  rcases hE with ⟨cc, aa, hv, rfl, hq⟩ | ⟨T1, l1, A1, c1, K1, d1, hv, rfl, hP4, hF1_4, hq⟩
  ·(try dsimp only at hv)
   exact lv60
  (try dsimp only at hv)
  rw [hv] at hR; clear hv n1; have hF1_4 := hF1_4.intoN (P := Nn) (lo := w.heap.size + 1) (x := X) lq17 lq17; obtain ⟨hk4, hs4, hz4⟩ := kc hk3 hq; have hxR_4 := kx hq hxR_3; unfold ndV; have HE := Lh (show _ ∧ _ ∧ _ from ⟨hk4, hP4, hF1_4⟩); obtain ⟨k0, k1, k2, k3, k4, k5⟩ := bx_cells hxR_4; have z := Lib.frozen_of_heap hxR_4; obtain ⟨r0, r1, r2, r3, r4, r5⟩ := bp hxR_4 (.int .i64 T1.kind) (.int .i64 T1.pos) (.string T1.text) (.bool T1.neg) (.slice A1 T1.mag.length c1) (.slice K1 T1.kids.length d1); clear hxR_4 hF1_4 hk4 hP4; exact lv53
 ·simp only [hv, yF, if_false, yO, yA] at hR; obtain ⟨hk3, hs3, hz3⟩ := kc hk2 hq; have hxR_3 := kx hq hxR_2; go_wp2_with fail
  go_at_call 98
  refine (takeW_ok hD hC.w_while hP3).mono ?_
  rintro E w4 hE
  rcases hE with ⟨hv, rfl, hP4, hq⟩ | ⟨hv, rfl, hP4, hq⟩
  ·simp only [hv, if_true, yO, yA] at hR; obtain ⟨hk4, hs4, hz4⟩ := kc hk3 hq; have hxR_4 := kx hq hxR_3; have n1 := Rs.ne_of hR hne; go_wp2_with fail
   go_at_call 100
   refine (HA.pexpr X _ _ hP4 n1).mono ?_
   rintro E w5 hE
   rcases hE with ⟨cc, aa, hv, rfl, hq⟩ | ⟨T1, l1, A1, c1, K1, d1, hv, rfl, hP5, hF1_5, hq⟩
   ·exact lv62
   rw [hv] at hR; simp only [yO, yA] at hR; clear hv n1; have hF1_5 := hF1_5.intoN (P := Nn) (lo := w.heap.size + 1) (x := X) lq17 lq17; obtain ⟨hk5, hs5, hz5⟩ := kc hk4 hq; have hxR_5 := kx hq hxR_4; unfold ndV
   go_upto_region 6 with fail
   generalize hG : w5.alloc (oN T1 A1 c1 K1 d1) = w6 at *
   obtain ⟨hb6, hxn_6, _⟩ := nb hG; clear hG; obtain ⟨hk6, hs6, hz6⟩ := kd hk5 hb6; have hP6 := hP5.later hb6; have hxR_6 := kb hb6 hxR_5; have hF1_6 := hF1_5.later hb6 (Old.nn X _); have n1 := Rs.ne_of hR hne
   go_upto_region 6 with fail
   refine region_anyZ (fun W => W.heap[w5.heap.size]? = some (.cells #[.int .i64 T1.kind, .int .i64 T1.pos, .string T1.text, .bool T1.neg, .slice A1 T1.mag.length c1, .slice K1 T1.kids.length d1] 29)) 6 lq15 ?_
   refine zt 0 (.int .i64 (hd e l).pos) rfl (Or.inl ⟨by rfl, ?_⟩) hxn_6 ?_
   ·exact lv56
   try simp only [Act.put, xA, xB, xC]
   refine zt 1 (.agg #[.int .i64 T1.kind, .int .i64 T1.pos, .string T1.text, .bool T1.neg, .slice A1 T1.mag.length c1, .slice K1 T1.kids.length d1]) rfl (Or.inl ⟨by rfl, ?_⟩) hxn_6 ?_
   ·exact lv56
   try simp only [Act.put, xA, xB, xC]
   refine zt 2 (.pointer (some ⟨X, 0, none⟩)) rfl (Or.inl ⟨by rfl, ?_⟩) hxn_6 ?_
   ·exact lv56
   try simp only [Act.put, xA, xB, xC]
   refine zo 3 rfl fun K hK => ?_
   go_simp
   go_at_call 101
   refine (HA.pblock X _ _ (hP6.later (bl_drew (Below.refl _ _))) n1).mono ?_
   rintro E w7 hE
   rcases hE with ⟨cc, aa, hv, rfl, hq⟩ | ⟨T2, l2, A2, c2, K2, d2, hv, rfl, hP7, hF2_7, hq⟩
   ·exact lv69
   rw [hv] at hR; simp only [yO, yA] at hR; clear hv n1; have hq := kp_undrew hq; have hdr7 : w6.drew.heap.size = w6.heap.size := rfl; have hF2_7 := hF2_7.intoN (P := Nn) (lo := w.heap.size + 1) (x := X) lq17 lq17; obtain ⟨hk7, hs7, hz7⟩ := kc hk6 hq; have hxR_7 := kx hq hxR_6; have hxn_7 := kx hq hxn_6; have hF1_7 := hF1_6.kp hq (Old.nn X _) lq17; unfold ndV
   refine hK.out _ _ (fun _ => hxn_7) ?_
   clear hK K
   try simp only [Act.put, xA, xB, xC]
   refine zo 4 rfl fun K hK => ?_
   go_simp
   have hro := row_made (P := Nn) (lo := w.heap.size + 1) (x := X) (X := X) w7 [⟨T1, A1, c1, K1, d1⟩, ⟨T2, A2, c2, K2, d2⟩] #[.int .i64 T1.kind, .int .i64 T1.pos, .string T1.text, .bool T1.neg, .slice A1 T1.mag.length c1, .slice K1 T1.kids.length d1, .int .i64 T2.kind, .int .i64 T2.pos, .string T2.text, .bool T2.neg, .slice A2 T2.mag.length c2, .slice K2 T2.kids.length d2] 2 rfl rfl lq17 lq17 lq16 (Old.nn X _) (by
    intro q hq; simp only [List.mem_cons, List.not_mem_nil, or_false] at hq
    rcases hq with rfl | rfl <;> assumption)
   generalize hG : w7.alloc (.cells #[.int .i64 T1.kind, .int .i64 T1.pos, .string T1.text, .bool T1.neg, .slice A1 T1.mag.length c1, .slice K1 T1.kids.length d1, .int .i64 T2.kind, .int .i64 T2.pos, .string T2.text, .bool T2.neg, .slice A2 T2.mag.length c2, .slice K2 T2.kids.length d2] 29) = w8 at *
   obtain ⟨hb8, _, _⟩ := nb hG; clear hG; obtain ⟨hk8, hs8, hz8⟩ := kd hk7 hb8; have hP8 := hP7.later hb8; have hxR_8 := kb hb8 hxR_7; have hxn_8 := kb hb8 hxn_7; have hF1_8 := hF1_7.later hb8 (Old.nn X _); have hF2_8 := hF2_7.later hb8 (Old.nn X _)
   refine hK.out _ _ (fun _ => hxn_8) ?_
   clear hK K
   try simp only [Act.put, xA, xB, xC]
   have hFz_8 := hro.node (k := 16) (p := (hd e l).pos) (t := ⟨#[]⟩) ⟨by decide, by decide⟩ hpos lq16 false; clear hro
   refine zo 5 rfl fun K hK => ?_
   go_simp
   go_at_call 54
   refine (node_okA _ _ _ _ _ _ _).mono ?_
   rintro E w9 ⟨rfl, hq⟩; obtain ⟨hk9, hs9, hz9⟩ := kd hk8 hq; have hP9 := hP8.later hq; have hxR_9 := kb hq hxR_8; have hxn_9 := kb hq hxn_8; have hF1_9 := hF1_8.later hq (Old.nn X _); have hF2_9 := hF2_8.later hq (Old.nn X _); have hFz_9 := hFz_8.later hq (Old.nn X _)
   refine hK.out _ _ (fun _ => hxn_9) ?_
   clear hK K
   try simp only [Act.put, xA, xB, xC]
   obtain ⟨k0, k1, k2, k3, k4, k5⟩ := bx_cells hxR_9; have z := Lib.frozen_of_heap hxR_9
   refine zo 6 rfl fun K hK => ?_
   go_simp
   refine hK.out _ _ (fun h => absurd rfl h) ?_
   clear hK K k0 k1 k2 k3 k4 k5 z
   try simp only [Act.put, xA, xB, xC]
   refine anyZ_end lq15 ?_ _
   have HE := Lh (show _ ∧ _ ∧ _ from ⟨hk9, hP9, hFz_9⟩); obtain ⟨r0, r1, r2, r3, r4, r5⟩ := bp hxR_9 (.int .i64 16) (.int .i64 ((hd e l).pos)) (.string ⟨#[]⟩) (.bool false) (.slice none 0 0) (.slice (some ⟨w7.heap.size, 0, none⟩) 2 2); clear hxR_9 hxn_9 hF1_9 hF2_9 hFz_9 hk9 hP9; go_wp2_with fail
   refine bodyPost_ret (v := .agg #[.int .i64 16, .int .i64 ((hd e l).pos), .string ⟨#[]⟩, .bool false, .slice none 0 0, .slice (some ⟨w7.heap.size, 0, none⟩) 2 2]) lq8 rfl ?_
   exact lv74
  ·simp only [hv, yF, if_false, yO, yA] at hR; obtain ⟨hk4, hs4, hz4⟩ := kc hk3 hq; have hxR_4 := kx hq hxR_3; go_wp2_with fail
   go_at_call 98
   refine (takeW_ok hD hC.w_for hP4).mono ?_
   rintro E w5 hE
   rcases hE with ⟨hv, rfl, hP5, hq⟩ | ⟨hv, rfl, hP5, hq⟩
   ·simp only [hv, if_true, yO, yA] at hR; obtain ⟨hk5, hs5, hz5⟩ := kc hk4 hq; have hxR_5 := kx hq hxR_4; have n1 := Rs.ne_of hR hne; go_wp2_with fail
    go_at_call 102
    refine (HA.ptargets X _ _ hP5 n1).mono ?_
    rintro E w6 hE
    rcases hE with ⟨cc, aa, hv, rfl, hq⟩ | ⟨T1, l1, A1, c1, K1, d1, hv, rfl, hP6, hF1_6, hq⟩
    ·exact lv63
    rw [hv] at hR; simp only [yO, yA] at hR; clear hv n1; have hF1_6 := hF1_6.intoN (P := Nn) (lo := w.heap.size + 1) (x := X) lq17 lq17; obtain ⟨hk6, hs6, hz6⟩ := kc hk5 hq; have hxR_6 := kx hq hxR_5; unfold ndV
    go_upto_region 9 with fail
    generalize hG : w6.alloc (oN T1 A1 c1 K1 d1) = w7 at *
    obtain ⟨hb7, hxn_7, _⟩ := nb hG; clear hG; obtain ⟨hk7, hs7, hz7⟩ := kd hk6 hb7; have hP7 := hP6.later hb7; have hxR_7 := kb hb7 hxR_6; have hF1_7 := hF1_6.later hb7 (Old.nn X _); go_wp2_with fail
    go_at_call 103
    refine (needW_ok hD hC.w_in hP7).mono ?_
    rintro E w8 hE
    rcases hE with ⟨hv, rfl, hP8, hq⟩ | ⟨hv, rfl, hq⟩
    rotate_left 1
    ·simp only [needW, hv, Bool.false_eq_true, if_false, Rs.bind_bad] at hR; go_wp2_with fail; exact ⟨rfl, retBad (hk7.call (Nat.le_refl _) hq) hR.symm⟩
    simp only [needW, hv, if_true, Rs.bind_ok, Rs.bind_assoc] at hR; obtain ⟨hk8, hs8, hz8⟩ := kc hk7 hq; have hxR_8 := kx hq hxR_7; have hxn_8 := kx hq hxn_7; have hF1_8 := hF1_7.kp hq (Old.nn X _) lq17; have n1 := Rs.ne_of hR hne; go_wp2_with fail
    go_at_call 104
    refine (HA.pexprs X _ _ hP8 n1).mono ?_
    rintro E w9 hE
    rcases hE with ⟨cc, aa, hv, rfl, hq⟩ | ⟨T2, l2, A2, c2, K2, d2, hv, rfl, hP9, hF2_9, hq⟩
    ·exact lv66
    rw [hv] at hR; simp only [yO, yA] at hR; clear hv n1; have hF2_9 := hF2_9.intoN (P := Nn) (lo := w.heap.size + 1) (x := X) lq17 lq17; obtain ⟨hk9, hs9, hz9⟩ := kc hk8 hq; have hxR_9 := kx hq hxR_8; have hxn_9 := kx hq hxn_8; have hF1_9 := hF1_8.kp hq (Old.nn X _) lq17; unfold ndV
    go_upto_region 11 with fail
    generalize hG : w9.alloc (oN T2 A2 c2 K2 d2) = w10 at *
    obtain ⟨hb10, hxm_10, hse10⟩ := nb hG; clear hG; obtain ⟨hk10, hs10, hz10⟩ := kd hk9 hb10; have hP10 := hP9.later hb10; have hxR_10 := kb hb10 hxR_9; have hxn_10 := kb hb10 hxn_9; have hF1_10 := hF1_9.later hb10 (Old.nn X _); have hF2_10 := hF2_9.later hb10 (Old.nn X _); have n1 := Rs.ne_of hR hne
    go_upto_region 11 with fail
    refine region_anyZ (fun W => W.heap[w6.heap.size]? = some (.cells #[.int .i64 T1.kind, .int .i64 T1.pos, .string T1.text, .bool T1.neg, .slice A1 T1.mag.length c1, .slice K1 T1.kids.length d1] 29) ∧ W.heap[w9.heap.size]? = some (.cells #[.int .i64 T2.kind, .int .i64 T2.pos, .string T2.text, .bool T2.neg, .slice A2 T2.mag.length c2, .slice K2 T2.kids.length d2] 29)) 7 lq15 ?_
    refine zt 0 (.int .i64 (hd e l).pos) rfl (Or.inl ⟨by rfl, ?_⟩) ⟨hxn_10, hxm_10⟩ ?_
    ·exact lv42
    try simp only [Act.put, xA, xB, xC]
    refine zt 1 (.agg #[.int .i64 T1.kind, .int .i64 T1.pos, .string T1.text, .bool T1.neg, .slice A1 T1.mag.length c1, .slice K1 T1.kids.length d1]) rfl (Or.inl ⟨by rfl, ?_⟩) ⟨hxn_10, hxm_10⟩ ?_
    ·exact lv42
    try simp only [Act.put, xA, xB, xC]
    refine zt 2 (.agg #[.int .i64 T2.kind, .int .i64 T2.pos, .string T2.text, .bool T2.neg, .slice A2 T2.mag.length c2, .slice K2 T2.kids.length d2]) rfl (Or.inl ⟨by rfl, ?_⟩) ⟨hxn_10, hxm_10⟩ ?_
    ·exact lv42
    try simp only [Act.put, xA, xB, xC]
    refine zt 3 (.pointer (some ⟨X, 0, none⟩)) rfl (Or.inl ⟨by rfl, ?_⟩) ⟨hxn_10, hxm_10⟩ ?_
    ·exact lv42
    try simp only [Act.put, xA, xB, xC]
    refine zo 4 rfl fun K hK => ?_
    go_simp
    go_at_call 101
    refine (HA.pblock X _ _ (hP10.later (bl_drew (Below.refl _ _))) n1).mono ?_
    rintro E w11 hE
    rcases hE with ⟨cc, aa, hv, rfl, hq⟩ | ⟨T3, l3, A3, c3, K3, d3, hv, rfl, hP11, hF3_11, hq⟩
    ·rw [hv] at hR; exact ⟨rfl, retBad (hk10.call (Nat.le_refl _) (kp_undrew hq)) hR.symm⟩
    rw [hv] at hR; simp only [yO, yA] at hR; clear hv n1; have hq := kp_undrew hq; have hdr11 : w10.drew.heap.size = w10.heap.size := rfl; have hF3_11 := hF3_11.intoN (P := Nn) (lo := w.heap.size + 1) (x := X) lq17 lq17; obtain ⟨hk11, hs11, hz11⟩ := kc hk10 hq; have hxR_11 := kx hq hxR_10; have hxn_11 := kx hq hxn_10; have hxm_11 := kx hq hxm_10; have hF1_11 := hF1_10.kp hq (Old.nn X _) lq17; have hF2_11 := hF2_10.kp hq (Old.nn X _) lq17; unfold ndV
    refine hK.out _ _ (fun _ => ⟨hxn_11, hxm_11⟩) ?_
    clear hK K
    try simp only [Act.put, xA, xB, xC]
    refine zo 5 rfl fun K hK => ?_
    go_simp
    have hro := row_made (P := Nn) (lo := w.heap.size + 1) (x := X) (X := X) w11 [⟨T1, A1, c1, K1, d1⟩, ⟨T2, A2, c2, K2, d2⟩, ⟨T3, A3, c3, K3, d3⟩] #[.int .i64 T1.kind, .int .i64 T1.pos, .string T1.text, .bool T1.neg, .slice A1 T1.mag.length c1, .slice K1 T1.kids.length d1, .int .i64 T2.kind, .int .i64 T2.pos, .string T2.text, .bool T2.neg, .slice A2 T2.mag.length c2, .slice K2 T2.kids.length d2, .int .i64 T3.kind, .int .i64 T3.pos, .string T3.text, .bool T3.neg, .slice A3 T3.mag.length c3, .slice K3 T3.kids.length d3] 3 rfl rfl lq17 lq17 lq16 (Old.nn X _) (by
     intro q hq; simp only [List.mem_cons, List.not_mem_nil, or_false] at hq
     rcases hq with rfl | rfl | rfl <;> assumption)
    generalize hG : w11.alloc (.cells #[.int .i64 T1.kind, .int .i64 T1.pos, .string T1.text, .bool T1.neg, .slice A1 T1.mag.length c1, .slice K1 T1.kids.length d1, .int .i64 T2.kind, .int .i64 T2.pos, .string T2.text, .bool T2.neg, .slice A2 T2.mag.length c2, .slice K2 T2.kids.length d2, .int .i64 T3.kind, .int .i64 T3.pos, .string T3.text, .bool T3.neg, .slice A3 T3.mag.length c3, .slice K3 T3.kids.length d3] 29) = w12 at *
    obtain ⟨hb12, _, _⟩ := nb hG; clear hG; obtain ⟨hk12, _, _⟩ := kd hk11 hb12; have hP12 := hP11.later hb12; have hxR_12 := kb hb12 hxR_11; have hxn_12 := kb hb12 hxn_11; have hxm_12 := kb hb12 hxm_11; have hF1_12 := hF1_11.later hb12 (Old.nn X _); have hF2_12 := hF2_11.later hb12 (Old.nn X _); have hF3_12 := hF3_11.later hb12 (Old.nn X _)
    refine hK.out _ _ (fun _ => ⟨hxn_12, hxm_12⟩) ?_
    clear hK K
    try simp only [Act.put, xA, xB, xC]
    have hFz_12 := hro.node (k := 17) (p := (hd e l).pos) (t := ⟨#[]⟩) ⟨by decide, by decide⟩ hpos lq16 false; clear hro
    refine zo 6 rfl fun K hK => ?_
    go_simp
    go_at_call 54
    refine (node_okA _ _ _ _ _ _ _).mono ?_
    rintro E w13 ⟨rfl, hq⟩; obtain ⟨hk13, _, _⟩ := kd hk12 hq; have hP13 := hP12.later hq; have hxR_13 := kb hq hxR_12; have hxn_13 := kb hq hxn_12; have hxm_13 := kb hq hxm_12; have hF1_13 := hF1_12.later hq (Old.nn X _); have hF2_13 := hF2_12.later hq (Old.nn X _); have hF3_13 := hF3_12.later hq (Old.nn X _); have hFz_13 := hFz_12.later hq (Old.nn X _)
    refine hK.out _ _ (fun _ => ⟨hxn_13, hxm_13⟩) ?_
    clear hK K
    try simp only [Act.put, xA, xB, xC]
    obtain ⟨k0, k1, k2, k3, k4, k5⟩ := bx_cells hxR_13; have z := Lib.frozen_of_heap hxR_13
    refine zo 7 rfl fun K hK => ?_
    go_simp
    refine hK.out _ _ (fun h => absurd rfl h) ?_
    clear hK K k0 k1 k2 k3 k4 k5 z
    try simp only [Act.put, xA, xB, xC]
    refine anyZ_end lq15 ?_ _
    have HE := Lh (show _ ∧ _ ∧ _ from ⟨hk13, hP13, hFz_13⟩); obtain ⟨r0, r1, r2, r3, r4, r5⟩ := bp hxR_13 (.int .i64 17) (.int .i64 ((hd e l).pos)) (.string ⟨#[]⟩) (.bool false) (.slice none 0 0) (.slice (some ⟨w11.heap.size, 0, none⟩) 3 3); clear hxR_13 hxn_13 hxm_13 hF1_13 hF2_13 hF3_13 hFz_13 hk13 hP13; go_wp2_with fail
    refine bodyPost_ret (v := .agg #[.int .i64 17, .int .i64 ((hd e l).pos), .string ⟨#[]⟩, .bool false, .slice none 0 0, .slice (some ⟨w11.heap.size, 0, none⟩) 3 3]) lq8 rfl ?_
    exact lv74
   ·simp only [hv, yF, if_false, yO, yA] at hR; obtain ⟨hk5, hs5, hz5⟩ := kc hk4 hq; have hxR_5 := kx hq hxR_4; go_wp2_with fail
    go_at_call 98
    refine (takeW_ok hD hC.w_def hP5).mono ?_
    rintro E w6 hE
    rcases hE with ⟨hv, rfl, hP6, hq⟩ | ⟨hv, rfl, hP6, hq⟩
    ·simp only [hv, if_true, yO, yA] at hR; obtain ⟨hk6, hs6, hz6⟩ := kc hk5 hq; have hxR_6 := kx hq hxR_5; have n1 := ne_tail hR hne; go_wp2_with fail
     go_at_call 105
     refine (hdef (hd e l).pos X _ _ hpos hP6 n1).mono ?_
     rintro E w7 hE
     rcases hE with ⟨cc, aa, hv, rfl, hq⟩ | ⟨T1, l1, A1, c1, K1, d1, hv, rfl, hP7, hF1_7, hq⟩
     ·(try dsimp only at hv)
      exact lv65
     (try dsimp only at hv)
     rw [hv] at hR; clear hv n1; have hF1_7 := hF1_7.intoN (P := Nn) (lo := w.heap.size + 1) (x := X) lq17 lq17; obtain ⟨hk7, hs7, hz7⟩ := kc hk6 hq; have hxR_7 := kx hq hxR_6; unfold ndV; have HE := Lh (show _ ∧ _ ∧ _ from ⟨hk7, hP7, hF1_7⟩); obtain ⟨k0, k1, k2, k3, k4, k5⟩ := bx_cells hxR_7; have z := Lib.frozen_of_heap hxR_7; obtain ⟨r0, r1, r2, r3, r4, r5⟩ := bp hxR_7 (.int .i64 T1.kind) (.int .i64 T1.pos) (.string T1.text) (.bool T1.neg) (.slice A1 T1.mag.length c1) (.slice K1 T1.kids.length d1); clear hxR_7 hF1_7 hk7 hP7; exact lv53
    ·simp only [hv, yF, if_false, yO, yA] at hR; obtain ⟨hk6, hs6, hz6⟩ := kc hk5 hq; have hxR_6 := kx hq hxR_5; go_wp2_with fail
     go_at_call 98
     refine (takeW_ok hD hC.w_class hP6).mono ?_
     rintro E w7 hE
     rcases hE with ⟨hv, rfl, hP7, hq⟩ | ⟨hv, rfl, hP7, hq⟩
     ·simp only [hv, if_true, yO, yA] at hR; obtain ⟨hk7, hs7, hz7⟩ := kc hk6 hq; have hxR_7 := kx hq hxR_6; have n1 := ne_tail hR hne; go_wp2_with fail
      go_at_call 106
      refine (hclass (hd e l).pos X _ _ hpos hP7 n1).mono ?_
      rintro E w8 hE
      rcases hE with ⟨cc, aa, hv, rfl, hq⟩ | ⟨T1, l1, A1, c1, K1, d1, hv, rfl, hP8, hF1_8, hq⟩
      ·(try dsimp only at hv)
       exact lv64
      (try dsimp only at hv)
      rw [hv] at hR; clear hv n1; have hF1_8 := hF1_8.intoN (P := Nn) (lo := w.heap.size + 1) (x := X) lq17 lq17; obtain ⟨hk8, hs8, hz8⟩ := kc hk7 hq; have hxR_8 := kx hq hxR_7; unfold ndV; have HE := Lh (show _ ∧ _ ∧ _ from ⟨hk8, hP8, hF1_8⟩); obtain ⟨k0, k1, k2, k3, k4, k5⟩ := bx_cells hxR_8; have z := Lib.frozen_of_heap hxR_8; obtain ⟨r0, r1, r2, r3, r4, r5⟩ := bp hxR_8 (.int .i64 T1.kind) (.int .i64 T1.pos) (.string T1.text) (.bool T1.neg) (.slice A1 T1.mag.length c1) (.slice K1 T1.kids.length d1); clear hxR_8 hF1_8 hk8 hP8; exact lv53
     ·simp only [hv, yF, if_false, yO, yA] at hR; obtain ⟨hk7, hs7, hz7⟩ := kc hk6 hq; have hxR_7 := kx hq hxR_6; go_wp2_with fail
      go_at_call 98
      refine (takeW_ok hD hC.w_try hP7).mono ?_
      rintro E w8 hE
      rcases hE with ⟨hv, rfl, hP8, hq⟩ | ⟨hv, rfl, hP8, hq⟩
      ·simp only [hv, if_true, yO, yA] at hR; obtain ⟨hk8, hs8, hz8⟩ := kc hk7 hq; have hxR_8 := kx hq hxR_7; have n1 := ne_tail hR hne; go_wp2_with fail
       go_at_call 107
       refine (htry (hd e l).pos X _ _ hpos hP8 n1).mono ?_
       rintro E w9 hE
       rcases hE with ⟨cc, aa, hv, rfl, hq⟩ | ⟨T1, l1, A1, c1, K1, d1, hv, rfl, hP9, hF1_9, hq⟩
       ·(try dsimp only at hv)
        exact lv66
       (try dsimp only at hv)
       rw [hv] at hR; clear hv n1; have hF1_9 := hF1_9.intoN (P := Nn) (lo := w.heap.size + 1) (x := X) lq17 lq17; obtain ⟨hk9, hs9, hz9⟩ := kc hk8 hq; have hxR_9 := kx hq hxR_8; unfold ndV; have HE := Lh (show _ ∧ _ ∧ _ from ⟨hk9, hP9, hF1_9⟩); obtain ⟨k0, k1, k2, k3, k4, k5⟩ := bx_cells hxR_9; have z := Lib.frozen_of_heap hxR_9; obtain ⟨r0, r1, r2, r3, r4, r5⟩ := bp hxR_9 (.int .i64 T1.kind) (.int .i64 T1.pos) (.string T1.text) (.bool T1.neg) (.slice A1 T1.mag.length c1) (.slice K1 T1.kids.length d1); clear hxR_9 hF1_9 hk9 hP9; exact lv53
      ·simp only [hv, yF, if_false, yO, yA] at hR; obtain ⟨hk8, hs8, hz8⟩ := kc hk7 hq; have hxR_8 := kx hq hxR_7; have n1 := Rs.ne_of hR hne; go_wp2_with fail
       go_at_call 108
       refine (HA.psimple (hd e l).pos X _ _ hpos hP8 n1).mono ?_
       rintro E w9 hE
       rcases hE with ⟨cc, aa, hv, rfl, hq⟩ | ⟨T1, l1, A1, c1, K1, d1, hv, rfl, hP9, hF1_9, hq⟩
       ·exact lv66
       rw [hv] at hR; simp only [yO, yA] at hR; clear hv n1; have hF1_9 := hF1_9.intoN (P := Nn) (lo := w.heap.size + 1) (x := X) lq17 lq17; obtain ⟨hk9, hs9, hz9⟩ := kc hk8 hq; have hxR_9 := kx hq hxR_8; unfold ndV
       go_upto_region 19 with fail
       generalize hG : w9.alloc (oN T1 A1 c1 K1 d1) = w10 at *
       obtain ⟨hb10, hxn_10, hse10⟩ := nb hG; clear hG; obtain ⟨hk10, hs10, hz10⟩ := kd hk9 hb10; have hP10 := hP9.later hb10; have hxR_10 := kb hb10 hxR_9; have hF1_10 := hF1_9.later hb10 (Old.nn X _); go_wp2_with fail
       go_at_call 109
       refine (kind_ok hP10 6).mono ?_
       rintro E w11 hE
       rcases hE with ⟨hv, rfl, hP11, hq⟩ | ⟨hv, rfl, hq⟩
       rotate_left 1
       ·have hv2 : ¬ (hd e l1).kind = (6 : Int) := by intro h; rw [h] at hv; exact absurd hv lq16
        simp only [needK, if_neg hv2, Rs.bind_bad] at hR; go_wp2_with fail; exact ⟨rfl, retBad (hk10.call (Nat.le_refl _) hq) hR.symm⟩
       have hv2 : (hd e l1).kind = (6 : Int) := by simpa using hv
       simp only [needK, if_pos hv2, Rs.bind_ok, Rs.bind_assoc] at hR; obtain ⟨hk11, hs11, hz11⟩ := kc hk10 hq; have hxR_11 := kx hq hxR_10; have hxn_11 := kx hq hxn_10; have hF1_11 := hF1_10.kp hq (Old.nn X _) lq17; have HE := Lh (show _ ∧ _ ∧ _ from ⟨hk11, hP11, hF1_11⟩); obtain ⟨k0, k1, k2, k3, k4, k5⟩ := bx_cells hxR_11; have z := Lib.frozen_of_heap hxR_11; obtain ⟨mn0, mn1, mn2, mn3, mn4, mn5⟩ := bx_cells hxn_11; obtain ⟨r0, r1, r2, r3, r4, r5⟩ := bp hxR_11 (.int .i64 T1.kind) (.int .i64 T1.pos) (.string T1.text) (.bool T1.neg) (.slice A1 T1.mag.length c1) (.slice K1 T1.kids.length d1)
       clear hxR_11 hxn_11 hF1_11 hk11 hP11; exact lv53
end
end
end Go.Proofs.YtjndbcnmmnkilaaGreatDoor
