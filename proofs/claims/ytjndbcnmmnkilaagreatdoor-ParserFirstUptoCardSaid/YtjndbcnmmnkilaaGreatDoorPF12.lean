/- Joined by a program: Pe4. -/
import Derived.Test.YtjndbcnmmnkilaaGreatDoorPF08
namespace Go.Proofs.YtjndbcnmmnkilaaGreatDoor
set_option linter.unusedVariables false
set_option linter.unusedSimpArgs false
set_option maxRecDepth 1000000
set_option maxHeartbeats 16000000
section
open Go.RowKit
open List (length_append length_cons length_nil length_singleton)
section
variable {wB nB gB : ByteArray → Bool} {nO : ByteArray → Option (List Int)} {e : Int} {p : Ps}
theorem pSquare_ok (hD : Deps wB nB gB nO) (hC : Cst wB) (HA : PA e p) : CI e 286 (fun at_ l => s_square e p at_ l) := by
 intro at_ X l w hat hP0 hne
 obtain ⟨R, hR⟩ : ∃ R, s_square e p at_ l = R := ⟨_, rfl⟩
 simp only [hR] at hne ⊢
 unfold s_square at hR
 have hXl := hP0.lt
 have hk0 : Kp w.heap.size X w w := Kp.refl _ _ _
 have hz0 := hk0.size
 go_enter Tryz.func286, Tryz.ntmps286
 go_upto_region 1 with fail
 generalize hG : w.alloc zN = w1 at *
 obtain ⟨hb1, hxR_1, _⟩ := nb hG
 clear hG
 obtain ⟨hk1, _, _⟩ := kd hk0 hb1
 have hP1 := hP0.later hb1
 have hFz_1 := (RowS.nil Nn (w.heap.size + 1) X w1).node (k := 36) (p := at_) (t := ⟨#[]⟩) ⟨by decide, by decide⟩ hat lq16 false
 go_wp2_with fail
 go_at_call 54
 refine (node_okA _ _ _ _ _ _ _).mono ?_
 rintro E w2 ⟨rfl, hq⟩
 obtain ⟨hk2, _, _⟩ := kd hk1 hq
 have hP2 := hP1.later hq
 have hxR_2 := kb hq hxR_1
 have hFz_2 := hFz_1.later hq (Old.nn X _)
 go_upto_region 2 with fail
 generalize hG : w2.alloc (.cells #[.int .i64 36, .int .i64 at_, .string (⟨#[]⟩), .bool false, .slice none 0 0, .slice none 0 0] 29) = w3 at *
 obtain ⟨hb3, hxn_3, _⟩ := nb hG
 clear hG
 obtain ⟨hk3, _, _⟩ := kd hk2 hb3
 have hP3 := hP2.later hb3
 have hxR_3 := kb hb3 hxR_2
 go_wp2_with fail
 go_at_call 176
 refine (is1S_ok hD hC.s_5d hP3).mono ?_
 rintro E w4 ⟨hE, hP4, hq⟩
 rcases hE with ⟨hv, rfl⟩ | ⟨hv, rfl⟩
 ·simp only [hv, if_true, yO, yA] at hR; obtain ⟨hk4, hs4, hz4⟩ := kc hk3 hq; have hxR_4 := kx hq hxR_3; have hxn_4 := kx hq hxn_3; have hFz_4 := (RowS.nil Nn (w3.heap.size) X w4).node (k := 36) (p := at_) (t := ⟨#[]⟩) ⟨by decide, by decide⟩ hat lq16 false; go_wp2_with fail
  go_at_call 103
  refine (needS_ok hD hC.s_5d hP4).mono ?_
  rintro E w5 hE
  rcases hE with ⟨hv, rfl, hP5, hq⟩ | ⟨hv, rfl, hq⟩
  rotate_left 1
  ·simp only [needS, hv, Bool.false_eq_true, if_false, Rs.bind_bad] at hR; go_wp2_with fail; exact ⟨rfl, retBad (hk4.call (Nat.le_refl _) hq) hR.symm⟩
  simp only [needS, hv, if_true, Rs.bind_ok, Rs.bind_assoc] at hR; obtain ⟨hk5, hs5, hz5⟩ := kc hk4 hq; have hxR_5 := kx hq hxR_4; have hxn_5 := kx hq hxn_4; have hFz_5 := hFz_4.kp hq (Old.nn X _) lq17; have HE := Lh (show _ ∧ _ ∧ _ from ⟨hk5, hP5, hFz_5⟩); obtain ⟨k0, k1, k2, k3, k4, k5⟩ := bx_cells hxR_5; have z := Lib.frozen_of_heap hxR_5; obtain ⟨mn0, mn1, mn2, mn3, mn4, mn5⟩ := bx_cells hxn_5; obtain ⟨r0, r1, r2, r3, r4, r5⟩ := bp hxR_5 (.int .i64 36) (.int .i64 at_) (.string (⟨#[]⟩)) (.bool false) (.slice none 0 0) (.slice none 0 0); clear hxR_5 hxn_5 hFz_5 hk5 hP5; go_wp2_with fail
  refine bodyPost_ret (v := .agg #[.int .i64 36, .int .i64 at_, .string (⟨#[]⟩), .bool false, .slice none 0 0, .slice none 0 0]) (by simp [results, Tryz.results286, go_sem, r0, r1, r2, r3, r4, r5, ndV]) rfl ?_
  exact lv74
 ·simp only [hv, yF, if_false, yO, yA] at hR; obtain ⟨hk4, hs4, hz4⟩ := kc hk3 hq; have hxR_4 := kx hq hxR_3; have hxn_4 := kx hq hxn_3; have n1 := Rs.ne_of hR hne; go_wp2_with fail
  go_at_call 100
  refine (HA.pexpr X _ _ hP4 n1).mono ?_
  rintro E w5 hE
  rcases hE with ⟨cc, aa, hv, rfl, hq⟩ | ⟨T1, l1, A1, c1, K1, d1, hv, rfl, hP5, hF1_5, hq⟩
  ·exact lv62
  rw [hv] at hR; simp only [yO, yA] at hR; clear hv n1; have hF1_5 := hF1_5.intoN (P := Nn) (lo := w3.heap.size) (x := X) lq17 lq17; obtain ⟨hk5, hs5, hz5⟩ := kc hk4 hq; have hxR_5 := kx hq hxR_4; have hxn_5 := kx hq hxn_4; unfold ndV
  go_upto_region 4 with fail
  generalize hG : w5.alloc (oN T1 A1 c1 K1 d1) = w6 at *
  obtain ⟨hb6, hxf_6, _⟩ := nb hG; clear hG; obtain ⟨hk6, _, _⟩ := kd hk5 hb6; have hP6 := hP5.later hb6; have hxR_6 := kb hb6 hxR_5; have hxn_6 := kb hb6 hxn_5; have hF1_6 := hF1_5.later hb6 (Old.nn X _); go_wp2_with fail
  go_at_call 176
  refine (is1W_ok hD hC.w_for hP6).mono ?_
  rintro E w7 ⟨hE, hP7, hq⟩
  rcases hE with ⟨hv, rfl⟩ | ⟨hv, rfl⟩
  ·simp only [hv, if_true, yO, yA] at hR; obtain ⟨hk7, hs7, hz7⟩ := kc hk6 hq; have hxR_7 := kx hq hxR_6; have hxn_7 := kx hq hxn_6; have hxf_7 := kx hq hxf_6; have hF1_7 := hF1_6.kp hq (Old.nn X _) lq17; obtain ⟨mf0, mf1, mf2, mf3, mf4, mf5⟩ := bx_cells hxf_7; have n1 := Rs.ne_of hR hne; go_wp2_with fail
   go_at_call 318
   clear mf0 mf1 mf2 mf3 mf4 mf5
   refine (HA.pcomp (Pt Nn (w3.heap.size) X w7.heap.size) 41 at_ X _ _ _ _ _ _ _ ⟨by decide, by decide⟩ hat (Pt.old (Old.nn X _) lq17 lq17) hF1_7 hP7 n1).mono ?_
   rintro E w8 hE
   rcases hE with ⟨cc, aa, hv, rfl, hq⟩ | ⟨ks2, l2, T2, A2, c2, K2, d2, hv, hT2, rfl, hP8, hF2_8, hq⟩
   ·exact lv64
   rw [hv] at hR; simp only [yO, yA] at hR
   dsimp only at hT2
   rw [← hT2] at hR; clear hv n1 hT2; have hF2_8 := hF2_8.into (P := Nn) (lo := w3.heap.size) (x := X) (fun k q => q.grow lq12) lq17 lq17; obtain ⟨hk8, hs8, hz8⟩ := kc hk7 hq; have hxR_8 := kx hq hxR_7; have hxn_8 := kx hq hxn_7; have hxf_8 := kx hq hxf_7; have hF1_8 := hF1_7.kp hq (Old.nn X _) lq17; unfold ndV; obtain ⟨k0, k1, k2, k3, k4, k5⟩ := bx_cells hxn_8; have z := Lib.frozen_of_heap hxn_8
   go_upto_region 7 with fail
   clear k0 k1 k2 k3 k4 k5 z; have hxn_9 := bx_put hxn_8 (u0 := .int .i64 T2.kind) (u1 := .int .i64 T2.pos) (u2 := .string T2.text) (u3 := .bool T2.neg) (u4 := .slice A2 T2.mag.length c2) (u5 := .slice K2 T2.kids.length d2); have hxR_9 := (bx_off (b := w2.heap.size) (u0 := .int .i64 T2.kind) (u1 := .int .i64 T2.pos) (u2 := .string T2.text) (u3 := .bool T2.neg) (u4 := .slice A2 T2.mag.length c2) (u5 := .slice K2 T2.kids.length d2) lq17).trans hxR_8
   have hxf_9 := (bx_off (b := w2.heap.size) (u0 := .int .i64 T2.kind) (u1 := .int .i64 T2.pos) (u2 := .string T2.text) (u3 := .bool T2.neg) (u4 := .slice A2 T2.mag.length c2) (u5 := .slice K2 T2.kids.length d2) lq17).trans hxf_8; have hF1_9 := hF1_8.put6 (b := w2.heap.size) (u0 := .int .i64 T2.kind) (u1 := .int .i64 T2.pos) (u2 := .string T2.text) (u3 := .bool T2.neg) (u4 := .slice A2 T2.mag.length c2) (u5 := .slice K2 T2.kids.length d2) lq17 (fun h => h.elim)
   have hF2_9 := hF2_8.put6 (b := w2.heap.size) (u0 := .int .i64 T2.kind) (u1 := .int .i64 T2.pos) (u2 := .string T2.text) (u3 := .bool T2.neg) (u4 := .slice A2 T2.mag.length c2) (u5 := .slice K2 T2.kids.length d2) lq17 (fun h => h.elim); have hk9 := bx_kp hk8 (b := w2.heap.size) (u0 := .int .i64 T2.kind) (u1 := .int .i64 T2.pos) (u2 := .string T2.text) (u3 := .bool T2.neg) (u4 := .slice A2 T2.mag.length c2) (u5 := .slice K2 T2.kids.length d2) lq17
   have hP9 := hP8.blocks (fun k hk => bx_off (b := w2.heap.size) (u0 := .int .i64 T2.kind) (u1 := .int .i64 T2.pos) (u2 := .string T2.text) (u3 := .bool T2.neg) (u4 := .slice A2 T2.mag.length c2) (u5 := .slice K2 T2.kids.length d2) lq17)
   have hs9 : w8.heap.size ≤ ((((((w8.setCell ⟨w2.heap.size, 0, none⟩ (.int .i64 T2.kind)).setCell ⟨w2.heap.size, 1, none⟩ (.int .i64 T2.pos)).setCell ⟨w2.heap.size, 2, none⟩ (.string T2.text)).setCell ⟨w2.heap.size, 3, none⟩ (.bool T2.neg)).setCell ⟨w2.heap.size, 4, none⟩ (.slice A2 T2.mag.length c2)).setCell ⟨w2.heap.size, 5, none⟩ (.slice K2 T2.kids.length d2)).heap.size := Nat.le_of_eq bx_size.symm
   have hss9 : ((((((w8.setCell ⟨w2.heap.size, 0, none⟩ (.int .i64 T2.kind)).setCell ⟨w2.heap.size, 1, none⟩ (.int .i64 T2.pos)).setCell ⟨w2.heap.size, 2, none⟩ (.string T2.text)).setCell ⟨w2.heap.size, 3, none⟩ (.bool T2.neg)).setCell ⟨w2.heap.size, 4, none⟩ (.slice A2 T2.mag.length c2)).setCell ⟨w2.heap.size, 5, none⟩ (.slice K2 T2.kids.length d2)).heap.size ≤ w8.heap.size := Nat.le_of_eq bx_size; have hz9 := hk9.size
   generalize ((((((w8.setCell ⟨w2.heap.size, 0, none⟩ (.int .i64 T2.kind)).setCell ⟨w2.heap.size, 1, none⟩ (.int .i64 T2.pos)).setCell ⟨w2.heap.size, 2, none⟩ (.string T2.text)).setCell ⟨w2.heap.size, 3, none⟩ (.bool T2.neg)).setCell ⟨w2.heap.size, 4, none⟩ (.slice A2 T2.mag.length c2)).setCell ⟨w2.heap.size, 5, none⟩ (.slice K2 T2.kids.length d2)) = w9 at *
   go_wp2_with fail
   go_at_call 103
   refine (needS_ok hD hC.s_5d hP9).mono ?_
   rintro E w10 hE
   rcases hE with ⟨hv, rfl, hP10, hq⟩ | ⟨hv, rfl, hq⟩
   rotate_left 1
   ·simp only [needS, hv, Bool.false_eq_true, if_false, Rs.bind_bad] at hR; go_wp2_with fail; exact ⟨rfl, retBad (hk9.call (Nat.le_refl _) hq) hR.symm⟩
   simp only [needS, hv, if_true, Rs.bind_ok, Rs.bind_assoc] at hR; obtain ⟨hk10, hs10, hz10⟩ := kc hk9 hq; have hxR_10 := kx hq hxR_9; have hxn_10 := kx hq hxn_9; have hxf_10 := kx hq hxf_9; have hF1_10 := hF1_9.kp hq (Old.nn X _) lq17; have hF2_10 := hF2_9.kp hq (Old.nn X _) lq17; have HE := Lh (show _ ∧ _ ∧ _ from ⟨hk10, hP10, hF2_10⟩); obtain ⟨k0, k1, k2, k3, k4, k5⟩ := bx_cells hxR_10; have z := Lib.frozen_of_heap hxR_10; obtain ⟨mn0, mn1, mn2, mn3, mn4, mn5⟩ := bx_cells hxn_10; obtain ⟨mf0, mf1, mf2, mf3, mf4, mf5⟩ := bx_cells hxf_10
   obtain ⟨r0, r1, r2, r3, r4, r5⟩ := bp hxR_10 (.int .i64 T2.kind) (.int .i64 T2.pos) (.string T2.text) (.bool T2.neg) (.slice A2 T2.mag.length c2) (.slice K2 T2.kids.length d2); clear hxR_10 hxn_10 hxf_10 hF1_10 hF2_10 hk10 hP10; go_wp2_with fail
   refine bodyPost_ret (v := ndV T2 A2 c2 K2 d2) (by simp [results, Tryz.results286, go_sem, r0, r1, r2, r3, r4, r5, ndV]) rfl ?_
   exact lv74
  ·simp only [hv, yF, if_false, yO, yA] at hR; obtain ⟨hk7, hs7, hz7⟩ := kc hk6 hq; have hxR_7 := kx hq hxR_6; have hxn_7 := kx hq hxn_6; have hxf_7 := kx hq hxf_6; have hF1_7 := hF1_6.kp hq (Old.nn X _) lq17; obtain ⟨mf0, mf1, mf2, mf3, mf4, mf5⟩ := bx_cells hxf_7; have n1 := Rs.ne_of hR hne; go_wp2_with fail
   go_at_call 183
   clear mf0 mf1 mf2 mf3 mf4 mf5
   refine (HA.prest (Pt Nn (w3.heap.size) X w7.heap.size) X _ _ _ _ _ _ _ (Pt.old (Old.nn X _) lq17 lq17) hF1_7 hP7 n1).mono ?_
   rintro E w8 hE
   rcases hE with ⟨cc, aa, hv, rfl, hq⟩ | ⟨ks2, l2, A2, c2, hv, rfl, hP8, hR2_8, hq⟩
   ·exact lv64
   rw [hv] at hR; simp only [yO, yA] at hR; clear hv n1; have hR2_8 := hR2_8.into (P := Nn) (lo := w3.heap.size) (x := X) (fun k q => q.grow lq12) lq17 lq17; obtain ⟨hk8, hs8, hz8⟩ := kc hk7 hq; have hxR_8 := kx hq hxR_7; have hxn_8 := kx hq hxn_7; have hxf_8 := kx hq hxf_7; have hF1_8 := hF1_7.kp hq (Old.nn X _) lq17; have hFz_8 := hR2_8.node (k := 36) (p := at_) (t := ⟨#[]⟩) ⟨by decide, by decide⟩ hat lq16 false; obtain ⟨k0, k1, k2, k3, k4, k5⟩ := bx_cells hxn_8; have z := Lib.frozen_of_heap hxn_8
   go_upto_region 7 with fail
   clear k0 k1 k2 k3 k4 k5 z; have hxn_9 := bx_put5 hxn_8 (u := .slice A2 ks2.length c2); have hxR_9 := (bx_off1 (b := w2.heap.size) (i := 5) (u := .slice A2 ks2.length c2) lq17).trans hxR_8; have hxf_9 := (bx_off1 (b := w2.heap.size) (i := 5) (u := .slice A2 ks2.length c2) lq17).trans hxf_8; have hF1_9 := hF1_8.put1 (b := w2.heap.size) (i := 5) (u := .slice A2 ks2.length c2) lq17 (fun h => h.elim); have hFz_9 := hFz_8.put1 (b := w2.heap.size) (i := 5) (u := .slice A2 ks2.length c2) lq17 (fun h => h.elim)
   have hR2_9 := hR2_8.put1 (b := w2.heap.size) (i := 5) (u := .slice A2 ks2.length c2) lq17 (fun h => h.elim); have hk9 := hk8.set (w2.heap.size) 5 (.slice A2 ks2.length c2) (.inl lq17); have hP9 := hP8.blocks (fun k hk => bx_off1 (b := w2.heap.size) (i := 5) (u := .slice A2 ks2.length c2) lq17); have hs9 : w8.heap.size ≤ (w8.setCell ⟨w2.heap.size, 5, none⟩ (.slice A2 ks2.length c2)).heap.size := by simp [World.setCell]
   have hss9 : (w8.setCell ⟨w2.heap.size, 5, none⟩ (.slice A2 ks2.length c2)).heap.size ≤ w8.heap.size := by simp [World.setCell]
   have hz9 := hk9.size
   generalize w8.setCell ⟨w2.heap.size, 5, none⟩ (.slice A2 ks2.length c2) = w9 at *
   go_wp2_with fail
   go_at_call 103
   refine (needS_ok hD hC.s_5d hP9).mono ?_
   rintro E w10 hE
   rcases hE with ⟨hv, rfl, hP10, hq⟩ | ⟨hv, rfl, hq⟩
   rotate_left 1
   ·simp only [needS, hv, Bool.false_eq_true, if_false, Rs.bind_bad] at hR; go_wp2_with fail; exact ⟨rfl, retBad (hk9.call (Nat.le_refl _) hq) hR.symm⟩
   simp only [needS, hv, if_true, Rs.bind_ok, Rs.bind_assoc] at hR; obtain ⟨hk10, hs10, hz10⟩ := kc hk9 hq; have hxR_10 := kx hq hxR_9; have hxn_10 := kx hq hxn_9; have hxf_10 := kx hq hxf_9; have hF1_10 := hF1_9.kp hq (Old.nn X _) lq17; have hFz_10 := hFz_9.kp hq (Old.nn X _) lq17; have hR2_10 := hR2_9.kp hq (Old.nn X _) lq17; have HE := Lh (show _ ∧ _ ∧ _ from ⟨hk10, hP10, hFz_10⟩); obtain ⟨k0, k1, k2, k3, k4, k5⟩ := bx_cells hxR_10; have z := Lib.frozen_of_heap hxR_10; obtain ⟨mn0, mn1, mn2, mn3, mn4, mn5⟩ := bx_cells hxn_10; obtain ⟨mf0, mf1, mf2, mf3, mf4, mf5⟩ := bx_cells hxf_10
   obtain ⟨r0, r1, r2, r3, r4, r5⟩ := bp hxR_10 (.int .i64 36) (.int .i64 at_) (.string (⟨#[]⟩)) (.bool false) (.slice none 0 0) (.slice A2 ks2.length c2); clear hxR_10 hxn_10 hxf_10 hF1_10 hFz_10 hR2_10 hk10 hP10; go_wp2_with fail
   refine bodyPost_ret (v := .agg #[.int .i64 36, .int .i64 at_, .string (⟨#[]⟩), .bool false, .slice none 0 0, .slice A2 ks2.length c2]) (by simp [results, Tryz.results286, go_sem, r0, r1, r2, r3, r4, r5, ndV]) rfl ?_
   exact lv74
theorem pCurly_ok (hD : Deps wB nB gB nO) (hC : Cst wB) (HA : PA e p) : CI e 287 (fun at_ l => s_curly e p at_ l) := by
 intro at_ X l w hat hP0 hne
 obtain ⟨R, hR⟩ : ∃ R, s_curly e p at_ l = R := ⟨_, rfl⟩
 simp only [hR] at hne ⊢
 unfold s_curly at hR
 have hXl := hP0.lt
 have hk0 : Kp w.heap.size X w w := Kp.refl _ _ _
 have hz0 := hk0.size
 go_enter Tryz.func287, Tryz.ntmps287
 go_upto_region 1 with fail
 generalize hG : w.alloc zN = w1 at *
 obtain ⟨hb1, hxR_1, _⟩ := nb hG
 clear hG
 obtain ⟨hk1, _, _⟩ := kd hk0 hb1
 have hP1 := hP0.later hb1
 have hFz_1 := (RowS.nil Nn (w.heap.size + 1) X w1).node (k := 38) (p := at_) (t := ⟨#[]⟩) ⟨by decide, by decide⟩ hat lq16 false
 go_wp2_with fail
 go_at_call 54
 refine (node_okA _ _ _ _ _ _ _).mono ?_
 rintro E w2 ⟨rfl, hq⟩
 obtain ⟨hk2, _, _⟩ := kd hk1 hq
 have hP2 := hP1.later hq
 have hxR_2 := kb hq hxR_1
 have hFz_2 := hFz_1.later hq (Old.nn X _)
 go_upto_region 13 with fail
 generalize hG : w2.alloc (.cells #[.int .i64 38, .int .i64 at_, .string (⟨#[]⟩), .bool false, .slice none 0 0, .slice none 0 0] 29) = w3 at *
 obtain ⟨hb3, hxn_3, _⟩ := nb hG
 clear hG
 obtain ⟨hk3, _, _⟩ := kd hk2 hb3
 have hP3 := hP2.later hb3
 have hxR_3 := kb hb3 hxR_2
 go_wp2_with fail
 go_at_call 176
 refine (is1S_ok hD hC.s_7d hP3).mono ?_
 rintro E w4 ⟨hE, hP4, hq⟩
 rcases hE with ⟨hv, rfl⟩ | ⟨hv, rfl⟩
 ·simp only [hv, if_true, yO, yA] at hR; obtain ⟨hk4, hs4, hz4⟩ := kc hk3 hq; have hxR_4 := kx hq hxR_3; have hxn_4 := kx hq hxn_3; have hFz_4 := (RowS.nil Nn (w3.heap.size) X w4).node (k := 38) (p := at_) (t := ⟨#[]⟩) ⟨by decide, by decide⟩ hat lq16 false; go_wp2_with fail
  go_at_call 103
  refine (needS_ok hD hC.s_7d hP4).mono ?_
  rintro E w5 hE
  rcases hE with ⟨hv, rfl, hP5, hq⟩ | ⟨hv, rfl, hq⟩
  rotate_left 1
  ·simp only [needS, hv, Bool.false_eq_true, if_false, Rs.bind_bad] at hR; go_wp2_with fail; exact ⟨rfl, retBad (hk4.call (Nat.le_refl _) hq) hR.symm⟩
  simp only [needS, hv, if_true, Rs.bind_ok, Rs.bind_assoc] at hR; obtain ⟨hk5, hs5, hz5⟩ := kc hk4 hq; have hxR_5 := kx hq hxR_4; have hxn_5 := kx hq hxn_4; have hFz_5 := hFz_4.kp hq (Old.nn X _) lq17; have HE := Lh (show _ ∧ _ ∧ _ from ⟨hk5, hP5, hFz_5⟩); obtain ⟨k0, k1, k2, k3, k4, k5⟩ := bx_cells hxR_5; have z := Lib.frozen_of_heap hxR_5; obtain ⟨mn0, mn1, mn2, mn3, mn4, mn5⟩ := bx_cells hxn_5; obtain ⟨r0, r1, r2, r3, r4, r5⟩ := bp hxR_5 (.int .i64 38) (.int .i64 at_) (.string (⟨#[]⟩)) (.bool false) (.slice none 0 0) (.slice none 0 0); clear hxR_5 hxn_5 hFz_5 hk5 hP5; go_wp2_with fail
  refine bodyPost_ret (v := .agg #[.int .i64 38, .int .i64 at_, .string (⟨#[]⟩), .bool false, .slice none 0 0, .slice none 0 0]) lq3 rfl ?_
  exact lv74
 ·simp only [hv, yF, if_false, yO, yA] at hR; obtain ⟨hk4, hs4, hz4⟩ := kc hk3 hq; have hxR_4 := kx hq hxR_3; have hxn_4 := kx hq hxn_3; go_wp2_with fail
  go_at_call 176
  refine (is1S_ok hD hC.s_2a2a hP4).mono ?_
  rintro E w5 ⟨hE, hP5, hq⟩
  rcases hE with ⟨hv, rfl⟩ | ⟨hv, rfl⟩
  ·simp only [hv, if_true, yO, yA] at hR; obtain ⟨hk5, hs5, hz5⟩ := kc hk4 hq; have hxR_5 := kx hq hxR_4; have hxn_5 := kx hq hxn_4; have n1 := Rs.ne_of hR hne; go_wp2_with fail
   go_at_call 320
   refine (HA.pitem X _ _ hP5 n1).mono ?_
   rintro E w6 hE
   rcases hE with ⟨cc, aa, hv, rfl, hq⟩ | ⟨T1, l1, A1, c1, K1, d1, hv, rfl, hP6, hF1_6, hq⟩
   ·exact lv63
   rw [hv] at hR; simp only [yO, yA] at hR; clear hv n1; have hF1_6 := hF1_6.intoN (P := Nn) (lo := w3.heap.size) (x := X) lq17 lq17; obtain ⟨hk6, hs6, hz6⟩ := kc hk5 hq; have hxR_6 := kx hq hxR_5; have hxn_6 := kx hq hxn_5; unfold ndV; have n1 := Rs.ne_of hR hne; go_wp2_with fail
   go_at_call 319
   refine (HA.pitems (Pt Nn (w3.heap.size) X w6.heap.size) X _ _ _ _ _ _ _ (Pt.old (Old.nn X _) lq17 lq17) hF1_6 hP6 n1).mono ?_
   rintro E w7 hE
   rcases hE with ⟨cc, aa, hv, rfl, hq⟩ | ⟨ks2, l2, A2, c2, hv, rfl, hP7, hR2_7, hq⟩
   ·exact lv65
   rw [hv] at hR; simp only [yO, yA] at hR; clear hv n1; have hR2_7 := hR2_7.into (P := Nn) (lo := w3.heap.size) (x := X) (fun k q => q.grow lq12) lq17 lq17; obtain ⟨hk7, hs7, hz7⟩ := kc hk6 hq; have hxR_7 := kx hq hxR_6; have hxn_7 := kx hq hxn_6; have hF1_7 := hF1_6.kp hq (Old.nn X _) lq17; have hFz_7 := hR2_7.node (k := 38) (p := at_) (t := ⟨#[]⟩) ⟨by decide, by decide⟩ hat lq16 false; obtain ⟨k0, k1, k2, k3, k4, k5⟩ := bx_cells hxn_7; have z := Lib.frozen_of_heap hxn_7
   go_upto_region 16 with fail
   clear k0 k1 k2 k3 k4 k5 z; have hxn_8 := bx_put5 hxn_7 (u := .slice A2 ks2.length c2); have hxR_8 := (bx_off1 (b := w2.heap.size) (i := 5) (u := .slice A2 ks2.length c2) lq17).trans hxR_7; have hF1_8 := hF1_7.put1 (b := w2.heap.size) (i := 5) (u := .slice A2 ks2.length c2) lq17 (fun h => h.elim); have hFz_8 := hFz_7.put1 (b := w2.heap.size) (i := 5) (u := .slice A2 ks2.length c2) lq17 (fun h => h.elim); have hR2_8 := hR2_7.put1 (b := w2.heap.size) (i := 5) (u := .slice A2 ks2.length c2) lq17 (fun h => h.elim); have hk8 := hk7.set (w2.heap.size) 5 (.slice A2 ks2.length c2) (.inl lq17)
   have hP8 := hP7.blocks (fun k hk => bx_off1 (b := w2.heap.size) (i := 5) (u := .slice A2 ks2.length c2) lq17); have hs8 : w7.heap.size ≤ (w7.setCell ⟨w2.heap.size, 5, none⟩ (.slice A2 ks2.length c2)).heap.size := by simp [World.setCell]
   have hss8 : (w7.setCell ⟨w2.heap.size, 5, none⟩ (.slice A2 ks2.length c2)).heap.size ≤ w7.heap.size := by simp [World.setCell]
   have hz8 := hk8.size
   generalize w7.setCell ⟨w2.heap.size, 5, none⟩ (.slice A2 ks2.length c2) = w8 at *
   go_wp2_with fail
   go_at_call 103
   refine (needS_ok hD hC.s_7d hP8).mono ?_
   rintro E w9 hE
   rcases hE with ⟨hv, rfl, hP9, hq⟩ | ⟨hv, rfl, hq⟩
   rotate_left 1
   ·exact lv54
   simp only [needS, hv, if_true, Rs.bind_ok, Rs.bind_assoc] at hR; obtain ⟨hk9, hs9, hz9⟩ := kc hk8 hq; have hxR_9 := kx hq hxR_8; have hxn_9 := kx hq hxn_8; have hF1_9 := hF1_8.kp hq (Old.nn X _) lq17; have hFz_9 := hFz_8.kp hq (Old.nn X _) lq17; have hR2_9 := hR2_8.kp hq (Old.nn X _) lq17; have HE := Lh (show _ ∧ _ ∧ _ from ⟨hk9, hP9, hFz_9⟩); obtain ⟨k0, k1, k2, k3, k4, k5⟩ := bx_cells hxR_9; have z := Lib.frozen_of_heap hxR_9; obtain ⟨mn0, mn1, mn2, mn3, mn4, mn5⟩ := bx_cells hxn_9
   obtain ⟨r0, r1, r2, r3, r4, r5⟩ := bp hxR_9 (.int .i64 38) (.int .i64 at_) (.string (⟨#[]⟩)) (.bool false) (.slice none 0 0) (.slice A2 ks2.length c2); clear hxR_9 hxn_9 hF1_9 hFz_9 hR2_9 hk9 hP9; go_wp2_with fail
   refine bodyPost_ret (v := .agg #[.int .i64 38, .int .i64 at_, .string (⟨#[]⟩), .bool false, .slice none 0 0, .slice A2 ks2.length c2]) lq3 rfl ?_
   exact lv74
  ·simp only [hv, yF, if_false, yO, yA] at hR; obtain ⟨hk5, hs5, hz5⟩ := kc hk4 hq; have hxR_5 := kx hq hxR_4; have hxn_5 := kx hq hxn_4; have n1 := Rs.ne_of hR hne; go_wp2_with fail
   go_at_call 100
   refine (HA.pexpr X _ _ hP5 n1).mono ?_
   rintro E w6 hE
   rcases hE with ⟨cc, aa, hv, rfl, hq⟩ | ⟨T1, l1, A1, c1, K1, d1, hv, rfl, hP6, hF1_6, hq⟩
   ·exact lv63
   rw [hv] at hR; simp only [yO, yA] at hR; clear hv n1; have hF1_6 := hF1_6.intoN (P := Nn) (lo := w3.heap.size) (x := X) lq17 lq17; obtain ⟨hk6, hs6, hz6⟩ := kc hk5 hq; have hxR_6 := kx hq hxR_5; have hxn_6 := kx hq hxn_5; unfold ndV
   go_upto_region 3 with fail
   have hF1_6 := hF1_6.setx (x' := w6.heap.size) lq17
   generalize hG : w6.alloc (oN T1 A1 c1 K1 d1) = w7 at *
   obtain ⟨hb7, hxf_7, _⟩ := nb hG; clear hG; obtain ⟨hk7, hs7, hz7⟩ := kd hk6 hb7; have hP7 := hP6.later hb7; have hxR_7 := kb hb7 hxR_6; have hxn_7 := kb hb7 hxn_6; have hF1_7 := hF1_6.later hb7 (Old.nn X _); go_wp2_with fail
   go_at_call 176
   refine (is1S_ok hD hC.s_3a hP7).mono ?_
   rintro E w8 ⟨hE, hP8, hq⟩
   rcases hE with ⟨hv, rfl⟩ | ⟨hv, rfl⟩
   ·simp only [hv, if_true, yO, yA] at hR; obtain ⟨hk8, hs8, hz8⟩ := kc hk7 hq; have hxR_8 := kx hq hxR_7; have hxn_8 := kx hq hxn_7; have hxf_8 := kx hq hxf_7; have hF1_8 := hF1_7.kp hq (Old.nn X _) lq17; obtain ⟨mf0, mf1, mf2, mf3, mf4, mf5⟩ := bx_cells hxf_8; have n1 := Rs.ne_of hR hne; go_wp2_with fail
    go_at_call 321
    clear mf0 mf1 mf2 mf3 mf4 mf5
    refine (HA.ppair (Pt Nn (w3.heap.size) (w6.heap.size) w8.heap.size) X _ _ _ _ _ _ _ (Pt.old (Old.nn X _) lq17 lq17) hF1_8 hP8 n1).mono ?_
    rintro E w9 hE
    rcases hE with ⟨cc, aa, hv, rfl, hq⟩ | ⟨T2, l2, A2, c2, K2, d2, hv, rfl, hP9, hF2_9, hq⟩
    ·exact lv66
    rw [hv] at hR; simp only [yO, yA] at hR; clear hv n1; have hF2_9 := hF2_9.into (P := Nn) (lo := w3.heap.size) (x := w6.heap.size) (fun k q => q.grow lq12) lq17 lq17; obtain ⟨hk9, hs9, hz9⟩ := kc hk8 hq; have hxR_9 := kx hq hxR_8; have hxn_9 := kx hq hxn_8; have hxf_9 := kx hq hxf_8; have hF1_9 := hF1_8.kp hq (Old.nn X _) lq17; unfold ndV; obtain ⟨k0, k1, k2, k3, k4, k5⟩ := bx_cells hxf_9; have z := Lib.frozen_of_heap hxf_9
    go_upto_region 7 with fail
    clear k0 k1 k2 k3 k4 k5 z; have hxf_10 := bx_put hxf_9 (u0 := .int .i64 T2.kind) (u1 := .int .i64 T2.pos) (u2 := .string T2.text) (u3 := .bool T2.neg) (u4 := .slice A2 T2.mag.length c2) (u5 := .slice K2 T2.kids.length d2); have hxR_10 := (bx_off (b := w6.heap.size) (u0 := .int .i64 T2.kind) (u1 := .int .i64 T2.pos) (u2 := .string T2.text) (u3 := .bool T2.neg) (u4 := .slice A2 T2.mag.length c2) (u5 := .slice K2 T2.kids.length d2) lq17).trans hxR_9
    have hxn_10 := (bx_off (b := w6.heap.size) (u0 := .int .i64 T2.kind) (u1 := .int .i64 T2.pos) (u2 := .string T2.text) (u3 := .bool T2.neg) (u4 := .slice A2 T2.mag.length c2) (u5 := .slice K2 T2.kids.length d2) lq17).trans hxn_9; have hF1_10 := hF1_9.put6 (b := w6.heap.size) (u0 := .int .i64 T2.kind) (u1 := .int .i64 T2.pos) (u2 := .string T2.text) (u3 := .bool T2.neg) (u4 := .slice A2 T2.mag.length c2) (u5 := .slice K2 T2.kids.length d2) lq17 (fun h => h.elim)
    have hF2_10 := hF2_9.put6 (b := w6.heap.size) (u0 := .int .i64 T2.kind) (u1 := .int .i64 T2.pos) (u2 := .string T2.text) (u3 := .bool T2.neg) (u4 := .slice A2 T2.mag.length c2) (u5 := .slice K2 T2.kids.length d2) lq17 (fun h => h.elim); have hk10 := bx_kp hk9 (b := w6.heap.size) (u0 := .int .i64 T2.kind) (u1 := .int .i64 T2.pos) (u2 := .string T2.text) (u3 := .bool T2.neg) (u4 := .slice A2 T2.mag.length c2) (u5 := .slice K2 T2.kids.length d2) lq17
    have hP10 := hP9.blocks (fun k hk => bx_off (b := w6.heap.size) (u0 := .int .i64 T2.kind) (u1 := .int .i64 T2.pos) (u2 := .string T2.text) (u3 := .bool T2.neg) (u4 := .slice A2 T2.mag.length c2) (u5 := .slice K2 T2.kids.length d2) lq17)
    have hs10 : w9.heap.size ≤ ((((((w9.setCell ⟨w6.heap.size, 0, none⟩ (.int .i64 T2.kind)).setCell ⟨w6.heap.size, 1, none⟩ (.int .i64 T2.pos)).setCell ⟨w6.heap.size, 2, none⟩ (.string T2.text)).setCell ⟨w6.heap.size, 3, none⟩ (.bool T2.neg)).setCell ⟨w6.heap.size, 4, none⟩ (.slice A2 T2.mag.length c2)).setCell ⟨w6.heap.size, 5, none⟩ (.slice K2 T2.kids.length d2)).heap.size := Nat.le_of_eq bx_size.symm
    have hss10 : ((((((w9.setCell ⟨w6.heap.size, 0, none⟩ (.int .i64 T2.kind)).setCell ⟨w6.heap.size, 1, none⟩ (.int .i64 T2.pos)).setCell ⟨w6.heap.size, 2, none⟩ (.string T2.text)).setCell ⟨w6.heap.size, 3, none⟩ (.bool T2.neg)).setCell ⟨w6.heap.size, 4, none⟩ (.slice A2 T2.mag.length c2)).setCell ⟨w6.heap.size, 5, none⟩ (.slice K2 T2.kids.length d2)).heap.size ≤ w9.heap.size := Nat.le_of_eq bx_size; have hz10 := hk10.size
    generalize ((((((w9.setCell ⟨w6.heap.size, 0, none⟩ (.int .i64 T2.kind)).setCell ⟨w6.heap.size, 1, none⟩ (.int .i64 T2.pos)).setCell ⟨w6.heap.size, 2, none⟩ (.string T2.text)).setCell ⟨w6.heap.size, 3, none⟩ (.bool T2.neg)).setCell ⟨w6.heap.size, 4, none⟩ (.slice A2 T2.mag.length c2)).setCell ⟨w6.heap.size, 5, none⟩ (.slice K2 T2.kids.length d2)) = w10 at *
    go_wp2_with fail
    go_at_call 176
    refine (is1W_ok hD hC.w_for hP10).mono ?_
    rintro E w11 ⟨hE, hP11, hq⟩
    rcases hE with ⟨hv, rfl⟩ | ⟨hv, rfl⟩
    ·have hvf := hv; simp only [hv, if_true, yO, yA] at hR; obtain ⟨hk11, hs11, hz11⟩ := kc hk10 hq; have hxR_11 := kx hq hxR_10; have hxn_11 := kx hq hxn_10; have hxf_11 := kx hq hxf_10; have hF1_11 := hF1_10.kp hq (Old.nn X _) lq17; have hF2_11 := hF2_10.kp hq (Old.nn X _) lq17; go_wp2_with fail
     go_at_call 176
     refine (is1W_ok hD hC.w_for hP11).mono ?_
     rintro E w12 ⟨hE, hP12, hq⟩
     rcases hE with ⟨hv, rfl⟩ | ⟨hv, rfl⟩
     ·try simp only [hv, if_true, yO, yA] at hR
      obtain ⟨hk12, hs12, hz12⟩ := kc hk11 hq; have hxR_12 := kx hq hxR_11; have hxn_12 := kx hq hxn_11; have hxf_12 := kx hq hxf_11; have hF1_12 := hF1_11.kp hq (Old.nn X _) lq17; have hF2_12 := hF2_11.kp hq (Old.nn X _) lq17; obtain ⟨mf0, mf1, mf2, mf3, mf4, mf5⟩ := bx_cells hxf_12; have n1 := Rs.ne_of hR hne; go_wp2_with fail
      go_at_call 318
      clear mf0 mf1 mf2 mf3 mf4 mf5
      refine (HA.pcomp (Pt Nn (w3.heap.size) (w6.heap.size) w12.heap.size) 43 at_ X _ _ _ _ _ _ _ ⟨by decide, by decide⟩ hat (Pt.old (Old.nn X _) lq17 lq17) hF2_12 hP12 n1).mono ?_
      rintro E w13 hE
      rcases hE with ⟨cc, aa, hv, rfl, hq⟩ | ⟨ks3, l3, T3, A3, c3, K3, d3, hv, hT3, rfl, hP13, hF3_13, hq⟩
      ·rw [hv] at hR; go_wp2_with fail; exact ⟨rfl, retBad (hk12.call (Nat.le_refl _) hq) hR.symm⟩
      rw [hv] at hR; simp only [yO, yA] at hR
      dsimp only at hT3
      rw [← hT3] at hR; clear hv n1 hT3; have hF3_13 := hF3_13.into (P := Nn) (lo := w3.heap.size) (x := w6.heap.size) (fun k q => q.grow lq12) lq17 lq17; obtain ⟨hk13, hs13, hz13⟩ := kc hk12 hq; have hxR_13 := kx hq hxR_12; have hxn_13 := kx hq hxn_12; have hxf_13 := kx hq hxf_12; have hF1_13 := hF1_12.kp hq (Old.nn X _) lq17; have hF2_13 := hF2_12.kp hq (Old.nn X _) lq17; unfold ndV; obtain ⟨k0, k1, k2, k3, k4, k5⟩ := bx_cells hxn_13; have z := Lib.frozen_of_heap hxn_13
      go_upto_region 16 with fail
      clear k0 k1 k2 k3 k4 k5 z; have hxn_14 := bx_put hxn_13 (u0 := .int .i64 T3.kind) (u1 := .int .i64 T3.pos) (u2 := .string T3.text) (u3 := .bool T3.neg) (u4 := .slice A3 T3.mag.length c3) (u5 := .slice K3 T3.kids.length d3); have hxR_14 := (bx_off (b := w2.heap.size) (u0 := .int .i64 T3.kind) (u1 := .int .i64 T3.pos) (u2 := .string T3.text) (u3 := .bool T3.neg) (u4 := .slice A3 T3.mag.length c3) (u5 := .slice K3 T3.kids.length d3) lq17).trans hxR_13
      have hxf_14 := (bx_off (b := w2.heap.size) (u0 := .int .i64 T3.kind) (u1 := .int .i64 T3.pos) (u2 := .string T3.text) (u3 := .bool T3.neg) (u4 := .slice A3 T3.mag.length c3) (u5 := .slice K3 T3.kids.length d3) lq17).trans hxf_13; have hF1_14 := hF1_13.put6 (b := w2.heap.size) (u0 := .int .i64 T3.kind) (u1 := .int .i64 T3.pos) (u2 := .string T3.text) (u3 := .bool T3.neg) (u4 := .slice A3 T3.mag.length c3) (u5 := .slice K3 T3.kids.length d3) lq17 (fun h => h.elim)
      have hF2_14 := hF2_13.put6 (b := w2.heap.size) (u0 := .int .i64 T3.kind) (u1 := .int .i64 T3.pos) (u2 := .string T3.text) (u3 := .bool T3.neg) (u4 := .slice A3 T3.mag.length c3) (u5 := .slice K3 T3.kids.length d3) lq17 (fun h => h.elim); have hF3_14 := hF3_13.put6 (b := w2.heap.size) (u0 := .int .i64 T3.kind) (u1 := .int .i64 T3.pos) (u2 := .string T3.text) (u3 := .bool T3.neg) (u4 := .slice A3 T3.mag.length c3) (u5 := .slice K3 T3.kids.length d3) lq17 (fun h => h.elim)
      have hk14 := bx_kp hk13 (b := w2.heap.size) (u0 := .int .i64 T3.kind) (u1 := .int .i64 T3.pos) (u2 := .string T3.text) (u3 := .bool T3.neg) (u4 := .slice A3 T3.mag.length c3) (u5 := .slice K3 T3.kids.length d3) lq17; have hP14 := hP13.blocks (fun k hk => bx_off (b := w2.heap.size) (u0 := .int .i64 T3.kind) (u1 := .int .i64 T3.pos) (u2 := .string T3.text) (u3 := .bool T3.neg) (u4 := .slice A3 T3.mag.length c3) (u5 := .slice K3 T3.kids.length d3) lq17)
      have hs14 : w13.heap.size ≤ ((((((w13.setCell ⟨w2.heap.size, 0, none⟩ (.int .i64 T3.kind)).setCell ⟨w2.heap.size, 1, none⟩ (.int .i64 T3.pos)).setCell ⟨w2.heap.size, 2, none⟩ (.string T3.text)).setCell ⟨w2.heap.size, 3, none⟩ (.bool T3.neg)).setCell ⟨w2.heap.size, 4, none⟩ (.slice A3 T3.mag.length c3)).setCell ⟨w2.heap.size, 5, none⟩ (.slice K3 T3.kids.length d3)).heap.size := Nat.le_of_eq bx_size.symm
      have hss14 : ((((((w13.setCell ⟨w2.heap.size, 0, none⟩ (.int .i64 T3.kind)).setCell ⟨w2.heap.size, 1, none⟩ (.int .i64 T3.pos)).setCell ⟨w2.heap.size, 2, none⟩ (.string T3.text)).setCell ⟨w2.heap.size, 3, none⟩ (.bool T3.neg)).setCell ⟨w2.heap.size, 4, none⟩ (.slice A3 T3.mag.length c3)).setCell ⟨w2.heap.size, 5, none⟩ (.slice K3 T3.kids.length d3)).heap.size ≤ w13.heap.size := Nat.le_of_eq bx_size; have hz14 := hk14.size
      generalize ((((((w13.setCell ⟨w2.heap.size, 0, none⟩ (.int .i64 T3.kind)).setCell ⟨w2.heap.size, 1, none⟩ (.int .i64 T3.pos)).setCell ⟨w2.heap.size, 2, none⟩ (.string T3.text)).setCell ⟨w2.heap.size, 3, none⟩ (.bool T3.neg)).setCell ⟨w2.heap.size, 4, none⟩ (.slice A3 T3.mag.length c3)).setCell ⟨w2.heap.size, 5, none⟩ (.slice K3 T3.kids.length d3)) = w14 at *
      go_wp2_with fail
      go_at_call 103
      refine (needS_ok hD hC.s_7d hP14).mono ?_
      rintro E w15 hE
      rcases hE with ⟨hv, rfl, hP15, hq⟩ | ⟨hv, rfl, hq⟩
      rotate_left 1
      ·simp only [needS, hv, Bool.false_eq_true, if_false, Rs.bind_bad] at hR; go_wp2_with fail; exact ⟨rfl, retBad (hk14.call (Nat.le_refl _) hq) hR.symm⟩
      simp only [needS, hv, if_true, Rs.bind_ok, Rs.bind_assoc] at hR; obtain ⟨hk15, hs15, hz15⟩ := kc hk14 hq; have hxR_15 := kx hq hxR_14; have hxn_15 := kx hq hxn_14; have hxf_15 := kx hq hxf_14; have hF1_15 := hF1_14.kp hq (Old.nn X _) lq17; have hF2_15 := hF2_14.kp hq (Old.nn X _) lq17; have hF3_15 := hF3_14.kp hq (Old.nn X _) lq17; have HE := Lh (show _ ∧ _ ∧ _ from ⟨hk15, hP15, hF3_15⟩); obtain ⟨k0, k1, k2, k3, k4, k5⟩ := bx_cells hxR_15; have z := Lib.frozen_of_heap hxR_15; obtain ⟨mn0, mn1, mn2, mn3, mn4, mn5⟩ := bx_cells hxn_15; obtain ⟨mf0, mf1, mf2, mf3, mf4, mf5⟩ := bx_cells hxf_15
      obtain ⟨r0, r1, r2, r3, r4, r5⟩ := bp hxR_15 (.int .i64 T3.kind) (.int .i64 T3.pos) (.string T3.text) (.bool T3.neg) (.slice A3 T3.mag.length c3) (.slice K3 T3.kids.length d3); clear hxR_15 hxn_15 hxf_15 hF1_15 hF2_15 hF3_15 hk15 hP15; go_wp2_with fail
      refine bodyPost_ret (v := ndV T3 A3 c3 K3 d3) lq3 rfl ?_
      exact lv74
     ·try simp only [hv, yF, if_false, yO, yA] at hR
      exact lv32
    ·have hvf := hv; simp only [hv, yF, if_false, yO, yA] at hR; obtain ⟨hk11, hs11, hz11⟩ := kc hk10 hq; have hxR_11 := kx hq hxR_10; have hxn_11 := kx hq hxn_10; have hxf_11 := kx hq hxf_10; have hF1_11 := hF1_10.kp hq (Old.nn X _) lq17; have hF2_11 := hF2_10.kp hq (Old.nn X _) lq17; go_wp2_with fail
     go_at_call 176
     refine (is1W_ok hD hC.w_for hP11).mono ?_
     rintro E w12 ⟨hE, hP12, hq⟩
     rcases hE with ⟨hv, rfl⟩ | ⟨hv, rfl⟩
     ·try simp only [hv, if_true, yO, yA] at hR
      exact lv32
     ·try simp only [hv, yF, if_false, yO, yA] at hR
      obtain ⟨hk12, hs12, hz12⟩ := kc hk11 hq; have hxR_12 := kx hq hxR_11; have hxn_12 := kx hq hxn_11; have hxf_12 := kx hq hxf_11; have hF1_12 := hF1_11.kp hq (Old.nn X _) lq17; have hF2_12 := hF2_11.kp hq (Old.nn X _) lq17; obtain ⟨mf0, mf1, mf2, mf3, mf4, mf5⟩ := bx_cells hxf_12; have n1 := Rs.ne_of hR hne; go_wp2_with fail
      go_at_call 319
      clear mf0 mf1 mf2 mf3 mf4 mf5
      refine (HA.pitems (Pt Nn (w3.heap.size) (w6.heap.size) w12.heap.size) X _ _ _ _ _ _ _ (Pt.old (Old.nn X _) lq17 lq17) hF2_12 hP12 n1).mono ?_
      rintro E w13 hE
      rcases hE with ⟨cc, aa, hv, rfl, hq⟩ | ⟨ks3, l3, A3, c3, hv, rfl, hP13, hR3_13, hq⟩
      ·rw [hv] at hR; go_wp2_with fail; exact ⟨rfl, retBad (hk12.call (Nat.le_refl _) hq) hR.symm⟩
      rw [hv] at hR; simp only [yO, yA] at hR; clear hv n1; have hR3_13 := hR3_13.into (P := Nn) (lo := w3.heap.size) (x := w6.heap.size) (fun k q => q.grow lq12) lq17 lq17; obtain ⟨hk13, hs13, hz13⟩ := kc hk12 hq; have hxR_13 := kx hq hxR_12; have hxn_13 := kx hq hxn_12; have hxf_13 := kx hq hxf_12; have hF1_13 := hF1_12.kp hq (Old.nn X _) lq17; have hF2_13 := hF2_12.kp hq (Old.nn X _) lq17; have hFz_13 := hR3_13.node (k := 38) (p := at_) (t := ⟨#[]⟩) ⟨by decide, by decide⟩ hat lq16 false; obtain ⟨k0, k1, k2, k3, k4, k5⟩ := bx_cells hxn_13; have z := Lib.frozen_of_heap hxn_13
      go_upto_region 16 with fail
      clear k0 k1 k2 k3 k4 k5 z; have hxn_14 := bx_put5 hxn_13 (u := .slice A3 ks3.length c3); have hxR_14 := (bx_off1 (b := w2.heap.size) (i := 5) (u := .slice A3 ks3.length c3) lq17).trans hxR_13; have hxf_14 := (bx_off1 (b := w2.heap.size) (i := 5) (u := .slice A3 ks3.length c3) lq17).trans hxf_13; have hF1_14 := hF1_13.put1 (b := w2.heap.size) (i := 5) (u := .slice A3 ks3.length c3) lq17 (fun h => h.elim); have hF2_14 := hF2_13.put1 (b := w2.heap.size) (i := 5) (u := .slice A3 ks3.length c3) lq17 (fun h => h.elim)
      have hFz_14 := hFz_13.put1 (b := w2.heap.size) (i := 5) (u := .slice A3 ks3.length c3) lq17 (fun h => h.elim); have hR3_14 := hR3_13.put1 (b := w2.heap.size) (i := 5) (u := .slice A3 ks3.length c3) lq17 (fun h => h.elim); have hk14 := hk13.set (w2.heap.size) 5 (.slice A3 ks3.length c3) (.inl lq17); have hP14 := hP13.blocks (fun k hk => bx_off1 (b := w2.heap.size) (i := 5) (u := .slice A3 ks3.length c3) lq17); have hs14 : w13.heap.size ≤ (w13.setCell ⟨w2.heap.size, 5, none⟩ (.slice A3 ks3.length c3)).heap.size := by simp [World.setCell]
      have hss14 : (w13.setCell ⟨w2.heap.size, 5, none⟩ (.slice A3 ks3.length c3)).heap.size ≤ w13.heap.size := by simp [World.setCell]
      have hz14 := hk14.size
      generalize w13.setCell ⟨w2.heap.size, 5, none⟩ (.slice A3 ks3.length c3) = w14 at *
      go_wp2_with fail
      go_at_call 103
      refine (needS_ok hD hC.s_7d hP14).mono ?_
      rintro E w15 hE
      rcases hE with ⟨hv, rfl, hP15, hq⟩ | ⟨hv, rfl, hq⟩
      rotate_left 1
      ·simp only [needS, hv, Bool.false_eq_true, if_false, Rs.bind_bad] at hR; go_wp2_with fail; exact ⟨rfl, retBad (hk14.call (Nat.le_refl _) hq) hR.symm⟩
      simp only [needS, hv, if_true, Rs.bind_ok, Rs.bind_assoc] at hR; obtain ⟨hk15, hs15, hz15⟩ := kc hk14 hq; have hxR_15 := kx hq hxR_14; have hxn_15 := kx hq hxn_14; have hxf_15 := kx hq hxf_14; have hF1_15 := hF1_14.kp hq (Old.nn X _) lq17; have hF2_15 := hF2_14.kp hq (Old.nn X _) lq17; have hFz_15 := hFz_14.kp hq (Old.nn X _) lq17; have hR3_15 := hR3_14.kp hq (Old.nn X _) lq17; have HE := Lh (show _ ∧ _ ∧ _ from ⟨hk15, hP15, hFz_15⟩); obtain ⟨k0, k1, k2, k3, k4, k5⟩ := bx_cells hxR_15; have z := Lib.frozen_of_heap hxR_15; obtain ⟨mn0, mn1, mn2, mn3, mn4, mn5⟩ := bx_cells hxn_15
      obtain ⟨mf0, mf1, mf2, mf3, mf4, mf5⟩ := bx_cells hxf_15; obtain ⟨r0, r1, r2, r3, r4, r5⟩ := bp hxR_15 (.int .i64 38) (.int .i64 at_) (.string (⟨#[]⟩)) (.bool false) (.slice none 0 0) (.slice A3 ks3.length c3); clear hxR_15 hxn_15 hxf_15 hF1_15 hF2_15 hFz_15 hR3_15 hk15 hP15; go_wp2_with fail
      refine bodyPost_ret (v := .agg #[.int .i64 38, .int .i64 at_, .string (⟨#[]⟩), .bool false, .slice none 0 0, .slice A3 ks3.length c3]) lq3 rfl ?_
      exact lv74
   ·simp only [hv, yF, if_false, yO, yA] at hR; obtain ⟨hk8, hs8, hz8⟩ := kc hk7 hq; have hxR_8 := kx hq hxR_7; have hxn_8 := kx hq hxn_7; have hxf_8 := kx hq hxf_7; have hF1_8 := hF1_7.kp hq (Old.nn X _) lq17; go_wp2_with fail
    go_at_call 176
    refine (is1W_ok hD hC.w_for hP8).mono ?_
    rintro E w9 ⟨hE, hP9, hq⟩
    rcases hE with ⟨hv, rfl⟩ | ⟨hv, rfl⟩
    ·have hvf := hv; simp only [hv, if_true, yO, yA] at hR; obtain ⟨hk9, hs9, hz9⟩ := kc hk8 hq; have hxR_9 := kx hq hxR_8; have hxn_9 := kx hq hxn_8; have hxf_9 := kx hq hxf_8; have hF1_9 := hF1_8.kp hq (Old.nn X _) lq17; obtain ⟨mf0, mf1, mf2, mf3, mf4, mf5⟩ := bx_cells hxf_9; have n1 := Rs.ne_of hR hne; go_wp2_with fail
     go_at_call 318
     clear mf0 mf1 mf2 mf3 mf4 mf5
     refine (HA.pcomp (Pt Nn (w3.heap.size) (w6.heap.size) w9.heap.size) 42 at_ X _ _ _ _ _ _ _ ⟨by decide, by decide⟩ hat (Pt.old (Old.nn X _) lq17 lq17) hF1_9 hP9 n1).mono ?_
     rintro E w10 hE
     rcases hE with ⟨cc, aa, hv, rfl, hq⟩ | ⟨ks3, l3, T3, A3, c3, K3, d3, hv, hT3, rfl, hP10, hF3_10, hq⟩
     ·exact lv67
     rw [hv] at hR; simp only [yO, yA] at hR
     dsimp only at hT3
     rw [← hT3] at hR; clear hv n1 hT3; have hF3_10 := hF3_10.into (P := Nn) (lo := w3.heap.size) (x := w6.heap.size) (fun k q => q.grow lq12) lq17 lq17; obtain ⟨hk10, hs10, hz10⟩ := kc hk9 hq; have hxR_10 := kx hq hxR_9; have hxn_10 := kx hq hxn_9; have hxf_10 := kx hq hxf_9; have hF1_10 := hF1_9.kp hq (Old.nn X _) lq17; unfold ndV; obtain ⟨k0, k1, k2, k3, k4, k5⟩ := bx_cells hxn_10; have z := Lib.frozen_of_heap hxn_10
     go_upto_region 16 with fail
     clear k0 k1 k2 k3 k4 k5 z; have hxn_11 := bx_put hxn_10 (u0 := .int .i64 T3.kind) (u1 := .int .i64 T3.pos) (u2 := .string T3.text) (u3 := .bool T3.neg) (u4 := .slice A3 T3.mag.length c3) (u5 := .slice K3 T3.kids.length d3); have hxR_11 := (bx_off (b := w2.heap.size) (u0 := .int .i64 T3.kind) (u1 := .int .i64 T3.pos) (u2 := .string T3.text) (u3 := .bool T3.neg) (u4 := .slice A3 T3.mag.length c3) (u5 := .slice K3 T3.kids.length d3) lq17).trans hxR_10
     have hxf_11 := (bx_off (b := w2.heap.size) (u0 := .int .i64 T3.kind) (u1 := .int .i64 T3.pos) (u2 := .string T3.text) (u3 := .bool T3.neg) (u4 := .slice A3 T3.mag.length c3) (u5 := .slice K3 T3.kids.length d3) lq17).trans hxf_10; have hF1_11 := hF1_10.put6 (b := w2.heap.size) (u0 := .int .i64 T3.kind) (u1 := .int .i64 T3.pos) (u2 := .string T3.text) (u3 := .bool T3.neg) (u4 := .slice A3 T3.mag.length c3) (u5 := .slice K3 T3.kids.length d3) lq17 (fun h => h.elim)
     have hF3_11 := hF3_10.put6 (b := w2.heap.size) (u0 := .int .i64 T3.kind) (u1 := .int .i64 T3.pos) (u2 := .string T3.text) (u3 := .bool T3.neg) (u4 := .slice A3 T3.mag.length c3) (u5 := .slice K3 T3.kids.length d3) lq17 (fun h => h.elim); have hk11 := bx_kp hk10 (b := w2.heap.size) (u0 := .int .i64 T3.kind) (u1 := .int .i64 T3.pos) (u2 := .string T3.text) (u3 := .bool T3.neg) (u4 := .slice A3 T3.mag.length c3) (u5 := .slice K3 T3.kids.length d3) lq17
     have hP11 := hP10.blocks (fun k hk => bx_off (b := w2.heap.size) (u0 := .int .i64 T3.kind) (u1 := .int .i64 T3.pos) (u2 := .string T3.text) (u3 := .bool T3.neg) (u4 := .slice A3 T3.mag.length c3) (u5 := .slice K3 T3.kids.length d3) lq17)
     have hs11 : w10.heap.size ≤ ((((((w10.setCell ⟨w2.heap.size, 0, none⟩ (.int .i64 T3.kind)).setCell ⟨w2.heap.size, 1, none⟩ (.int .i64 T3.pos)).setCell ⟨w2.heap.size, 2, none⟩ (.string T3.text)).setCell ⟨w2.heap.size, 3, none⟩ (.bool T3.neg)).setCell ⟨w2.heap.size, 4, none⟩ (.slice A3 T3.mag.length c3)).setCell ⟨w2.heap.size, 5, none⟩ (.slice K3 T3.kids.length d3)).heap.size := Nat.le_of_eq bx_size.symm
     have hss11 : ((((((w10.setCell ⟨w2.heap.size, 0, none⟩ (.int .i64 T3.kind)).setCell ⟨w2.heap.size, 1, none⟩ (.int .i64 T3.pos)).setCell ⟨w2.heap.size, 2, none⟩ (.string T3.text)).setCell ⟨w2.heap.size, 3, none⟩ (.bool T3.neg)).setCell ⟨w2.heap.size, 4, none⟩ (.slice A3 T3.mag.length c3)).setCell ⟨w2.heap.size, 5, none⟩ (.slice K3 T3.kids.length d3)).heap.size ≤ w10.heap.size := Nat.le_of_eq bx_size; have hz11 := hk11.size
     generalize ((((((w10.setCell ⟨w2.heap.size, 0, none⟩ (.int .i64 T3.kind)).setCell ⟨w2.heap.size, 1, none⟩ (.int .i64 T3.pos)).setCell ⟨w2.heap.size, 2, none⟩ (.string T3.text)).setCell ⟨w2.heap.size, 3, none⟩ (.bool T3.neg)).setCell ⟨w2.heap.size, 4, none⟩ (.slice A3 T3.mag.length c3)).setCell ⟨w2.heap.size, 5, none⟩ (.slice K3 T3.kids.length d3)) = w11 at *
     go_wp2_with fail
     go_at_call 103
     refine (needS_ok hD hC.s_7d hP11).mono ?_
     rintro E w12 hE
     rcases hE with ⟨hv, rfl, hP12, hq⟩ | ⟨hv, rfl, hq⟩
     rotate_left 1
     ·simp only [needS, hv, Bool.false_eq_true, if_false, Rs.bind_bad] at hR; go_wp2_with fail; exact ⟨rfl, retBad (hk11.call (Nat.le_refl _) hq) hR.symm⟩
     simp only [needS, hv, if_true, Rs.bind_ok, Rs.bind_assoc] at hR; obtain ⟨hk12, hs12, hz12⟩ := kc hk11 hq; have hxR_12 := kx hq hxR_11; have hxn_12 := kx hq hxn_11; have hxf_12 := kx hq hxf_11; have hF1_12 := hF1_11.kp hq (Old.nn X _) lq17; have hF3_12 := hF3_11.kp hq (Old.nn X _) lq17; have HE := Lh (show _ ∧ _ ∧ _ from ⟨hk12, hP12, hF3_12⟩); obtain ⟨k0, k1, k2, k3, k4, k5⟩ := bx_cells hxR_12; have z := Lib.frozen_of_heap hxR_12; obtain ⟨mn0, mn1, mn2, mn3, mn4, mn5⟩ := bx_cells hxn_12; obtain ⟨mf0, mf1, mf2, mf3, mf4, mf5⟩ := bx_cells hxf_12
     obtain ⟨r0, r1, r2, r3, r4, r5⟩ := bp hxR_12 (.int .i64 T3.kind) (.int .i64 T3.pos) (.string T3.text) (.bool T3.neg) (.slice A3 T3.mag.length c3) (.slice K3 T3.kids.length d3); clear hxR_12 hxn_12 hxf_12 hF1_12 hF3_12 hk12 hP12; go_wp2_with fail
     refine bodyPost_ret (v := ndV T3 A3 c3 K3 d3) lq3 rfl ?_
     exact lv74
    ·have hvf := hv; simp only [hv, yF, if_false, yO, yA] at hR; obtain ⟨hk9, hs9, hz9⟩ := kc hk8 hq; have hxR_9 := kx hq hxR_8; have hxn_9 := kx hq hxn_8; have hxf_9 := kx hq hxf_8; have hF1_9 := hF1_8.kp hq (Old.nn X _) lq17; go_wp2_with fail
     go_at_call 176
     refine (is1W_ok hD hC.w_for hP9).mono ?_
     rintro E w10 ⟨hE, hP10, hq⟩
     rcases hE with ⟨hv, rfl⟩ | ⟨hv, rfl⟩
     ·try simp only [hv, if_true, yO, yA] at hR
      obtain ⟨hk10, hs10, hz10⟩ := kc hk9 hq; have hxR_10 := kx hq hxR_9; have hxn_10 := kx hq hxn_9; have hxf_10 := kx hq hxf_9; have hF1_10 := hF1_9.kp hq (Old.nn X _) lq17; exact absurd (hvf.symm.trans hv) lq16
     ·try simp only [hv, yF, if_false, yO, yA] at hR
      obtain ⟨hk10, hs10, hz10⟩ := kc hk9 hq; have hxR_10 := kx hq hxR_9; have hxn_10 := kx hq hxn_9; have hxf_10 := kx hq hxf_9; have hF1_10 := hF1_9.kp hq (Old.nn X _) lq17; obtain ⟨mf0, mf1, mf2, mf3, mf4, mf5⟩ := bx_cells hxf_10; have n1 := Rs.ne_of hR hne; go_wp2_with fail
      go_at_call 183
      clear mf0 mf1 mf2 mf3 mf4 mf5
      refine (HA.prest (Pt Nn (w3.heap.size) (w6.heap.size) w10.heap.size) X _ _ _ _ _ _ _ (Pt.old (Old.nn X _) lq17 lq17) hF1_10 hP10 n1).mono ?_
      rintro E w11 hE
      rcases hE with ⟨cc, aa, hv, rfl, hq⟩ | ⟨ks3, l3, A3, c3, hv, rfl, hP11, hR3_11, hq⟩
      ·rw [hv] at hR; go_wp2_with fail; exact ⟨rfl, retBad (hk10.call (Nat.le_refl _) hq) hR.symm⟩
      rw [hv] at hR; simp only [yO, yA] at hR; clear hv n1; have hR3_11 := hR3_11.into (P := Nn) (lo := w3.heap.size) (x := w6.heap.size) (fun k q => q.grow lq12) lq17 lq17; obtain ⟨hk11, hs11, hz11⟩ := kc hk10 hq; have hxR_11 := kx hq hxR_10; have hxn_11 := kx hq hxn_10; have hxf_11 := kx hq hxf_10; have hF1_11 := hF1_10.kp hq (Old.nn X _) lq17; have hFz_11 := hR3_11.node (k := 37) (p := at_) (t := ⟨#[]⟩) ⟨by decide, by decide⟩ hat lq16 false; go_wp2_with fail
      go_at_call 54
      refine (node_okA _ _ _ _ _ _ _).mono ?_
      rintro E w12 ⟨rfl, hq⟩; obtain ⟨hk12, hs12, hz12⟩ := kd hk11 hq; have hP12 := hP11.later hq; have hxR_12 := kb hq hxR_11; have hxn_12 := kb hq hxn_11; have hxf_12 := kb hq hxf_11; have hF1_12 := hF1_11.later hq (Old.nn X _); have hFz_12 := hFz_11.later hq (Old.nn X _); have hR3_12 := hR3_11.later hq (Old.nn X _); obtain ⟨k0, k1, k2, k3, k4, k5⟩ := bx_cells hxn_12; have z := Lib.frozen_of_heap hxn_12
      go_upto_region 16 with fail
      clear k0 k1 k2 k3 k4 k5 z; have hxn_13 := bx_put hxn_12 (u0 := .int .i64 37) (u1 := .int .i64 at_) (u2 := .string (⟨#[]⟩)) (u3 := .bool false) (u4 := .slice none 0 0) (u5 := .slice A3 ks3.length c3); have hxR_13 := (bx_off (b := w2.heap.size) (u0 := .int .i64 37) (u1 := .int .i64 at_) (u2 := .string (⟨#[]⟩)) (u3 := .bool false) (u4 := .slice none 0 0) (u5 := .slice A3 ks3.length c3) lq17).trans hxR_12
      have hxf_13 := (bx_off (b := w2.heap.size) (u0 := .int .i64 37) (u1 := .int .i64 at_) (u2 := .string (⟨#[]⟩)) (u3 := .bool false) (u4 := .slice none 0 0) (u5 := .slice A3 ks3.length c3) lq17).trans hxf_12; have hF1_13 := hF1_12.put6 (b := w2.heap.size) (u0 := .int .i64 37) (u1 := .int .i64 at_) (u2 := .string (⟨#[]⟩)) (u3 := .bool false) (u4 := .slice none 0 0) (u5 := .slice A3 ks3.length c3) lq17 (fun h => h.elim)
      have hFz_13 := hFz_12.put6 (b := w2.heap.size) (u0 := .int .i64 37) (u1 := .int .i64 at_) (u2 := .string (⟨#[]⟩)) (u3 := .bool false) (u4 := .slice none 0 0) (u5 := .slice A3 ks3.length c3) lq17 (fun h => h.elim); have hR3_13 := hR3_12.put6 (b := w2.heap.size) (u0 := .int .i64 37) (u1 := .int .i64 at_) (u2 := .string (⟨#[]⟩)) (u3 := .bool false) (u4 := .slice none 0 0) (u5 := .slice A3 ks3.length c3) lq17 (fun h => h.elim)
      have hk13 := bx_kp hk12 (b := w2.heap.size) (u0 := .int .i64 37) (u1 := .int .i64 at_) (u2 := .string (⟨#[]⟩)) (u3 := .bool false) (u4 := .slice none 0 0) (u5 := .slice A3 ks3.length c3) lq17; have hP13 := hP12.blocks (fun k hk => bx_off (b := w2.heap.size) (u0 := .int .i64 37) (u1 := .int .i64 at_) (u2 := .string (⟨#[]⟩)) (u3 := .bool false) (u4 := .slice none 0 0) (u5 := .slice A3 ks3.length c3) lq17)
      have hs13 : w12.heap.size ≤ ((((((w12.setCell ⟨w2.heap.size, 0, none⟩ (.int .i64 37)).setCell ⟨w2.heap.size, 1, none⟩ (.int .i64 at_)).setCell ⟨w2.heap.size, 2, none⟩ (.string (⟨#[]⟩))).setCell ⟨w2.heap.size, 3, none⟩ (.bool false)).setCell ⟨w2.heap.size, 4, none⟩ (.slice none 0 0)).setCell ⟨w2.heap.size, 5, none⟩ (.slice A3 ks3.length c3)).heap.size := Nat.le_of_eq bx_size.symm
      have hss13 : ((((((w12.setCell ⟨w2.heap.size, 0, none⟩ (.int .i64 37)).setCell ⟨w2.heap.size, 1, none⟩ (.int .i64 at_)).setCell ⟨w2.heap.size, 2, none⟩ (.string (⟨#[]⟩))).setCell ⟨w2.heap.size, 3, none⟩ (.bool false)).setCell ⟨w2.heap.size, 4, none⟩ (.slice none 0 0)).setCell ⟨w2.heap.size, 5, none⟩ (.slice A3 ks3.length c3)).heap.size ≤ w12.heap.size := Nat.le_of_eq bx_size; have hz13 := hk13.size
      generalize ((((((w12.setCell ⟨w2.heap.size, 0, none⟩ (.int .i64 37)).setCell ⟨w2.heap.size, 1, none⟩ (.int .i64 at_)).setCell ⟨w2.heap.size, 2, none⟩ (.string (⟨#[]⟩))).setCell ⟨w2.heap.size, 3, none⟩ (.bool false)).setCell ⟨w2.heap.size, 4, none⟩ (.slice none 0 0)).setCell ⟨w2.heap.size, 5, none⟩ (.slice A3 ks3.length c3)) = w13 at *
      go_wp2_with fail
      go_at_call 103
      refine (needS_ok hD hC.s_7d hP13).mono ?_
      rintro E w14 hE
      rcases hE with ⟨hv, rfl, hP14, hq⟩ | ⟨hv, rfl, hq⟩
      rotate_left 1
      ·simp only [needS, hv, Bool.false_eq_true, if_false, Rs.bind_bad] at hR; go_wp2_with fail; exact ⟨rfl, retBad (hk13.call (Nat.le_refl _) hq) hR.symm⟩
      simp only [needS, hv, if_true, Rs.bind_ok, Rs.bind_assoc] at hR; obtain ⟨hk14, hs14, hz14⟩ := kc hk13 hq; have hxR_14 := kx hq hxR_13; have hxn_14 := kx hq hxn_13; have hxf_14 := kx hq hxf_13; have hF1_14 := hF1_13.kp hq (Old.nn X _) lq17; have hFz_14 := hFz_13.kp hq (Old.nn X _) lq17; have hR3_14 := hR3_13.kp hq (Old.nn X _) lq17; have HE := Lh (show _ ∧ _ ∧ _ from ⟨hk14, hP14, hFz_14⟩); obtain ⟨k0, k1, k2, k3, k4, k5⟩ := bx_cells hxR_14; have z := Lib.frozen_of_heap hxR_14; obtain ⟨mn0, mn1, mn2, mn3, mn4, mn5⟩ := bx_cells hxn_14; obtain ⟨mf0, mf1, mf2, mf3, mf4, mf5⟩ := bx_cells hxf_14
      obtain ⟨r0, r1, r2, r3, r4, r5⟩ := bp hxR_14 (.int .i64 37) (.int .i64 at_) (.string (⟨#[]⟩)) (.bool false) (.slice none 0 0) (.slice A3 ks3.length c3); clear hxR_14 hxn_14 hxf_14 hF1_14 hFz_14 hR3_14 hk14 hP14; go_wp2_with fail
      refine bodyPost_ret (v := .agg #[.int .i64 37, .int .i64 at_, .string (⟨#[]⟩), .bool false, .slice none 0 0, .slice A3 ks3.length c3]) lq3 rfl ?_
      exact lv74
end
end
end Go.Proofs.YtjndbcnmmnkilaaGreatDoor
