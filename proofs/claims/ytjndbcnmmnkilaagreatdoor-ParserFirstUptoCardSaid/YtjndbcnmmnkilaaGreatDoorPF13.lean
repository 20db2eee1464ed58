/- Joined by a program: Pe5. -/
import Derived.Test.YtjndbcnmmnkilaaGreatDoorPF08
namespace Go.Proofs.YtjndbcnmmnkilaaGreatDoor
set_option linter.unusedVariables false
set_option linter.unusedSimpArgs false
set_option maxRecDepth 1000000
set_option maxHeartbeats 16000000
section
open Go.RowKit
open List (length_append length_cons length_nil length_singleton)
section
variable {wB nB gB : ByteArray → Bool} {nO : ByteArray → Option (List Int)} {e : Int} {p : Ps}
theorem pSimple_ok (hD : Deps wB nB gB nO) (hC : Cst wB) (HA : PA e p) : CI e 108 (fun at_ l => s_simple e p at_ l) := by
 intro at_ X l w hat hP0 hne
 obtain ⟨R, hR⟩ : ∃ R, s_simple e p at_ l = R := ⟨_, rfl⟩
 simp only [hR] at hne ⊢
 unfold s_simple at hR
 have hXl := hP0.lt
 have hk0 : Kp w.heap.size X w w := Kp.refl _ _ _
 have hz0 := hk0.size
 go_enter Tryz.func108, Tryz.ntmps108
 go_upto_region 1 with fail
 generalize hG : w.alloc zN = w1 at *
 obtain ⟨hb1, hxR_1, _⟩ := nb hG
 clear hG
 obtain ⟨hk1, _, _⟩ := kd hk0 hb1
 have hP1 := hP0.later hb1
 go_wp2_with fail
 go_at_call 98
 refine (takeW_ok hD hC.w_pass hP1).mono ?_
 rintro E w2 hE
 rcases hE with ⟨hv, rfl, hP2, hq⟩ | ⟨hv, rfl, hP2, hq⟩
 ·simp only [hv, if_true, yO, yA] at hR; obtain ⟨hk2, hs2, hz2⟩ := kc hk1 hq; have hxR_2 := kx hq hxR_1; have hFz_2 := (RowS.nil Nn (w.heap.size + 1) X w2).node (k := 8) (p := at_) (t := ⟨#[]⟩) ⟨by decide, by decide⟩ hat lq16 false; go_wp2_with fail
  go_at_call 54
  refine (node_okA _ _ _ _ _ _ _).mono ?_
  rintro E w3 ⟨rfl, hq⟩; obtain ⟨hk3, hs3, hz3⟩ := kd hk2 hq; have hP3 := hP2.later hq; have hxR_3 := kb hq hxR_2; have hFz_3 := hFz_2.later hq (Old.nn X _); obtain ⟨k0, k1, k2, k3, k4, k5⟩ := bx_cells hxR_3; have z := Lib.frozen_of_heap hxR_3; have HE := Lh (show _ ∧ _ ∧ _ from ⟨hk3, hP3, hFz_3⟩); obtain ⟨r0, r1, r2, r3, r4, r5⟩ := bp hxR_3 (.int .i64 8) (.int .i64 at_) (.string (⟨#[]⟩)) (.bool false) (.slice none 0 0) (.slice none 0 0); clear hxR_3 hFz_3 hk3 hP3; go_wp2_with fail
  refine bodyPost_ret (v := .agg #[.int .i64 8, .int .i64 at_, .string (⟨#[]⟩), .bool false, .slice none 0 0, .slice none 0 0]) lq4 rfl ?_
  exact lv74
 ·simp only [hv, yF, if_false, yO, yA] at hR; obtain ⟨hk2, hs2, hz2⟩ := kc hk1 hq; have hxR_2 := kx hq hxR_1; go_wp2_with fail
  go_at_call 98
  refine (takeW_ok hD hC.w_break hP2).mono ?_
  rintro E w3 hE
  rcases hE with ⟨hv, rfl, hP3, hq⟩ | ⟨hv, rfl, hP3, hq⟩
  ·simp only [hv, if_true, yO, yA] at hR; obtain ⟨hk3, hs3, hz3⟩ := kc hk2 hq; have hxR_3 := kx hq hxR_2; have hFz_3 := (RowS.nil Nn (w.heap.size + 1) X w3).node (k := 9) (p := at_) (t := ⟨#[]⟩) ⟨by decide, by decide⟩ hat lq16 false; go_wp2_with fail
   go_at_call 54
   refine (node_okA _ _ _ _ _ _ _).mono ?_
   rintro E w4 ⟨rfl, hq⟩; obtain ⟨hk4, hs4, hz4⟩ := kd hk3 hq; have hP4 := hP3.later hq; have hxR_4 := kb hq hxR_3; have hFz_4 := hFz_3.later hq (Old.nn X _); obtain ⟨k0, k1, k2, k3, k4, k5⟩ := bx_cells hxR_4; have z := Lib.frozen_of_heap hxR_4; have HE := Lh (show _ ∧ _ ∧ _ from ⟨hk4, hP4, hFz_4⟩); obtain ⟨r0, r1, r2, r3, r4, r5⟩ := bp hxR_4 (.int .i64 9) (.int .i64 at_) (.string (⟨#[]⟩)) (.bool false) (.slice none 0 0) (.slice none 0 0); clear hxR_4 hFz_4 hk4 hP4; go_wp2_with fail
   refine bodyPost_ret (v := .agg #[.int .i64 9, .int .i64 at_, .string (⟨#[]⟩), .bool false, .slice none 0 0, .slice none 0 0]) lq4 rfl ?_
   exact lv74
  ·simp only [hv, yF, if_false, yO, yA] at hR; obtain ⟨hk3, hs3, hz3⟩ := kc hk2 hq; have hxR_3 := kx hq hxR_2; go_wp2_with fail
   go_at_call 98
   refine (takeW_ok hD hC.w_continue hP3).mono ?_
   rintro E w4 hE
   rcases hE with ⟨hv, rfl, hP4, hq⟩ | ⟨hv, rfl, hP4, hq⟩
   ·simp only [hv, if_true, yO, yA] at hR; obtain ⟨hk4, hs4, hz4⟩ := kc hk3 hq; have hxR_4 := kx hq hxR_3; have hFz_4 := (RowS.nil Nn (w.heap.size + 1) X w4).node (k := 10) (p := at_) (t := ⟨#[]⟩) ⟨by decide, by decide⟩ hat lq16 false; go_wp2_with fail
    go_at_call 54
    refine (node_okA _ _ _ _ _ _ _).mono ?_
    rintro E w5 ⟨rfl, hq⟩; obtain ⟨hk5, hs5, hz5⟩ := kd hk4 hq; have hP5 := hP4.later hq; have hxR_5 := kb hq hxR_4; have hFz_5 := hFz_4.later hq (Old.nn X _); obtain ⟨k0, k1, k2, k3, k4, k5⟩ := bx_cells hxR_5; have z := Lib.frozen_of_heap hxR_5; have HE := Lh (show _ ∧ _ ∧ _ from ⟨hk5, hP5, hFz_5⟩); obtain ⟨r0, r1, r2, r3, r4, r5⟩ := bp hxR_5 (.int .i64 10) (.int .i64 at_) (.string (⟨#[]⟩)) (.bool false) (.slice none 0 0) (.slice none 0 0); clear hxR_5 hFz_5 hk5 hP5; go_wp2_with fail
    refine bodyPost_ret (v := .agg #[.int .i64 10, .int .i64 at_, .string (⟨#[]⟩), .bool false, .slice none 0 0, .slice none 0 0]) lq4 rfl ?_
    exact lv74
   ·simp only [hv, yF, if_false, yO, yA] at hR; obtain ⟨hk4, hs4, hz4⟩ := kc hk3 hq; have hxR_4 := kx hq hxR_3; go_wp2_with fail
    go_at_call 98
    refine (takeW_ok hD hC.w_return hP4).mono ?_
    rintro E w5 hE
    rcases hE with ⟨hv, rfl, hP5, hq⟩ | ⟨hv, rfl, hP5, hq⟩
    ·simp only [hv, if_true, yO, yA] at hR; obtain ⟨hk5, hs5, hz5⟩ := kc hk4 hq; have hxR_5 := kx hq hxR_4; go_wp2_with fail
     go_at_call 186
     refine (begins_ok hD hC hP5).mono ?_
     rintro E w6 ⟨hE, hP6, hq⟩
     rcases hE with ⟨hv, rfl⟩ | ⟨hv, rfl⟩
     ·simp only [hv, if_true, yO, yA] at hR; obtain ⟨hk6, hs6, hz6⟩ := kc hk5 hq; have hxR_6 := kx hq hxR_5; have n1 := Rs.ne_of hR hne; go_wp2_with fail
      go_at_call 104
      refine (HA.pexprs X _ _ hP6 n1).mono ?_
      rintro E w7 hE
      rcases hE with ⟨cc, aa, hv, rfl, hq⟩ | ⟨T1, l1, A1, c1, K1, d1, hv, rfl, hP7, hF1_7, hq⟩
      ·exact lv65
      rw [hv] at hR; simp only [yO, yA] at hR; clear hv n1; have hF1_7 := hF1_7.intoN (P := Nn) (lo := w.heap.size + 1) (x := X) lq17 lq17; obtain ⟨hk7, hs7, hz7⟩ := kc hk6 hq; have hxR_7 := kx hq hxR_6; unfold ndV; go_wp2_with fail
      have hro := row_made (P := Nn) (lo := w.heap.size + 1) (x := X) (X := X) w7 [⟨T1, A1, c1, K1, d1⟩] #[.int .i64 T1.kind, .int .i64 T1.pos, .string T1.text, .bool T1.neg, .slice A1 T1.mag.length c1, .slice K1 T1.kids.length d1] 1 rfl rfl lq17 lq17 lq16 (Old.nn X _) (by
       intro q hq; simp only [List.mem_cons, List.not_mem_nil, or_false] at hq
       rcases hq with rfl <;> assumption)
      generalize hG : w7.alloc (oN T1 A1 c1 K1 d1) = w8 at *
      obtain ⟨hb8, _, hse8⟩ := nb hG; clear hG; obtain ⟨hk8, hs8, hz8⟩ := kd hk7 hb8; have hP8 := hP7.later hb8; have hxR_8 := kb hb8 hxR_7; have hF1_8 := hF1_7.later hb8 (Old.nn X _); have hFz_8 := hro.node (k := 11) (p := at_) (t := ⟨#[]⟩) ⟨by decide, by decide⟩ hat lq16 false; clear hro; go_wp2_with fail
      go_at_call 54
      refine (node_okA _ _ _ _ _ _ _).mono ?_
      rintro E w9 ⟨rfl, hq⟩; obtain ⟨hk9, hs9, hz9⟩ := kd hk8 hq; have hP9 := hP8.later hq; have hxR_9 := kb hq hxR_8; have hF1_9 := hF1_8.later hq (Old.nn X _); have hFz_9 := hFz_8.later hq (Old.nn X _); obtain ⟨k0, k1, k2, k3, k4, k5⟩ := bx_cells hxR_9; have z := Lib.frozen_of_heap hxR_9; have HE := Lh (show _ ∧ _ ∧ _ from ⟨hk9, hP9, hFz_9⟩); obtain ⟨r0, r1, r2, r3, r4, r5⟩ := bp hxR_9 (.int .i64 11) (.int .i64 at_) (.string ⟨#[]⟩) (.bool false) (.slice none 0 0) (.slice (some ⟨w7.heap.size, 0, none⟩) 1 1); clear hxR_9 hF1_9 hFz_9 hk9 hP9; exact lv29
     ·simp only [hv, yF, if_false, yO, yA] at hR; obtain ⟨hk6, hs6, hz6⟩ := kc hk5 hq; have hxR_6 := kx hq hxR_5; go_wp2_with fail
      go_at_call 178
      refine (none_okA _ _).mono ?_
      rintro E w7 ⟨rfl, hq⟩; obtain ⟨hk7, hs7, hz7⟩ := kd hk6 hq; have hP7 := hP6.later hq; have hxR_7 := kb hq hxR_6; have hFy_7 := (RowS.nil Nn (w.heap.size + 1) X w7).node (k := 0) (p := at_) (t := ⟨#[]⟩) ⟨by decide, by decide⟩ hat lq16 false; go_wp2_with fail
      have hro := row_made (P := Nn) (lo := w.heap.size + 1) (x := X) (X := X) w7 [⟨Nd.mk 0 at_ ⟨#[]⟩ false [] [], none, 0, none, 0⟩] #[.int .i64 0, .int .i64 at_, .string ⟨#[]⟩, .bool false, .slice none 0 0, .slice none 0 0] 1 rfl rfl lq17 lq17 lq16 (Old.nn X _) (by
       intro q hq; simp only [List.mem_cons, List.not_mem_nil, or_false] at hq
       rcases hq with rfl <;> assumption)
      generalize hG : w7.alloc (.cells #[.int .i64 0, .int .i64 at_, .string ⟨#[]⟩, .bool false, .slice none 0 0, .slice none 0 0] 29) = w8 at *
      obtain ⟨hb8, _, hse8⟩ := nb hG; clear hG; obtain ⟨hk8, hs8, hz8⟩ := kd hk7 hb8; have hP8 := hP7.later hb8; have hxR_8 := kb hb8 hxR_7; have hFy_8 := hFy_7.later hb8 (Old.nn X _); have hFz_8 := hro.node (k := 11) (p := at_) (t := ⟨#[]⟩) ⟨by decide, by decide⟩ hat lq16 false; clear hro; go_wp2_with fail
      go_at_call 54
      refine (node_okA _ _ _ _ _ _ _).mono ?_
      rintro E w9 ⟨rfl, hq⟩; obtain ⟨hk9, hs9, hz9⟩ := kd hk8 hq; have hP9 := hP8.later hq; have hxR_9 := kb hq hxR_8; have hFy_9 := hFy_8.later hq (Old.nn X _); have hFz_9 := hFz_8.later hq (Old.nn X _); obtain ⟨k0, k1, k2, k3, k4, k5⟩ := bx_cells hxR_9; have z := Lib.frozen_of_heap hxR_9; have HE := Lh (show _ ∧ _ ∧ _ from ⟨hk9, hP9, hFz_9⟩); obtain ⟨r0, r1, r2, r3, r4, r5⟩ := bp hxR_9 (.int .i64 11) (.int .i64 at_) (.string ⟨#[]⟩) (.bool false) (.slice none 0 0) (.slice (some ⟨w7.heap.size, 0, none⟩) 1 1); clear hxR_9 hFy_9 hFz_9 hk9 hP9; exact lv29
    ·simp only [hv, yF, if_false, yO, yA] at hR; obtain ⟨hk5, hs5, hz5⟩ := kc hk4 hq; have hxR_5 := kx hq hxR_4; go_wp2_with fail
     go_at_call 98
     refine (takeW_ok hD hC.w_raise hP5).mono ?_
     rintro E w6 hE
     rcases hE with ⟨hv, rfl, hP6, hq⟩ | ⟨hv, rfl, hP6, hq⟩
     ·simp only [hv, if_true, yO, yA] at hR; obtain ⟨hk6, hs6, hz6⟩ := kc hk5 hq; have hxR_6 := kx hq hxR_5; go_wp2_with fail
      go_at_call 186
      refine (begins_ok hD hC hP6).mono ?_
      rintro E w7 ⟨hE, hP7, hq⟩
      rcases hE with ⟨hv, rfl⟩ | ⟨hv, rfl⟩
      ·simp only [hv, if_true, yO, yA] at hR; obtain ⟨hk7, hs7, hz7⟩ := kc hk6 hq; have hxR_7 := kx hq hxR_6; have n1 := Rs.ne_of hR hne; go_wp2_with fail
       go_at_call 100
       refine (HA.pexpr X _ _ hP7 n1).mono ?_
       rintro E w8 hE
       rcases hE with ⟨cc, aa, hv, rfl, hq⟩ | ⟨T1, l1, A1, c1, K1, d1, hv, rfl, hP8, hF1_8, hq⟩
       ·exact lv64
       rw [hv] at hR; simp only [yO, yA] at hR; clear hv n1; have hF1_8 := hF1_8.intoN (P := Nn) (lo := w.heap.size + 1) (x := X) lq17 lq17; obtain ⟨hk8, hs8, hz8⟩ := kc hk7 hq; have hxR_8 := kx hq hxR_7; unfold ndV; go_wp2_with fail
       have hro := row_made (P := Nn) (lo := w.heap.size + 1) (x := X) (X := X) w8 [⟨T1, A1, c1, K1, d1⟩] #[.int .i64 T1.kind, .int .i64 T1.pos, .string T1.text, .bool T1.neg, .slice A1 T1.mag.length c1, .slice K1 T1.kids.length d1] 1 rfl rfl lq17 lq17 lq16 (Old.nn X _) (by
        intro q hq; simp only [List.mem_cons, List.not_mem_nil, or_false] at hq
        rcases hq with rfl <;> assumption)
       generalize hG : w8.alloc (oN T1 A1 c1 K1 d1) = w9 at *
       obtain ⟨hb9, _, hse9⟩ := nb hG; clear hG; obtain ⟨hk9, hs9, hz9⟩ := kd hk8 hb9; have hP9 := hP8.later hb9; have hxR_9 := kb hb9 hxR_8; have hF1_9 := hF1_8.later hb9 (Old.nn X _); have hFz_9 := hro.node (k := 12) (p := at_) (t := ⟨#[]⟩) ⟨by decide, by decide⟩ hat lq16 false; clear hro; go_wp2_with fail
       go_at_call 54
       refine (node_okA _ _ _ _ _ _ _).mono ?_
       rintro E w10 ⟨rfl, hq⟩; obtain ⟨hk10, hs10, hz10⟩ := kd hk9 hq; have hP10 := hP9.later hq; have hxR_10 := kb hq hxR_9; have hF1_10 := hF1_9.later hq (Old.nn X _); have hFz_10 := hFz_9.later hq (Old.nn X _); obtain ⟨k0, k1, k2, k3, k4, k5⟩ := bx_cells hxR_10; have z := Lib.frozen_of_heap hxR_10; have HE := Lh (show _ ∧ _ ∧ _ from ⟨hk10, hP10, hFz_10⟩); obtain ⟨r0, r1, r2, r3, r4, r5⟩ := bp hxR_10 (.int .i64 12) (.int .i64 at_) (.string ⟨#[]⟩) (.bool false) (.slice none 0 0) (.slice (some ⟨w8.heap.size, 0, none⟩) 1 1); clear hxR_10 hF1_10 hFz_10 hk10 hP10; exact lv30
      ·simp only [hv, yF, if_false, yO, yA] at hR; obtain ⟨hk7, hs7, hz7⟩ := kc hk6 hq; have hxR_7 := kx hq hxR_6; go_wp2_with fail
       go_at_call 178
       refine (none_okA _ _).mono ?_
       rintro E w8 ⟨rfl, hq⟩; obtain ⟨hk8, hs8, hz8⟩ := kd hk7 hq; have hP8 := hP7.later hq; have hxR_8 := kb hq hxR_7; have hFy_8 := (RowS.nil Nn (w.heap.size + 1) X w8).node (k := 0) (p := at_) (t := ⟨#[]⟩) ⟨by decide, by decide⟩ hat lq16 false; go_wp2_with fail
       have hro := row_made (P := Nn) (lo := w.heap.size + 1) (x := X) (X := X) w8 [⟨Nd.mk 0 at_ ⟨#[]⟩ false [] [], none, 0, none, 0⟩] #[.int .i64 0, .int .i64 at_, .string ⟨#[]⟩, .bool false, .slice none 0 0, .slice none 0 0] 1 rfl rfl lq17 lq17 lq16 (Old.nn X _) (by
        intro q hq; simp only [List.mem_cons, List.not_mem_nil, or_false] at hq
        rcases hq with rfl <;> assumption)
       generalize hG : w8.alloc (.cells #[.int .i64 0, .int .i64 at_, .string ⟨#[]⟩, .bool false, .slice none 0 0, .slice none 0 0] 29) = w9 at *
       obtain ⟨hb9, _, hse9⟩ := nb hG; clear hG; obtain ⟨hk9, hs9, hz9⟩ := kd hk8 hb9; have hP9 := hP8.later hb9; have hxR_9 := kb hb9 hxR_8; have hFy_9 := hFy_8.later hb9 (Old.nn X _); have hFz_9 := hro.node (k := 12) (p := at_) (t := ⟨#[]⟩) ⟨by decide, by decide⟩ hat lq16 false; clear hro; go_wp2_with fail
       go_at_call 54
       refine (node_okA _ _ _ _ _ _ _).mono ?_
       rintro E w10 ⟨rfl, hq⟩; obtain ⟨hk10, hs10, hz10⟩ := kd hk9 hq; have hP10 := hP9.later hq; have hxR_10 := kb hq hxR_9; have hFy_10 := hFy_9.later hq (Old.nn X _); have hFz_10 := hFz_9.later hq (Old.nn X _); obtain ⟨k0, k1, k2, k3, k4, k5⟩ := bx_cells hxR_10; have z := Lib.frozen_of_heap hxR_10; have HE := Lh (show _ ∧ _ ∧ _ from ⟨hk10, hP10, hFz_10⟩); obtain ⟨r0, r1, r2, r3, r4, r5⟩ := bp hxR_10 (.int .i64 12) (.int .i64 at_) (.string ⟨#[]⟩) (.bool false) (.slice none 0 0) (.slice (some ⟨w8.heap.size, 0, none⟩) 1 1); clear hxR_10 hFy_10 hFz_10 hk10 hP10; exact lv30
     ·simp only [hv, yF, if_false, yO, yA] at hR; obtain ⟨hk6, hs6, hz6⟩ := kc hk5 hq; have hxR_6 := kx hq hxR_5; go_wp2_with fail
      go_at_call 98
      refine (takeW_ok hD hC.w_global hP6).mono ?_
      rintro E w7 hE
      rcases hE with ⟨hv, rfl, hP7, hq⟩ | ⟨hv, rfl, hP7, hq⟩
      ·simp only [hv, if_true, yO, yA] at hR; obtain ⟨hk7, hs7, hz7⟩ := kc hk6 hq; have hxR_7 := kx hq hxR_6; have n1 := Rs.ne_of hR hne; go_wp2_with fail
       go_at_call 187
       refine (HA.pnames 13 at_ X _ _ ⟨by decide, by decide⟩ hat hP7 n1).mono ?_
       rintro E w8 hE
       rcases hE with ⟨cc, aa, hv, rfl, hq⟩ | ⟨ks1, l1, T1, A1, c1, K1, d1, hv, hT1, rfl, hP8, hF1_8, hq⟩
       ·exact lv64
       rw [hv] at hR; simp only [yO, yA] at hR
       dsimp only at hT1
       rw [← hT1] at hR; clear hv n1 hT1; have hF1_8 := hF1_8.intoN (P := Nn) (lo := w.heap.size + 1) (x := X) lq17 lq17; obtain ⟨hk8, hs8, hz8⟩ := kc hk7 hq; have hxR_8 := kx hq hxR_7; unfold ndV; have HE := Lh (show _ ∧ _ ∧ _ from ⟨hk8, hP8, hF1_8⟩); obtain ⟨k0, k1, k2, k3, k4, k5⟩ := bx_cells hxR_8; have z := Lib.frozen_of_heap hxR_8; obtain ⟨r0, r1, r2, r3, r4, r5⟩ := bp hxR_8 (.int .i64 T1.kind) (.int .i64 T1.pos) (.string T1.text) (.bool T1.neg) (.slice A1 T1.mag.length c1) (.slice K1 T1.kids.length d1); clear hxR_8 hF1_8 hk8 hP8; exact lv51
      ·simp only [hv, yF, if_false, yO, yA] at hR; obtain ⟨hk7, hs7, hz7⟩ := kc hk6 hq; have hxR_7 := kx hq hxR_6; go_wp2_with fail
       go_at_call 98
       refine (takeW_ok hD hC.w_nonlocal hP7).mono ?_
       rintro E w8 hE
       rcases hE with ⟨hv, rfl, hP8, hq⟩ | ⟨hv, rfl, hP8, hq⟩
       ·simp only [hv, if_true, yO, yA] at hR; obtain ⟨hk8, hs8, hz8⟩ := kc hk7 hq; have hxR_8 := kx hq hxR_7; have n1 := Rs.ne_of hR hne; go_wp2_with fail
        go_at_call 187
        refine (HA.pnames 14 at_ X _ _ ⟨by decide, by decide⟩ hat hP8 n1).mono ?_
        rintro E w9 hE
        rcases hE with ⟨cc, aa, hv, rfl, hq⟩ | ⟨ks1, l1, T1, A1, c1, K1, d1, hv, hT1, rfl, hP9, hF1_9, hq⟩
        ·exact lv66
        rw [hv] at hR; simp only [yO, yA] at hR
        dsimp only at hT1
        rw [← hT1] at hR; clear hv n1 hT1; have hF1_9 := hF1_9.intoN (P := Nn) (lo := w.heap.size + 1) (x := X) lq17 lq17; obtain ⟨hk9, hs9, hz9⟩ := kc hk8 hq; have hxR_9 := kx hq hxR_8; unfold ndV; have HE := Lh (show _ ∧ _ ∧ _ from ⟨hk9, hP9, hF1_9⟩); obtain ⟨k0, k1, k2, k3, k4, k5⟩ := bx_cells hxR_9; have z := Lib.frozen_of_heap hxR_9; obtain ⟨r0, r1, r2, r3, r4, r5⟩ := bp hxR_9 (.int .i64 T1.kind) (.int .i64 T1.pos) (.string T1.text) (.bool T1.neg) (.slice A1 T1.mag.length c1) (.slice K1 T1.kids.length d1); clear hxR_9 hF1_9 hk9 hP9; exact lv51
       ·simp only [hv, yF, if_false, yO, yA] at hR; obtain ⟨hk8, hs8, hz8⟩ := kc hk7 hq; have hxR_8 := kx hq hxR_7; go_wp2_with fail
        go_at_call 98
        refine (takeW_ok hD hC.w_del hP8).mono ?_
        rintro E w9 hE
        rcases hE with ⟨hv, rfl, hP9, hq⟩ | ⟨hv, rfl, hP9, hq⟩
        ·simp only [hv, if_true, yO, yA] at hR; obtain ⟨hk9, hs9, hz9⟩ := kc hk8 hq; have hxR_9 := kx hq hxR_8; have n1 := Rs.ne_of hR hne; go_wp2_with fail
         go_at_call 180
         refine (HA.ppostfix X _ _ hP9 n1).mono ?_
         rintro E w10 hE
         rcases hE with ⟨cc, aa, hv, rfl, hq⟩ | ⟨T1, l1, A1, c1, K1, d1, hv, rfl, hP10, hF1_10, hq⟩
         ·exact lv67
         rw [hv] at hR; simp only [yO, yA] at hR; clear hv n1; have hF1_10 := hF1_10.intoN (P := Nn) (lo := w.heap.size + 1) (x := X) lq17 lq17; obtain ⟨hk10, hs10, hz10⟩ := kc hk9 hq; have hxR_10 := kx hq hxR_9; unfold ndV; go_wp2_with fail
         go_at_call 181
         refine (target_ok T1 _ _ _ _ _ hF1_10.now.parts.2.2.2.2.2.2.1).mono ?_
         rintro E w11 ⟨hE, hq⟩
         rcases hE with ⟨hv, rfl⟩ | ⟨hv, rfl⟩
         rotate_left 1
         ·simp only [hv, Bool.false_eq_true, if_false] at hR; go_wp2_with fail; exact ⟨rfl, retBad (hk10.below (Nat.le_refl _) hq) hR.symm⟩
         simp only [hv, if_true] at hR; obtain ⟨hk11, _, _⟩ := kd hk10 hq; have hP11 := hP10.later hq; have hxR_11 := kb hq hxR_10; have hF1_11 := hF1_10.later hq (Old.nn X _); go_wp2_with fail
         have hro := row_made (P := Nn) (lo := w.heap.size + 1) (x := X) (X := X) w11 [⟨T1, A1, c1, K1, d1⟩] #[.int .i64 T1.kind, .int .i64 T1.pos, .string T1.text, .bool T1.neg, .slice A1 T1.mag.length c1, .slice K1 T1.kids.length d1] 1 rfl rfl lq17 lq17 lq16 (Old.nn X _) (by
          intro q hq; simp only [List.mem_cons, List.not_mem_nil, or_false] at hq
          rcases hq with rfl <;> assumption)
         generalize hG : w11.alloc (oN T1 A1 c1 K1 d1) = w12 at *
         obtain ⟨hb12, _, _⟩ := nb hG; clear hG; obtain ⟨hk12, _, _⟩ := kd hk11 hb12; have hP12 := hP11.later hb12; have hxR_12 := kb hb12 hxR_11; have hF1_12 := hF1_11.later hb12 (Old.nn X _); have hFz_12 := hro.node (k := 7) (p := at_) (t := ⟨#[]⟩) ⟨by decide, by decide⟩ hat lq16 false; clear hro; go_wp2_with fail
         go_at_call 54
         refine (node_okA _ _ _ _ _ _ _).mono ?_
         rintro E w13 ⟨rfl, hq⟩; obtain ⟨hk13, _, _⟩ := kd hk12 hq; have hP13 := hP12.later hq; have hxR_13 := kb hq hxR_12; have hF1_13 := hF1_12.later hq (Old.nn X _); have hFz_13 := hFz_12.later hq (Old.nn X _); obtain ⟨k0, k1, k2, k3, k4, k5⟩ := bx_cells hxR_13; have z := Lib.frozen_of_heap hxR_13; have HE := Lh (show _ ∧ _ ∧ _ from ⟨hk13, hP13, hFz_13⟩); obtain ⟨r0, r1, r2, r3, r4, r5⟩ := bp hxR_13 (.int .i64 7) (.int .i64 at_) (.string ⟨#[]⟩) (.bool false) (.slice none 0 0) (.slice (some ⟨w11.heap.size, 0, none⟩) 1 1); clear hxR_13 hF1_13 hFz_13 hk13 hP13; go_wp2_with fail
         refine bodyPost_ret (v := .agg #[.int .i64 7, .int .i64 at_, .string ⟨#[]⟩, .bool false, .slice none 0 0, .slice (some ⟨w11.heap.size, 0, none⟩) 1 1]) lq4 rfl ?_
         exact lv74
        ·simp only [hv, yF, if_false, yO, yA] at hR; obtain ⟨hk9, hs9, hz9⟩ := kc hk8 hq; have hxR_9 := kx hq hxR_8; have n1 := ne_tail hR hne; go_wp2_with fail
         go_at_call 188
         refine (HA.passign at_ X _ _ hat hP9 n1).mono ?_
         rintro E w10 hE
         rcases hE with ⟨cc, aa, hv, rfl, hq⟩ | ⟨T1, l1, A1, c1, K1, d1, hv, rfl, hP10, hF1_10, hq⟩
         ·exact lv67
         rw [hv] at hR; clear hv n1; have hF1_10 := hF1_10.intoN (P := Nn) (lo := w.heap.size + 1) (x := X) lq17 lq17; obtain ⟨hk10, hs10, hz10⟩ := kc hk9 hq; have hxR_10 := kx hq hxR_9; unfold ndV; have HE := Lh (show _ ∧ _ ∧ _ from ⟨hk10, hP10, hF1_10⟩); obtain ⟨k0, k1, k2, k3, k4, k5⟩ := bx_cells hxR_10; have z := Lib.frozen_of_heap hxR_10; obtain ⟨r0, r1, r2, r3, r4, r5⟩ := bp hxR_10 (.int .i64 T1.kind) (.int .i64 T1.pos) (.string T1.text) (.bool T1.neg) (.slice A1 T1.mag.length c1) (.slice K1 T1.kids.length d1); clear hxR_10 hF1_10 hk10 hP10; exact lv51
theorem pChoice_ok (hD : Deps wB nB gB nO) (hC : Cst wB) (HA : PA e p) : CI e 99 (fun at_ l => s_choice e p at_ l) := by
 intro at_ X l w hat hP0 hne
 obtain ⟨R, hR⟩ : ∃ R, s_choice e p at_ l = R := ⟨_, rfl⟩
 simp only [hR] at hne ⊢
 unfold s_choice at hR
 have hXl := hP0.lt
 have hk0 : Kp w.heap.size X w w := Kp.refl _ _ _
 have hz0 := hk0.size
 go_enter Tryz.func99, Tryz.ntmps99
 go_upto_region 1 with fail
 generalize hG : w.alloc zN = w1 at *
 obtain ⟨hb1, hxR_1, _⟩ := nb hG
 clear hG
 obtain ⟨hk1, _, _⟩ := kd hk0 hb1
 have hP1 := hP0.later hb1
 have n1 := Rs.ne_of hR hne
 go_wp2_with fail
 go_at_call 100
 refine (HA.pexpr X _ _ hP1 n1).mono ?_
 rintro E w2 hE
 rcases hE with ⟨cc, aa, hv, rfl, hq⟩ | ⟨T1, l1, A1, c1, K1, d1, hv, rfl, hP2, hF1_2, hq⟩
 ·exact lv61
 rw [hv] at hR
 simp only [yO, yA] at hR
 clear hv n1
 have hF1_2 := hF1_2.intoN (P := Nn) (lo := w.heap.size + 1) (x := X) lq17 lq17
 obtain ⟨hk2, _, _⟩ := kc hk1 hq
 have hxR_2 := kx hq hxR_1
 unfold ndV
 go_upto_region 2 with fail
 generalize hG : w2.alloc (oN T1 A1 c1 K1 d1) = w3 at *
 obtain ⟨hb3, hxt_3, _⟩ := nb hG
 clear hG
 obtain ⟨hk3, _, _⟩ := kd hk2 hb3
 have hP3 := hP2.later hb3
 have hxR_3 := kb hb3 hxR_2
 have hF1_3 := hF1_2.later hb3 (Old.nn X _)
 have n1 := Rs.ne_of hR hne
 go_wp2_with fail
 go_at_call 101
 refine (HA.pblock X _ _ hP3 n1).mono ?_
 rintro E w4 hE
 rcases hE with ⟨cc, aa, hv, rfl, hq⟩ | ⟨T2, l2, A2, c2, K2, d2, hv, rfl, hP4, hF2_4, hq⟩
 ·exact lv60
 rw [hv] at hR
 simp only [yO, yA] at hR
 clear hv n1
 have hF2_4 := hF2_4.intoN (P := Nn) (lo := w.heap.size + 1) (x := X) lq17 lq17
 obtain ⟨hk4, _, _⟩ := kc hk3 hq
 have hxR_4 := kx hq hxR_3
 have hxt_4 := kx hq hxt_3
 have hF1_4 := hF1_3.kp hq (Old.nn X _) lq17
 unfold ndV
 go_upto_region 3 with fail
 generalize hG : w4.alloc (oN T2 A2 c2 K2 d2) = w5 at *
 obtain ⟨hb5, hxb_5, _⟩ := nb hG
 clear hG
 obtain ⟨hk5, _, _⟩ := kd hk4 hb5
 have hP5 := hP4.later hb5
 have hxR_5 := kb hb5 hxR_4
 have hxt_5 := kb hb5 hxt_4
 have hF1_5 := hF1_4.later hb5 (Old.nn X _)
 have hF2_5 := hF2_4.later hb5 (Old.nn X _)
 go_wp2_with fail
 go_at_call 178
 refine (none_okA _ _).mono ?_
 rintro E w6 ⟨rfl, hq⟩
 obtain ⟨hk6, _, _⟩ := kd hk5 hq
 have hP6 := hP5.later hq
 have hxR_6 := kb hq hxR_5
 have hxt_6 := kb hq hxt_5
 have hxb_6 := kb hq hxb_5
 have hF1_6 := hF1_5.later hq (Old.nn X _)
 have hF2_6 := hF2_5.later hq (Old.nn X _)
 go_upto_region 4 with fail
 have hF1_6 := hF1_6.setx (x' := w6.heap.size) lq17
 have hF2_6 := hF2_6.setx (x' := w6.heap.size) lq17
 generalize hG : w6.alloc (.cells #[.int .i64 0, .int .i64 at_, .string ⟨#[]⟩, .bool false, .slice none 0 0, .slice none 0 0] 29) = w7 at *
 obtain ⟨hb7, hxo_7, _⟩ := nb hG
 clear hG
 obtain ⟨hk7, _, _⟩ := kd hk6 hb7
 have hP7 := hP6.later hb7
 have hxR_7 := kb hb7 hxR_6
 have hxt_7 := kb hb7 hxt_6
 have hxb_7 := kb hb7 hxb_6
 have hF1_7 := hF1_6.later hb7 (Old.nn X _)
 have hF2_7 := hF2_6.later hb7 (Old.nn X _)
 have hpos := hP7.hd.2.1
 go_wp2_with fail
 go_at_call 55
 refine (next_ok hP7).mono ?_
 rintro E w8 ⟨rfl, hq⟩
 obtain ⟨hk8, _, _⟩ := kd hk7 hq
 have hP8 := hP7.later hq
 have hxR_8 := kb hq hxR_7
 have hxt_8 := kb hq hxt_7
 have hxb_8 := kb hq hxb_7
 have hxo_8 := kb hq hxo_7
 have hF1_8 := hF1_7.later hq (Old.nn X _)
 have hF2_8 := hF2_7.later hq (Old.nn X _)
 have F2_8 := tfield2 (hd e l2).kind (hd e l2).text (hd e l2).pos
 unfold tokA
 go_wp2_with fail
 go_at_call 98
 refine (takeW_ok hD hC.w_elif hP8).mono ?_
 rintro E w9 hE
 rcases hE with ⟨hv, rfl, hP9, hq⟩ | ⟨hv, rfl, hP9, hq⟩
 ·simp only [hv, if_true, yO, yA] at hR; obtain ⟨hk9, hs9, hz9⟩ := kc hk8 hq; have hxR_9 := kx hq hxR_8; have hxt_9 := kx hq hxt_8; have hxb_9 := kx hq hxb_8; have hxo_9 := kx hq hxo_8; have hF1_9 := hF1_8.kp hq (Old.nn X _) lq17; have hF2_9 := hF2_8.kp hq (Old.nn X _) lq17; have n1 := Rs.ne_of hR hne; go_wp2_with fail
  go_at_call 99
  refine (HA.pchoice ((hd e l2).pos) X _ _ hpos hP9 n1).mono ?_
  rintro E w10 hE
  rcases hE with ⟨cc, aa, hv, rfl, hq⟩ | ⟨T3, l3, A3, c3, K3, d3, hv, rfl, hP10, hF3_10, hq⟩
  ·exact lv67
  rw [hv] at hR; simp only [yO, yA] at hR; clear hv n1; have hF3_10 := hF3_10.intoN (P := Nn) (lo := w.heap.size + 1) (x := w6.heap.size) lq17 lq17; obtain ⟨hk10, hs10, hz10⟩ := kc hk9 hq; have hxR_10 := kx hq hxR_9; have hxt_10 := kx hq hxt_9; have hxb_10 := kx hq hxb_9; have hxo_10 := kx hq hxo_9; have hF1_10 := hF1_9.kp hq (Old.nn X _) lq17; have hF2_10 := hF2_9.kp hq (Old.nn X _) lq17; unfold ndV; go_wp2_with fail
  have hro := row_made (P := Nn) (lo := w.heap.size + 1) (x := w6.heap.size) (X := X) w10 [⟨T3, A3, c3, K3, d3⟩] #[.int .i64 T3.kind, .int .i64 T3.pos, .string T3.text, .bool T3.neg, .slice A3 T3.mag.length c3, .slice K3 T3.kids.length d3] 1 rfl rfl lq17 lq17 lq16 (Old.nn X _) (by
   intro q hq; simp only [List.mem_cons, List.not_mem_nil, or_false] at hq
   rcases hq with rfl <;> assumption)
  generalize hG : w10.alloc (oN T3 A3 c3 K3 d3) = w11 at *
  obtain ⟨hb11, _, hse11⟩ := nb hG; clear hG; obtain ⟨hk11, hs11, hz11⟩ := kd hk10 hb11; have hP11 := hP10.later hb11; have hxR_11 := kb hb11 hxR_10; have hxt_11 := kb hb11 hxt_10; have hxb_11 := kb hb11 hxb_10; have hxo_11 := kb hb11 hxo_10; have hF1_11 := hF1_10.later hb11 (Old.nn X _); have hF2_11 := hF2_10.later hb11 (Old.nn X _); have hF3_11 := hF3_10.later hb11 (Old.nn X _); have hFz_11 := hro.node (k := 2) (p := (hd e l2).pos) (t := ⟨#[]⟩) ⟨by decide, by decide⟩ hpos lq16 false; clear hro; go_wp2_with fail
  go_at_call 54
  refine (node_okA _ _ _ _ _ _ _).mono ?_
  rintro E w12 ⟨rfl, hq⟩; obtain ⟨hk12, hs12, hz12⟩ := kd hk11 hq; have hP12 := hP11.later hq; have hxR_12 := kb hq hxR_11; have hxt_12 := kb hq hxt_11; have hxb_12 := kb hq hxb_11; have hxo_12 := kb hq hxo_11; have hF1_12 := hF1_11.later hq (Old.nn X _); have hF2_12 := hF2_11.later hq (Old.nn X _); have hF3_12 := hF3_11.later hq (Old.nn X _); have hFz_12 := hFz_11.later hq (Old.nn X _); obtain ⟨k0, k1, k2, k3, k4, k5⟩ := bx_cells hxo_12; have z := Lib.frozen_of_heap hxo_12
  go_upto_region 9 with fail
  clear k0 k1 k2 k3 k4 k5 z; have hxo_13 := bx_put hxo_12 (u0 := .int .i64 2) (u1 := .int .i64 ((hd e l2).pos)) (u2 := .string ⟨#[]⟩) (u3 := .bool false) (u4 := .slice none 0 0) (u5 := .slice (some ⟨w10.heap.size, 0, none⟩) 1 1); have hxR_13 := (bx_off (b := w6.heap.size) (u0 := .int .i64 2) (u1 := .int .i64 ((hd e l2).pos)) (u2 := .string ⟨#[]⟩) (u3 := .bool false) (u4 := .slice none 0 0) (u5 := .slice (some ⟨w10.heap.size, 0, none⟩) 1 1) lq17).trans hxR_12
  have hxt_13 := (bx_off (b := w6.heap.size) (u0 := .int .i64 2) (u1 := .int .i64 ((hd e l2).pos)) (u2 := .string ⟨#[]⟩) (u3 := .bool false) (u4 := .slice none 0 0) (u5 := .slice (some ⟨w10.heap.size, 0, none⟩) 1 1) lq17).trans hxt_12; have hxb_13 := (bx_off (b := w6.heap.size) (u0 := .int .i64 2) (u1 := .int .i64 ((hd e l2).pos)) (u2 := .string ⟨#[]⟩) (u3 := .bool false) (u4 := .slice none 0 0) (u5 := .slice (some ⟨w10.heap.size, 0, none⟩) 1 1) lq17).trans hxb_12
  have hF1_13 := hF1_12.put6 (b := w6.heap.size) (u0 := .int .i64 2) (u1 := .int .i64 ((hd e l2).pos)) (u2 := .string ⟨#[]⟩) (u3 := .bool false) (u4 := .slice none 0 0) (u5 := .slice (some ⟨w10.heap.size, 0, none⟩) 1 1) lq17 (fun h => h.elim); have hF2_13 := hF2_12.put6 (b := w6.heap.size) (u0 := .int .i64 2) (u1 := .int .i64 ((hd e l2).pos)) (u2 := .string ⟨#[]⟩) (u3 := .bool false) (u4 := .slice none 0 0) (u5 := .slice (some ⟨w10.heap.size, 0, none⟩) 1 1) lq17 (fun h => h.elim)
  have hF3_13 := hF3_12.put6 (b := w6.heap.size) (u0 := .int .i64 2) (u1 := .int .i64 ((hd e l2).pos)) (u2 := .string ⟨#[]⟩) (u3 := .bool false) (u4 := .slice none 0 0) (u5 := .slice (some ⟨w10.heap.size, 0, none⟩) 1 1) lq17 (fun h => h.elim); have hFz_13 := hFz_12.put6 (b := w6.heap.size) (u0 := .int .i64 2) (u1 := .int .i64 ((hd e l2).pos)) (u2 := .string ⟨#[]⟩) (u3 := .bool false) (u4 := .slice none 0 0) (u5 := .slice (some ⟨w10.heap.size, 0, none⟩) 1 1) lq17 (fun h => h.elim)
  have hk13 := bx_kp hk12 (b := w6.heap.size) (u0 := .int .i64 2) (u1 := .int .i64 ((hd e l2).pos)) (u2 := .string ⟨#[]⟩) (u3 := .bool false) (u4 := .slice none 0 0) (u5 := .slice (some ⟨w10.heap.size, 0, none⟩) 1 1) lq17; have hP13 := hP12.blocks (fun k hk => bx_off (b := w6.heap.size) (u0 := .int .i64 2) (u1 := .int .i64 ((hd e l2).pos)) (u2 := .string ⟨#[]⟩) (u3 := .bool false) (u4 := .slice none 0 0) (u5 := .slice (some ⟨w10.heap.size, 0, none⟩) 1 1) lq17)
  have hs13 : w12.heap.size ≤ ((((((w12.setCell ⟨w6.heap.size, 0, none⟩ (.int .i64 2)).setCell ⟨w6.heap.size, 1, none⟩ (.int .i64 ((hd e l2).pos))).setCell ⟨w6.heap.size, 2, none⟩ (.string ⟨#[]⟩)).setCell ⟨w6.heap.size, 3, none⟩ (.bool false)).setCell ⟨w6.heap.size, 4, none⟩ (.slice none 0 0)).setCell ⟨w6.heap.size, 5, none⟩ (.slice (some ⟨w10.heap.size, 0, none⟩) 1 1)).heap.size := Nat.le_of_eq bx_size.symm
  have hss13 : ((((((w12.setCell ⟨w6.heap.size, 0, none⟩ (.int .i64 2)).setCell ⟨w6.heap.size, 1, none⟩ (.int .i64 ((hd e l2).pos))).setCell ⟨w6.heap.size, 2, none⟩ (.string ⟨#[]⟩)).setCell ⟨w6.heap.size, 3, none⟩ (.bool false)).setCell ⟨w6.heap.size, 4, none⟩ (.slice none 0 0)).setCell ⟨w6.heap.size, 5, none⟩ (.slice (some ⟨w10.heap.size, 0, none⟩) 1 1)).heap.size ≤ w12.heap.size := Nat.le_of_eq bx_size; have hz13 := hk13.size
  generalize ((((((w12.setCell ⟨w6.heap.size, 0, none⟩ (.int .i64 2)).setCell ⟨w6.heap.size, 1, none⟩ (.int .i64 ((hd e l2).pos))).setCell ⟨w6.heap.size, 2, none⟩ (.string ⟨#[]⟩)).setCell ⟨w6.heap.size, 3, none⟩ (.bool false)).setCell ⟨w6.heap.size, 4, none⟩ (.slice none 0 0)).setCell ⟨w6.heap.size, 5, none⟩ (.slice (some ⟨w10.heap.size, 0, none⟩) 1 1)) = w13 at *
  obtain ⟨mt0, mt1, mt2, mt3, mt4, mt5⟩ := bx_cells hxt_13; obtain ⟨mb0, mb1, mb2, mb3, mb4, mb5⟩ := bx_cells hxb_13; obtain ⟨mo0, mo1, mo2, mo3, mo4, mo5⟩ := bx_cells hxo_13; go_wp2_with fail
  have hro := row_made (P := Nn) (lo := w.heap.size + 1) (x := w6.heap.size) (X := X) w13 [⟨T1, A1, c1, K1, d1⟩, ⟨T2, A2, c2, K2, d2⟩, ⟨Nd.mk 2 (hd e l2).pos ⟨#[]⟩ false [] [T3], none, 0, (some ⟨w10.heap.size, 0, none⟩), 1⟩] #[.int .i64 T1.kind, .int .i64 T1.pos, .string T1.text, .bool T1.neg, .slice A1 T1.mag.length c1, .slice K1 T1.kids.length d1, .int .i64 T2.kind, .int .i64 T2.pos, .string T2.text, .bool T2.neg, .slice A2 T2.mag.length c2, .slice K2 T2.kids.length d2, .int .i64 2, .int .i64 ((hd e l2).pos), .string ⟨#[]⟩, .bool false, .slice none 0 0, .slice (some ⟨w10.heap.size, 0, none⟩) 1 1] 3 rfl rfl lq17 lq17 lq16 (Old.nn X _) (by
   intro q hq; simp only [List.mem_cons, List.not_mem_nil, or_false] at hq
   rcases hq with rfl | rfl | rfl <;> assumption)
  generalize hG : w13.alloc (.cells #[.int .i64 T1.kind, .int .i64 T1.pos, .string T1.text, .bool T1.neg, .slice A1 T1.mag.length c1, .slice K1 T1.kids.length d1, .int .i64 T2.kind, .int .i64 T2.pos, .string T2.text, .bool T2.neg, .slice A2 T2.mag.length c2, .slice K2 T2.kids.length d2, .int .i64 2, .int .i64 ((hd e l2).pos), .string ⟨#[]⟩, .bool false, .slice none 0 0, .slice (some ⟨w10.heap.size, 0, none⟩) 1 1] 29) = w14 at *
  obtain ⟨hb14, _, _⟩ := nb hG; clear hG; obtain ⟨hk14, hs14, hz14⟩ := kd hk13 hb14; have hP14 := hP13.later hb14; have hxR_14 := kb hb14 hxR_13; have hxt_14 := kb hb14 hxt_13; have hxb_14 := kb hb14 hxb_13; have hxo_14 := kb hb14 hxo_13; have hF1_14 := hF1_13.later hb14 (Old.nn X _); have hF2_14 := hF2_13.later hb14 (Old.nn X _); have hF3_14 := hF3_13.later hb14 (Old.nn X _); have hFz_14 := hFz_13.later hb14 (Old.nn X _); have hFz_14 := hro.node (k := 15) (p := at_) (t := ⟨#[]⟩) ⟨by decide, by decide⟩ hat lq16 false; clear hro; go_wp2_with fail
  go_at_call 54
  refine (node_okA _ _ _ _ _ _ _).mono ?_
  rintro E w15 ⟨rfl, hq⟩; obtain ⟨hk15, _, _⟩ := kd hk14 hq; have hP15 := hP14.later hq; have hxR_15 := kb hq hxR_14; have hxt_15 := kb hq hxt_14; have hxb_15 := kb hq hxb_14; have hxo_15 := kb hq hxo_14; have hF1_15 := hF1_14.later hq (Old.nn X _); have hF2_15 := hF2_14.later hq (Old.nn X _); have hF3_15 := hF3_14.later hq (Old.nn X _); have hFz_15 := hFz_14.later hq (Old.nn X _); obtain ⟨k0, k1, k2, k3, k4, k5⟩ := bx_cells hxR_15; have z := Lib.frozen_of_heap hxR_15; have HE := Lh (show _ ∧ _ ∧ _ from ⟨hk15, hP15, hFz_15⟩)
  obtain ⟨r0, r1, r2, r3, r4, r5⟩ := bp hxR_15 (.int .i64 15) (.int .i64 at_) (.string ⟨#[]⟩) (.bool false) (.slice none 0 0) (.slice (some ⟨w13.heap.size, 0, none⟩) 3 3); clear hxR_15 hxt_15 hxb_15 hxo_15 hF1_15 hF2_15 hF3_15 hFz_15 hk15 hP15; go_wp2_with fail
  refine bodyPost_ret (v := .agg #[.int .i64 15, .int .i64 at_, .string ⟨#[]⟩, .bool false, .slice none 0 0, .slice (some ⟨w13.heap.size, 0, none⟩) 3 3]) (by simp [results, Tryz.results99, go_sem, r0, r1, r2, r3, r4, r5, ndV]) rfl ?_
  exact lv74
 ·simp only [hv, yF, if_false, yO, yA] at hR; obtain ⟨hk9, hs9, hz9⟩ := kc hk8 hq; have hxR_9 := kx hq hxR_8; have hxt_9 := kx hq hxt_8; have hxb_9 := kx hq hxb_8; have hxo_9 := kx hq hxo_8; have hF1_9 := hF1_8.kp hq (Old.nn X _) lq17; have hF2_9 := hF2_8.kp hq (Old.nn X _) lq17; go_wp2_with fail
  go_at_call 98
  refine (takeW_ok hD hC.w_else hP9).mono ?_
  rintro E w10 hE
  rcases hE with ⟨hv, rfl, hP10, hq⟩ | ⟨hv, rfl, hP10, hq⟩
  ·simp only [hv, if_true, yO, yA] at hR; obtain ⟨hk10, hs10, hz10⟩ := kc hk9 hq; have hxR_10 := kx hq hxR_9; have hxt_10 := kx hq hxt_9; have hxb_10 := kx hq hxb_9; have hxo_10 := kx hq hxo_9; have hF1_10 := hF1_9.kp hq (Old.nn X _) lq17; have hF2_10 := hF2_9.kp hq (Old.nn X _) lq17; have n1 := Rs.ne_of hR hne; go_wp2_with fail
   go_at_call 101
   refine (HA.pblock X _ _ hP10 n1).mono ?_
   rintro E w11 hE
   rcases hE with ⟨cc, aa, hv, rfl, hq⟩ | ⟨T3, l3, A3, c3, K3, d3, hv, rfl, hP11, hF3_11, hq⟩
   ·rw [hv] at hR; go_wp2_with fail; exact ⟨rfl, retBad (hk10.call (Nat.le_refl _) hq) hR.symm⟩
   rw [hv] at hR; simp only [yO, yA] at hR; clear hv n1; have hF3_11 := hF3_11.intoN (P := Nn) (lo := w.heap.size + 1) (x := w6.heap.size) lq17 lq17; obtain ⟨hk11, hs11, hz11⟩ := kc hk10 hq; have hxR_11 := kx hq hxR_10; have hxt_11 := kx hq hxt_10; have hxb_11 := kx hq hxb_10; have hxo_11 := kx hq hxo_10; have hF1_11 := hF1_10.kp hq (Old.nn X _) lq17; have hF2_11 := hF2_10.kp hq (Old.nn X _) lq17; unfold ndV; obtain ⟨k0, k1, k2, k3, k4, k5⟩ := bx_cells hxo_11; have z := Lib.frozen_of_heap hxo_11
   go_upto_region 9 with fail
   clear k0 k1 k2 k3 k4 k5 z; have hxo_12 := bx_put hxo_11 (u0 := .int .i64 T3.kind) (u1 := .int .i64 T3.pos) (u2 := .string T3.text) (u3 := .bool T3.neg) (u4 := .slice A3 T3.mag.length c3) (u5 := .slice K3 T3.kids.length d3); have hxR_12 := (bx_off (b := w6.heap.size) (u0 := .int .i64 T3.kind) (u1 := .int .i64 T3.pos) (u2 := .string T3.text) (u3 := .bool T3.neg) (u4 := .slice A3 T3.mag.length c3) (u5 := .slice K3 T3.kids.length d3) lq17).trans hxR_11
   have hxt_12 := (bx_off (b := w6.heap.size) (u0 := .int .i64 T3.kind) (u1 := .int .i64 T3.pos) (u2 := .string T3.text) (u3 := .bool T3.neg) (u4 := .slice A3 T3.mag.length c3) (u5 := .slice K3 T3.kids.length d3) lq17).trans hxt_11; have hxb_12 := (bx_off (b := w6.heap.size) (u0 := .int .i64 T3.kind) (u1 := .int .i64 T3.pos) (u2 := .string T3.text) (u3 := .bool T3.neg) (u4 := .slice A3 T3.mag.length c3) (u5 := .slice K3 T3.kids.length d3) lq17).trans hxb_11
   have hF1_12 := hF1_11.put6 (b := w6.heap.size) (u0 := .int .i64 T3.kind) (u1 := .int .i64 T3.pos) (u2 := .string T3.text) (u3 := .bool T3.neg) (u4 := .slice A3 T3.mag.length c3) (u5 := .slice K3 T3.kids.length d3) lq17 (fun h => h.elim); have hF2_12 := hF2_11.put6 (b := w6.heap.size) (u0 := .int .i64 T3.kind) (u1 := .int .i64 T3.pos) (u2 := .string T3.text) (u3 := .bool T3.neg) (u4 := .slice A3 T3.mag.length c3) (u5 := .slice K3 T3.kids.length d3) lq17 (fun h => h.elim)
   have hF3_12 := hF3_11.put6 (b := w6.heap.size) (u0 := .int .i64 T3.kind) (u1 := .int .i64 T3.pos) (u2 := .string T3.text) (u3 := .bool T3.neg) (u4 := .slice A3 T3.mag.length c3) (u5 := .slice K3 T3.kids.length d3) lq17 (fun h => h.elim); have hk12 := bx_kp hk11 (b := w6.heap.size) (u0 := .int .i64 T3.kind) (u1 := .int .i64 T3.pos) (u2 := .string T3.text) (u3 := .bool T3.neg) (u4 := .slice A3 T3.mag.length c3) (u5 := .slice K3 T3.kids.length d3) lq17
   have hP12 := hP11.blocks (fun k hk => bx_off (b := w6.heap.size) (u0 := .int .i64 T3.kind) (u1 := .int .i64 T3.pos) (u2 := .string T3.text) (u3 := .bool T3.neg) (u4 := .slice A3 T3.mag.length c3) (u5 := .slice K3 T3.kids.length d3) lq17)
   have hs12 : w11.heap.size ≤ ((((((w11.setCell ⟨w6.heap.size, 0, none⟩ (.int .i64 T3.kind)).setCell ⟨w6.heap.size, 1, none⟩ (.int .i64 T3.pos)).setCell ⟨w6.heap.size, 2, none⟩ (.string T3.text)).setCell ⟨w6.heap.size, 3, none⟩ (.bool T3.neg)).setCell ⟨w6.heap.size, 4, none⟩ (.slice A3 T3.mag.length c3)).setCell ⟨w6.heap.size, 5, none⟩ (.slice K3 T3.kids.length d3)).heap.size := Nat.le_of_eq bx_size.symm
   have hss12 : ((((((w11.setCell ⟨w6.heap.size, 0, none⟩ (.int .i64 T3.kind)).setCell ⟨w6.heap.size, 1, none⟩ (.int .i64 T3.pos)).setCell ⟨w6.heap.size, 2, none⟩ (.string T3.text)).setCell ⟨w6.heap.size, 3, none⟩ (.bool T3.neg)).setCell ⟨w6.heap.size, 4, none⟩ (.slice A3 T3.mag.length c3)).setCell ⟨w6.heap.size, 5, none⟩ (.slice K3 T3.kids.length d3)).heap.size ≤ w11.heap.size := Nat.le_of_eq bx_size; have hz12 := hk12.size
   generalize ((((((w11.setCell ⟨w6.heap.size, 0, none⟩ (.int .i64 T3.kind)).setCell ⟨w6.heap.size, 1, none⟩ (.int .i64 T3.pos)).setCell ⟨w6.heap.size, 2, none⟩ (.string T3.text)).setCell ⟨w6.heap.size, 3, none⟩ (.bool T3.neg)).setCell ⟨w6.heap.size, 4, none⟩ (.slice A3 T3.mag.length c3)).setCell ⟨w6.heap.size, 5, none⟩ (.slice K3 T3.kids.length d3)) = w12 at *
   obtain ⟨mt0, mt1, mt2, mt3, mt4, mt5⟩ := bx_cells hxt_12; obtain ⟨mb0, mb1, mb2, mb3, mb4, mb5⟩ := bx_cells hxb_12; obtain ⟨mo0, mo1, mo2, mo3, mo4, mo5⟩ := bx_cells hxo_12; go_wp2_with fail
   have hro := row_made (P := Nn) (lo := w.heap.size + 1) (x := w6.heap.size) (X := X) w12 [⟨T1, A1, c1, K1, d1⟩, ⟨T2, A2, c2, K2, d2⟩, ⟨T3, A3, c3, K3, d3⟩] #[.int .i64 T1.kind, .int .i64 T1.pos, .string T1.text, .bool T1.neg, .slice A1 T1.mag.length c1, .slice K1 T1.kids.length d1, .int .i64 T2.kind, .int .i64 T2.pos, .string T2.text, .bool T2.neg, .slice A2 T2.mag.length c2, .slice K2 T2.kids.length d2, .int .i64 T3.kind, .int .i64 T3.pos, .string T3.text, .bool T3.neg, .slice A3 T3.mag.length c3, .slice K3 T3.kids.length d3] 3 rfl rfl lq17 lq17 lq16 (Old.nn X _) (by
    intro q hq; simp only [List.mem_cons, List.not_mem_nil, or_false] at hq
    rcases hq with rfl | rfl | rfl <;> assumption)
   generalize hG : w12.alloc (.cells #[.int .i64 T1.kind, .int .i64 T1.pos, .string T1.text, .bool T1.neg, .slice A1 T1.mag.length c1, .slice K1 T1.kids.length d1, .int .i64 T2.kind, .int .i64 T2.pos, .string T2.text, .bool T2.neg, .slice A2 T2.mag.length c2, .slice K2 T2.kids.length d2, .int .i64 T3.kind, .int .i64 T3.pos, .string T3.text, .bool T3.neg, .slice A3 T3.mag.length c3, .slice K3 T3.kids.length d3] 29) = w13 at *
   obtain ⟨hb13, _, _⟩ := nb hG; clear hG; obtain ⟨hk13, hs13, hz13⟩ := kd hk12 hb13; have hP13 := hP12.later hb13; have hxR_13 := kb hb13 hxR_12; have hxt_13 := kb hb13 hxt_12; have hxb_13 := kb hb13 hxb_12; have hxo_13 := kb hb13 hxo_12; have hF1_13 := hF1_12.later hb13 (Old.nn X _); have hF2_13 := hF2_12.later hb13 (Old.nn X _); have hF3_13 := hF3_12.later hb13 (Old.nn X _); have hFz_13 := hro.node (k := 15) (p := at_) (t := ⟨#[]⟩) ⟨by decide, by decide⟩ hat lq16 false; clear hro; go_wp2_with fail
   go_at_call 54
   refine (node_okA _ _ _ _ _ _ _).mono ?_
   rintro E w14 ⟨rfl, hq⟩; obtain ⟨hk14, hs14, hz14⟩ := kd hk13 hq; have hP14 := hP13.later hq; have hxR_14 := kb hq hxR_13; have hxt_14 := kb hq hxt_13; have hxb_14 := kb hq hxb_13; have hxo_14 := kb hq hxo_13; have hF1_14 := hF1_13.later hq (Old.nn X _); have hF2_14 := hF2_13.later hq (Old.nn X _); have hF3_14 := hF3_13.later hq (Old.nn X _); have hFz_14 := hFz_13.later hq (Old.nn X _); obtain ⟨k0, k1, k2, k3, k4, k5⟩ := bx_cells hxR_14; have z := Lib.frozen_of_heap hxR_14; have HE := Lh (show _ ∧ _ ∧ _ from ⟨hk14, hP14, hFz_14⟩)
   obtain ⟨r0, r1, r2, r3, r4, r5⟩ := bp hxR_14 (.int .i64 15) (.int .i64 at_) (.string ⟨#[]⟩) (.bool false) (.slice none 0 0) (.slice (some ⟨w12.heap.size, 0, none⟩) 3 3); clear hxR_14 hxt_14 hxb_14 hxo_14 hF1_14 hF2_14 hF3_14 hFz_14 hk14 hP14; go_wp2_with fail
   refine bodyPost_ret (v := .agg #[.int .i64 15, .int .i64 at_, .string ⟨#[]⟩, .bool false, .slice none 0 0, .slice (some ⟨w12.heap.size, 0, none⟩) 3 3]) (by simp [results, Tryz.results99, go_sem, r0, r1, r2, r3, r4, r5, ndV]) rfl ?_
   exact lv74
  ·simp only [hv, yF, if_false, yO, yA] at hR; obtain ⟨hk10, hs10, hz10⟩ := kc hk9 hq; have hxR_10 := kx hq hxR_9; have hxt_10 := kx hq hxt_9; have hxb_10 := kx hq hxb_9; have hxo_10 := kx hq hxo_9; have hF1_10 := hF1_9.kp hq (Old.nn X _) lq17; have hF2_10 := hF2_9.kp hq (Old.nn X _) lq17; have hFy_10 := (RowS.nil Nn (w.heap.size + 1) (w6.heap.size) w10).node (k := 0) (p := at_) (t := ⟨#[]⟩) ⟨by decide, by decide⟩ hat lq16 false; obtain ⟨mt0, mt1, mt2, mt3, mt4, mt5⟩ := bx_cells hxt_10; obtain ⟨mb0, mb1, mb2, mb3, mb4, mb5⟩ := bx_cells hxb_10
   obtain ⟨mo0, mo1, mo2, mo3, mo4, mo5⟩ := bx_cells hxo_10; go_wp2_with fail
   have hro := row_made (P := Nn) (lo := w.heap.size + 1) (x := w6.heap.size) (X := X) w10 [⟨T1, A1, c1, K1, d1⟩, ⟨T2, A2, c2, K2, d2⟩, ⟨Nd.mk 0 at_ ⟨#[]⟩ false [] [], none, 0, none, 0⟩] #[.int .i64 T1.kind, .int .i64 T1.pos, .string T1.text, .bool T1.neg, .slice A1 T1.mag.length c1, .slice K1 T1.kids.length d1, .int .i64 T2.kind, .int .i64 T2.pos, .string T2.text, .bool T2.neg, .slice A2 T2.mag.length c2, .slice K2 T2.kids.length d2, .int .i64 0, .int .i64 at_, .string ⟨#[]⟩, .bool false, .slice none 0 0, .slice none 0 0] 3 rfl rfl lq17 lq17 lq16 (Old.nn X _) (by
    intro q hq; simp only [List.mem_cons, List.not_mem_nil, or_false] at hq
    rcases hq with rfl | rfl | rfl <;> assumption)
   generalize hG : w10.alloc (.cells #[.int .i64 T1.kind, .int .i64 T1.pos, .string T1.text, .bool T1.neg, .slice A1 T1.mag.length c1, .slice K1 T1.kids.length d1, .int .i64 T2.kind, .int .i64 T2.pos, .string T2.text, .bool T2.neg, .slice A2 T2.mag.length c2, .slice K2 T2.kids.length d2, .int .i64 0, .int .i64 at_, .string ⟨#[]⟩, .bool false, .slice none 0 0, .slice none 0 0] 29) = w11 at *
   obtain ⟨hb11, _, hse11⟩ := nb hG; clear hG; obtain ⟨hk11, hs11, hz11⟩ := kd hk10 hb11; have hP11 := hP10.later hb11; have hxR_11 := kb hb11 hxR_10; have hxt_11 := kb hb11 hxt_10; have hxb_11 := kb hb11 hxb_10; have hxo_11 := kb hb11 hxo_10; have hF1_11 := hF1_10.later hb11 (Old.nn X _); have hF2_11 := hF2_10.later hb11 (Old.nn X _); have hFy_11 := hFy_10.later hb11 (Old.nn X _); have hFz_11 := hro.node (k := 15) (p := at_) (t := ⟨#[]⟩) ⟨by decide, by decide⟩ hat lq16 false; clear hro; go_wp2_with fail
   go_at_call 54
   refine (node_okA _ _ _ _ _ _ _).mono ?_
   rintro E w12 ⟨rfl, hq⟩; obtain ⟨hk12, hs12, hz12⟩ := kd hk11 hq; have hP12 := hP11.later hq; have hxR_12 := kb hq hxR_11; have hxt_12 := kb hq hxt_11; have hxb_12 := kb hq hxb_11; have hxo_12 := kb hq hxo_11; have hF1_12 := hF1_11.later hq (Old.nn X _); have hF2_12 := hF2_11.later hq (Old.nn X _); have hFy_12 := hFy_11.later hq (Old.nn X _); have hFz_12 := hFz_11.later hq (Old.nn X _); obtain ⟨k0, k1, k2, k3, k4, k5⟩ := bx_cells hxR_12; have z := Lib.frozen_of_heap hxR_12; have HE := Lh (show _ ∧ _ ∧ _ from ⟨hk12, hP12, hFz_12⟩)
   obtain ⟨r0, r1, r2, r3, r4, r5⟩ := bp hxR_12 (.int .i64 15) (.int .i64 at_) (.string ⟨#[]⟩) (.bool false) (.slice none 0 0) (.slice (some ⟨w10.heap.size, 0, none⟩) 3 3); clear hxR_12 hxt_12 hxb_12 hxo_12 hF1_12 hF2_12 hFy_12 hFz_12 hk12 hP12; go_wp2_with fail
   refine bodyPost_ret (v := .agg #[.int .i64 15, .int .i64 at_, .string ⟨#[]⟩, .bool false, .slice none 0 0, .slice (some ⟨w10.heap.size, 0, none⟩) 3 3]) (by simp [results, Tryz.results99, go_sem, r0, r1, r2, r3, r4, r5, ndV]) rfl ?_
   exact lv74
end
end
end Go.Proofs.YtjndbcnmmnkilaaGreatDoor
