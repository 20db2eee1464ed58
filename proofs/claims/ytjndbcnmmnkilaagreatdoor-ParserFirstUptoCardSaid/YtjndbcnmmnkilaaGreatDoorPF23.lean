/- Joined by a program: Pe20. -/
import Derived.Test.YtjndbcnmmnkilaaGreatDoorPF16
import Derived.Test.YtjndbcnmmnkilaaGreatDoorPF22
namespace Go.Proofs.YtjndbcnmmnkilaaGreatDoor
set_option linter.unusedVariables false
set_option linter.unusedSimpArgs false
set_option maxRecDepth 1000000
set_option maxHeartbeats 16000000
section
open Go.RowKit
open List (length_append length_cons length_nil length_singleton)
section
variable {wB nB gB : ByteArray → Bool} {nO : ByteArray → Option (List Int)} {e : Int} {p : Ps}
theorem St.kind {P : Nat → Prop} {w : World} {T : Nd} {A K : Option Addr} {c d : Nat} (h : St P w T A c K d) {k : Int} (hk : I64 k) : St P w (.mk k T.pos T.text T.neg T.mag T.kids) A c K d := fun W hW => by
 obtain ⟨h1, h2, h3, h4, h5, h6, h7, h8, h9, h10⟩ := (h W hW).parts
 exact NodeAt.of ⟨h1, h2, h3, h4, h5, h6, hk, h8, h9, h10⟩
theorem bx_put0 {w : World} {b : Nat} {v0 v1 v2 v3 v4 v5 u : Value} {t : TypeId} (h : w.heap[b]? = some (.cells #[v0, v1, v2, v3, v4, v5] t)) : (w.setCell ⟨b, 0, none⟩ u).heap[b]? = some (.cells #[u, v1, v2, v3, v4, v5] t) := by
 simp [World.setCell, Array.getElem?_modify, h]
theorem aug_size {e : Int} {l : List Tok} (h : [⟨#[43, 61]⟩, ⟨#[45, 61]⟩, ⟨#[42, 61]⟩, ⟨#[47, 47, 61]⟩, ⟨#[37, 61]⟩, ⟨#[38, 61]⟩, ⟨#[124, 61]⟩, ⟨#[94, 61]⟩].any (fun s => isS e s l) = true) : 2 ≤ (hd e l).text.size := by
 simp only [List.any_cons, List.any_nil, Bool.or_false, isS, Bool.or_eq_true, Bool.and_eq_true] at h
 rcases h with h | h | h | h | h | h | h | h <;> (rw [eq_of_beqB h.2]; decide)
theorem cut_size (s : ByteArray) : (cutLast s).size ≤ s.size := by
 unfold cutLast
 show (List.toArray _).size ≤ _
 simp
theorem cut_ext (s : ByteArray) : s.extract 0 (s.size - 1) = cutLast s := by
 unfold cutLast
 apply ByteArray.ext
 rw [ByteArray.data_extract]
 apply Array.toList_inj.1
 simp only [Array.toList_extract, List.extract_eq_take_drop, List.drop_zero, Nat.sub_zero]
theorem all_any (ks : List Nd) : ks.all isT = !(ks.any fun t => !isT t) := by simp [List.all_eq_not_any_not]
theorem pAssign_ok (hD : Deps wB nB gB nO) (hC : Cst wB) (HA : PA e p) : CI e 188 (fun at_ l => s_assign e p at_ l) := by
 intro at_ X l w hat hP0 hne
 obtain ⟨R, hR⟩ : ∃ R, s_assign e p at_ l = R := ⟨_, rfl⟩
 simp only [hR] at hne ⊢
 unfold s_assign at hR
 have hXl := hP0.lt
 have hk0 : Kp w.heap.size X w w := Kp.refl _ _ _
 have hz0 := hk0.size
 go_enter Tryz.func188, Tryz.ntmps188
 go_upto_region 1 with fail
 generalize hG : w.alloc zN = w1 at *
 obtain ⟨hb1, hxR_1, _⟩ := nb hG
 clear hG
 obtain ⟨hk1, _, _⟩ := kd hk0 hb1
 have hP1 := hP0.later hb1
 have n1 := Rs.ne_of hR hne
 go_wp2_with fail
 go_at_call 104
 refine (HA.pexprs X _ _ hP1 n1).mono ?_
 rintro E w2 hE
 rcases hE with ⟨cc, aa, hv, rfl, hq⟩ | ⟨T1, l1, A1, c1, K1, d1, hv, rfl, hP2, hF1_2, hq⟩
 ·exact lv61
 rw [hv] at hR
 simp only [yO, yA] at hR
 clear hv n1
 have hF1_2 := hF1_2.intoN (P := Nn) (lo := w.heap.size + 1) (x := X) lq17 lq17
 obtain ⟨hk2, _, _⟩ := kc hk1 hq
 have hxR_2 := kx hq hxR_1
 unfold ndV
 go_upto_region 2 with fail
 have hF1_2 := hF1_2.setx (x' := w2.heap.size) lq17
 generalize hG : w2.alloc (oN T1 A1 c1 K1 d1) = w3 at *
 obtain ⟨hb3, hxn_3, _⟩ := nb hG
 clear hG
 obtain ⟨hk3, _, _⟩ := kd hk2 hb3
 have hP3 := hP2.later hb3
 have hxR_3 := kb hb3 hxR_2
 have hF1_3 := hF1_2.later hb3 (Old.nn X _)
 go_wp2_with fail
 go_at_call 176
 refine (is1S_ok hD hC.s_3d hP3).mono ?_
 rintro E w4 ⟨hE, hP4, hq⟩
 rcases hE with ⟨hv, rfl⟩ | ⟨hv, rfl⟩
 ·simp only [hv, if_true, yO, yA] at hR; obtain ⟨hk4, hs4, hz4⟩ := kc hk3 hq; have hxR_4 := kx hq hxR_3; have hxn_4 := kx hq hxn_3; have hF1_4 := hF1_3.kp hq (Old.nn X _) lq17; have hall := all_any T1.kids; have hform1 := hF1_4.now.parts; obtain ⟨_, _, _, _, hkd1, hkd2, hk64, _, _, hkids⟩ := hform1; have HK := Lh hkids; clear hkids; have hdm := hkd2; unfold maxLen at hdm
  by_cases h35 : T1.kind = 35
  ·have o1 : (T1.kind == 35) = true := by simpa using h35
   by_cases h2 : 2 ≤ T1.kids.length
   ·have o2 : decide ((2 : Int) ≤ (T1.kids.length : Int)) = true := dTo; simp only [h35, decide_true, Bool.true_and, h2, hall] at hR; clear h35; obtain ⟨mn0, mn1, mn2, mn3, mn4, mn5⟩ := bx_cells hxn_4; go_wp2_with fail
    go_at_call 249
    clear mn0 mn1 mn2 mn3 mn4 mn5
    refine (hasN_ok T1.kids _ _ _ _ rfl hkd1 hkd2 HK.out).mono ?_
    rintro E w5 ⟨hE, hq⟩
    rcases ha : T1.kids.any (fun t => !isT t) with _ | _
    ·rw [ha] at hE hR; subst hE; simp only [Bool.not_false, if_true] at hR; clear hall ha; obtain ⟨hk5, hs5, hz5⟩ := kd hk4 hq; have hP5 := hP4.later hq; have hxR_5 := kb hq hxR_4; have hxn_5 := kb hq hxn_4; have hF1_5 := hF1_4.later hq (Old.nn X _); obtain ⟨k0, k1, k2, k3, k4, k5⟩ := bx_cells hxn_5; have z := Lib.frozen_of_heap hxn_5
     go_upto_region 7 with fail
     have hxn_6 := bx_put0 hxn_5 (u := .int .i64 23); have hxR_6 := (bx_off1 (b := w2.heap.size) (i := 0) (u := .int .i64 23) lq17).trans hxR_5; have hF1_6 := hF1_5.put1 (b := w2.heap.size) (i := 0) (u := .int .i64 23) lq17 (fun h => h.elim); have hk6 := hk5.set (w2.heap.size) 0 (.int .i64 23) (.inl lq17); have hP6 := hP5.blocks (fun k hk => bx_off1 (b := w2.heap.size) (i := 0) (u := .int .i64 23) lq17); have hs6 : w5.heap.size ≤ (w5.setCell ⟨w2.heap.size, 0, none⟩ (.int .i64 23)).heap.size := by simp [World.setCell]
     have hz6 := hk6.size; clear k0 k1 k2 k3 k4 k5 z
     generalize w5.setCell ⟨w2.heap.size, 0, none⟩ (.int .i64 23) = w6 at *
     have hFy_6 := hF1_6.kind (k := 23) ⟨by decide, by decide⟩; go_wp2_with fail
     go_at_call 177
     refine (pass_ok hP6).mono ?_
     rintro E w7 ⟨rfl, hP7, hq⟩; obtain ⟨hk7, hs7, hz7⟩ := kc hk6 hq; have hxR_7 := kx hq hxR_6; have hxn_7 := kx hq hxn_6; have hF1_7 := hF1_6.kp hq (Old.nn X _) lq17; have hFy_7 := hFy_6.kp hq (Old.nn X _) lq17; unfold tokA; have n1 := Rs.ne_of hR hne
     go_upto_region 8 with fail
     refine region_anyZ (fun W => W.heap[w2.heap.size]? = some (.cells #[.int .i64 23, .int .i64 T1.pos, .string T1.text, .bool T1.neg, .slice A1 T1.mag.length c1, .slice K1 T1.kids.length d1] 29)) 7 lq15 ?_
     refine zt 0 (.int .i64 5) rfl (Or.inl ⟨by rfl, ?_⟩) hxn_7 ?_
     ·exact lv56
     try simp only [Act.put, xA, xB, xC]
     refine zt 1 (.int .i64 at_) rfl (Or.inl ⟨by rfl, ?_⟩) hxn_7 ?_
     ·exact lv56
     try simp only [Act.put, xA, xB, xC]
     refine zt 2 (.agg #[.int .i64 23, .int .i64 T1.pos, .string T1.text, .bool T1.neg, .slice A1 T1.mag.length c1, .slice K1 T1.kids.length d1]) rfl (Or.inl ⟨by rfl, ?_⟩) hxn_7 ?_
     ·exact lv56
     try simp only [Act.put, xA, xB, xC]
     refine zt 3 (.pointer (some ⟨X, 0, none⟩)) rfl (Or.inl ⟨by rfl, ?_⟩) hxn_7 ?_
     ·exact lv56
     try simp only [Act.put, xA, xB, xC]
     refine zo 4 rfl fun K hK => ?_
     go_simp
     go_at_call 104
     refine (HA.pexprs X _ _ (hP7.later (bl_drew (Below.refl _ _))) n1).mono ?_
     rintro E w8 hE
     rcases hE with ⟨cc, aa, hv, rfl, hq⟩ | ⟨T2, l2, A2, c2, K2, d2, hv, rfl, hP8, hF2_8, hq⟩
     ·exact lv68
     rw [hv] at hR; simp only [yO, yA] at hR; clear hv n1; have hq := kp_undrew hq; have hdr8 : w7.drew.heap.size = w7.heap.size := rfl; have hF2_8 := hF2_8.intoN (P := Nn) (lo := w.heap.size + 1) (x := w2.heap.size) lq17 lq17; obtain ⟨hk8, hs8, hz8⟩ := kc hk7 hq; have hxR_8 := kx hq hxR_7; have hxn_8 := kx hq hxn_7; have hF1_8 := hF1_7.kp hq (Old.nn X _) lq17; have hFy_8 := hFy_7.kp hq (Old.nn X _) lq17; unfold ndV
     refine hK.out _ _ (fun _ => hxn_8) ?_
     clear hK K
     try simp only [Act.put, xA, xB, xC]
     refine zo 5 rfl fun K hK => ?_
     go_simp
     have hro := row_made (P := Nn) (lo := w.heap.size + 1) (x := w2.heap.size) (X := X) w8 [⟨Nd.mk 23 T1.pos T1.text T1.neg T1.mag T1.kids, A1, c1, K1, d1⟩, ⟨T2, A2, c2, K2, d2⟩] #[.int .i64 23, .int .i64 T1.pos, .string T1.text, .bool T1.neg, .slice A1 T1.mag.length c1, .slice K1 T1.kids.length d1, .int .i64 T2.kind, .int .i64 T2.pos, .string T2.text, .bool T2.neg, .slice A2 T2.mag.length c2, .slice K2 T2.kids.length d2] 2 rfl rfl lq17 lq17 lq16 (Old.nn X _) (by
      intro q hq; simp only [List.mem_cons, List.not_mem_nil, or_false] at hq
      rcases hq with rfl | rfl <;> assumption)
     generalize hG : w8.alloc (.cells #[.int .i64 23, .int .i64 T1.pos, .string T1.text, .bool T1.neg, .slice A1 T1.mag.length c1, .slice K1 T1.kids.length d1, .int .i64 T2.kind, .int .i64 T2.pos, .string T2.text, .bool T2.neg, .slice A2 T2.mag.length c2, .slice K2 T2.kids.length d2] 29) = w9 at *
     obtain ⟨hb9, _, hse9⟩ := nb hG; clear hG; obtain ⟨hk9, hs9, hz9⟩ := kd hk8 hb9; have hP9 := hP8.later hb9; have hxR_9 := kb hb9 hxR_8; have hxn_9 := kb hb9 hxn_8; have hF1_9 := hF1_8.later hb9 (Old.nn X _); have hFy_9 := hFy_8.later hb9 (Old.nn X _); have hF2_9 := hF2_8.later hb9 (Old.nn X _)
     refine hK.out _ _ (fun _ => hxn_9) ?_
     clear hK K
     try simp only [Act.put, xA, xB, xC]
     have hFz_9 := hro.node (k := 5) (p := at_) (t := ⟨#[]⟩) ⟨by decide, by decide⟩ hat lq16 false; clear hro
     refine zo 6 rfl fun K hK => ?_
     go_simp
     go_at_call 54
     refine (node_okA _ _ _ _ _ _ _).mono ?_
     rintro E w10 ⟨rfl, hq⟩; obtain ⟨hk10, hs10, hz10⟩ := kd hk9 hq; have hP10 := hP9.later hq; have hxR_10 := kb hq hxR_9; have hxn_10 := kb hq hxn_9; have hF1_10 := hF1_9.later hq (Old.nn X _); have hFy_10 := hFy_9.later hq (Old.nn X _); have hF2_10 := hF2_9.later hq (Old.nn X _); have hFz_10 := hFz_9.later hq (Old.nn X _)
     refine hK.out _ _ (fun _ => hxn_10) ?_
     clear hK K
     try simp only [Act.put, xA, xB, xC]
     obtain ⟨k0, k1, k2, k3, k4, k5⟩ := bx_cells hxR_10; have z := Lib.frozen_of_heap hxR_10
     refine zo 7 rfl fun K hK => ?_
     go_simp
     refine hK.out _ _ (fun h => absurd rfl h) ?_
     clear hK K k0 k1 k2 k3 k4 k5 z
     try simp only [Act.put, xA, xB, xC]
     refine anyZ_end lq15 ?_ _
     have HE := Lh (show _ ∧ _ ∧ _ from ⟨hk10, hP10, hFz_10⟩); obtain ⟨r0, r1, r2, r3, r4, r5⟩ := bp hxR_10 (.int .i64 5) (.int .i64 at_) (.string ⟨#[]⟩) (.bool false) (.slice none 0 0) (.slice (some ⟨w8.heap.size, 0, none⟩) 2 2); clear hxR_10 hxn_10 hF1_10 hFy_10 hF2_10 hFz_10 hk10 hP10; go_wp2_with fail
     refine bodyPost_ret (v := .agg #[.int .i64 5, .int .i64 at_, .string ⟨#[]⟩, .bool false, .slice none 0 0, .slice (some ⟨w8.heap.size, 0, none⟩) 2 2]) lq6 rfl ?_
     exact lv74
    ·rw [ha] at hE hR; subst hE; simp only [Bool.not_true, Bool.false_eq_true, if_false] at hR; clear hall ha; obtain ⟨hk5, hs5, hz5⟩ := kd hk4 hq; have hP5 := hP4.later hq; have hxR_5 := kb hq hxR_4; have hxn_5 := kb hq hxn_4; have hF1_5 := hF1_4.later hq (Old.nn X _); obtain ⟨mn0, mn1, mn2, mn3, mn4, mn5⟩ := bx_cells hxn_5; go_wp2_with fail
     go_at_call 181
     clear mn0 mn1 mn2 mn3 mn4 mn5
     refine (target_ok T1 _ _ _ _ _ hF1_5.now.parts.2.2.2.2.2.2.1).mono ?_
     rintro E w6 ⟨hE, hq⟩
     rcases hE with ⟨hv, rfl⟩ | ⟨hv, rfl⟩
     rotate_left 1
     ·simp only [hv, Bool.false_eq_true, if_false] at hR; go_wp2_with fail; exact ⟨rfl, retBad (hk5.below (Nat.le_refl _) hq) hR.symm⟩
     simp only [hv, if_true] at hR; obtain ⟨hk6, hs6, hz6⟩ := kd hk5 hq; have hP6 := hP5.later hq; have hxR_6 := kb hq hxR_5; have hxn_6 := kb hq hxn_5; have hF1_6 := hF1_5.later hq (Old.nn X _); go_wp2_with fail
     go_at_call 177
     refine (pass_ok hP6).mono ?_
     rintro E w7 ⟨rfl, hP7, hq⟩; obtain ⟨hk7, hs7, hz7⟩ := kc hk6 hq; have hxR_7 := kx hq hxR_6; have hxn_7 := kx hq hxn_6; have hF1_7 := hF1_6.kp hq (Old.nn X _) lq17; unfold tokA; have n1 := Rs.ne_of hR hne
     go_upto_region 8 with fail
     refine region_anyZ (fun W => W.heap[w2.heap.size]? = some (.cells #[.int .i64 T1.kind, .int .i64 T1.pos, .string T1.text, .bool T1.neg, .slice A1 T1.mag.length c1, .slice K1 T1.kids.length d1] 29)) 7 lq15 ?_
     refine zt 0 (.int .i64 4) rfl (Or.inl ⟨by rfl, ?_⟩) hxn_7 ?_
     ·exact lv56
     try simp only [Act.put, xA, xB, xC]
     refine zt 1 (.int .i64 at_) rfl (Or.inl ⟨by rfl, ?_⟩) hxn_7 ?_
     ·exact lv56
     try simp only [Act.put, xA, xB, xC]
     refine zt 2 (.agg #[.int .i64 T1.kind, .int .i64 T1.pos, .string T1.text, .bool T1.neg, .slice A1 T1.mag.length c1, .slice K1 T1.kids.length d1]) rfl (Or.inl ⟨by rfl, ?_⟩) hxn_7 ?_
     ·exact lv56
     try simp only [Act.put, xA, xB, xC]
     refine zt 3 (.pointer (some ⟨X, 0, none⟩)) rfl (Or.inl ⟨by rfl, ?_⟩) hxn_7 ?_
     ·exact lv56
     try simp only [Act.put, xA, xB, xC]
     refine zo 4 rfl fun K hK => ?_
     go_simp
     go_at_call 104
     refine (HA.pexprs X _ _ (hP7.later (bl_drew (Below.refl _ _))) n1).mono ?_
     rintro E w8 hE
     rcases hE with ⟨cc, aa, hv, rfl, hq⟩ | ⟨T2, l2, A2, c2, K2, d2, hv, rfl, hP8, hF2_8, hq⟩
     ·exact lv68
     rw [hv] at hR; simp only [yO, yA] at hR; clear hv n1; have hq := kp_undrew hq; have hdr8 : w7.drew.heap.size = w7.heap.size := rfl; have hF2_8 := hF2_8.intoN (P := Nn) (lo := w.heap.size + 1) (x := w2.heap.size) lq17 lq17; obtain ⟨hk8, hs8, hz8⟩ := kc hk7 hq; have hxR_8 := kx hq hxR_7; have hxn_8 := kx hq hxn_7; have hF1_8 := hF1_7.kp hq (Old.nn X _) lq17; unfold ndV
     refine hK.out _ _ (fun _ => hxn_8) ?_
     clear hK K
     try simp only [Act.put, xA, xB, xC]
     refine zo 5 rfl fun K hK => ?_
     go_simp
     have hro := row_made (P := Nn) (lo := w.heap.size + 1) (x := w2.heap.size) (X := X) w8 [⟨T1, A1, c1, K1, d1⟩, ⟨T2, A2, c2, K2, d2⟩] #[.int .i64 T1.kind, .int .i64 T1.pos, .string T1.text, .bool T1.neg, .slice A1 T1.mag.length c1, .slice K1 T1.kids.length d1, .int .i64 T2.kind, .int .i64 T2.pos, .string T2.text, .bool T2.neg, .slice A2 T2.mag.length c2, .slice K2 T2.kids.length d2] 2 rfl rfl lq17 lq17 lq16 (Old.nn X _) (by
      intro q hq; simp only [List.mem_cons, List.not_mem_nil, or_false] at hq
      rcases hq with rfl | rfl <;> assumption)
     generalize hG : w8.alloc (.cells #[.int .i64 T1.kind, .int .i64 T1.pos, .string T1.text, .bool T1.neg, .slice A1 T1.mag.length c1, .slice K1 T1.kids.length d1, .int .i64 T2.kind, .int .i64 T2.pos, .string T2.text, .bool T2.neg, .slice A2 T2.mag.length c2, .slice K2 T2.kids.length d2] 29) = w9 at *
     obtain ⟨hb9, _, hse9⟩ := nb hG; clear hG; obtain ⟨hk9, hs9, hz9⟩ := kd hk8 hb9; have hP9 := hP8.later hb9; have hxR_9 := kb hb9 hxR_8; have hxn_9 := kb hb9 hxn_8; have hF1_9 := hF1_8.later hb9 (Old.nn X _); have hF2_9 := hF2_8.later hb9 (Old.nn X _)
     refine hK.out _ _ (fun _ => hxn_9) ?_
     clear hK K
     try simp only [Act.put, xA, xB, xC]
     have hFz_9 := hro.node (k := 4) (p := at_) (t := ⟨#[]⟩) ⟨by decide, by decide⟩ hat lq16 false; clear hro
     refine zo 6 rfl fun K hK => ?_
     go_simp
     go_at_call 54
     refine (node_okA _ _ _ _ _ _ _).mono ?_
     rintro E w10 ⟨rfl, hq⟩; obtain ⟨hk10, hs10, hz10⟩ := kd hk9 hq; have hP10 := hP9.later hq; have hxR_10 := kb hq hxR_9; have hxn_10 := kb hq hxn_9; have hF1_10 := hF1_9.later hq (Old.nn X _); have hF2_10 := hF2_9.later hq (Old.nn X _); have hFz_10 := hFz_9.later hq (Old.nn X _)
     refine hK.out _ _ (fun _ => hxn_10) ?_
     clear hK K
     try simp only [Act.put, xA, xB, xC]
     obtain ⟨k0, k1, k2, k3, k4, k5⟩ := bx_cells hxR_10; have z := Lib.frozen_of_heap hxR_10
     refine zo 7 rfl fun K hK => ?_
     go_simp
     refine hK.out _ _ (fun h => absurd rfl h) ?_
     clear hK K k0 k1 k2 k3 k4 k5 z
     try simp only [Act.put, xA, xB, xC]
     refine anyZ_end lq15 ?_ _
     have HE := Lh (show _ ∧ _ ∧ _ from ⟨hk10, hP10, hFz_10⟩); obtain ⟨r0, r1, r2, r3, r4, r5⟩ := bp hxR_10 (.int .i64 4) (.int .i64 at_) (.string ⟨#[]⟩) (.bool false) (.slice none 0 0) (.slice (some ⟨w8.heap.size, 0, none⟩) 2 2); clear hxR_10 hxn_10 hF1_10 hF2_10 hFz_10 hk10 hP10; go_wp2_with fail
     refine bodyPost_ret (v := .agg #[.int .i64 4, .int .i64 at_, .string ⟨#[]⟩, .bool false, .slice none 0 0, .slice (some ⟨w8.heap.size, 0, none⟩) 2 2]) lq6 rfl ?_
     exact lv74
   ·have o2 : decide ((2 : Int) ≤ (T1.kids.length : Int)) = false := dFo; simp only [h35, decide_true, Bool.true_and, h2, decide_false, Bool.false_and, Bool.false_eq_true, if_false] at hR; clear h35 hall; obtain ⟨mn0, mn1, mn2, mn3, mn4, mn5⟩ := bx_cells hxn_4; go_wp2_with fail
    go_at_call 181
    clear mn0 mn1 mn2 mn3 mn4 mn5
    refine (target_ok T1 _ _ _ _ _ hF1_4.now.parts.2.2.2.2.2.2.1).mono ?_
    rintro E w5 ⟨hE, hq⟩
    rcases hE with ⟨hv, rfl⟩ | ⟨hv, rfl⟩
    rotate_left 1
    ·simp only [hv, Bool.false_eq_true, if_false] at hR; go_wp2_with fail; exact ⟨rfl, retBad (hk4.below (Nat.le_refl _) hq) hR.symm⟩
    simp only [hv, if_true] at hR; obtain ⟨hk5, hs5, hz5⟩ := kd hk4 hq; have hP5 := hP4.later hq; have hxR_5 := kb hq hxR_4; have hxn_5 := kb hq hxn_4; have hF1_5 := hF1_4.later hq (Old.nn X _); go_wp2_with fail
    go_at_call 177
    refine (pass_ok hP5).mono ?_
    rintro E w6 ⟨rfl, hP6, hq⟩; obtain ⟨hk6, hs6, hz6⟩ := kc hk5 hq; have hxR_6 := kx hq hxR_5; have hxn_6 := kx hq hxn_5; have hF1_6 := hF1_5.kp hq (Old.nn X _) lq17; unfold tokA; have n1 := Rs.ne_of hR hne
    go_upto_region 8 with fail
    refine region_anyZ (fun W => W.heap[w2.heap.size]? = some (.cells #[.int .i64 T1.kind, .int .i64 T1.pos, .string T1.text, .bool T1.neg, .slice A1 T1.mag.length c1, .slice K1 T1.kids.length d1] 29)) 7 lq15 ?_
    refine zt 0 (.int .i64 4) rfl (Or.inl ⟨by rfl, ?_⟩) hxn_6 ?_
    ·exact lv56
    try simp only [Act.put, xA, xB, xC]
    refine zt 1 (.int .i64 at_) rfl (Or.inl ⟨by rfl, ?_⟩) hxn_6 ?_
    ·exact lv56
    try simp only [Act.put, xA, xB, xC]
    refine zt 2 (.agg #[.int .i64 T1.kind, .int .i64 T1.pos, .string T1.text, .bool T1.neg, .slice A1 T1.mag.length c1, .slice K1 T1.kids.length d1]) rfl (Or.inl ⟨by rfl, ?_⟩) hxn_6 ?_
    ·exact lv56
    try simp only [Act.put, xA, xB, xC]
    refine zt 3 (.pointer (some ⟨X, 0, none⟩)) rfl (Or.inl ⟨by rfl, ?_⟩) hxn_6 ?_
    ·exact lv56
    try simp only [Act.put, xA, xB, xC]
    refine zo 4 rfl fun K hK => ?_
    go_simp
    go_at_call 104
    refine (HA.pexprs X _ _ (hP6.later (bl_drew (Below.refl _ _))) n1).mono ?_
    rintro E w7 hE
    rcases hE with ⟨cc, aa, hv, rfl, hq⟩ | ⟨T2, l2, A2, c2, K2, d2, hv, rfl, hP7, hF2_7, hq⟩
    ·exact lv69
    rw [hv] at hR; simp only [yO, yA] at hR; clear hv n1; have hq := kp_undrew hq; have hdr7 : w6.drew.heap.size = w6.heap.size := rfl; have hF2_7 := hF2_7.intoN (P := Nn) (lo := w.heap.size + 1) (x := w2.heap.size) lq17 lq17; obtain ⟨hk7, hs7, hz7⟩ := kc hk6 hq; have hxR_7 := kx hq hxR_6; have hxn_7 := kx hq hxn_6; have hF1_7 := hF1_6.kp hq (Old.nn X _) lq17; unfold ndV
    refine hK.out _ _ (fun _ => hxn_7) ?_
    clear hK K
    try simp only [Act.put, xA, xB, xC]
    refine zo 5 rfl fun K hK => ?_
    go_simp
    have hro := row_made (P := Nn) (lo := w.heap.size + 1) (x := w2.heap.size) (X := X) w7 [⟨T1, A1, c1, K1, d1⟩, ⟨T2, A2, c2, K2, d2⟩] #[.int .i64 T1.kind, .int .i64 T1.pos, .string T1.text, .bool T1.neg, .slice A1 T1.mag.length c1, .slice K1 T1.kids.length d1, .int .i64 T2.kind, .int .i64 T2.pos, .string T2.text, .bool T2.neg, .slice A2 T2.mag.length c2, .slice K2 T2.kids.length d2] 2 rfl rfl lq17 lq17 lq16 (Old.nn X _) (by
     intro q hq; simp only [List.mem_cons, List.not_mem_nil, or_false] at hq
     rcases hq with rfl | rfl <;> assumption)
    generalize hG : w7.alloc (.cells #[.int .i64 T1.kind, .int .i64 T1.pos, .string T1.text, .bool T1.neg, .slice A1 T1.mag.length c1, .slice K1 T1.kids.length d1, .int .i64 T2.kind, .int .i64 T2.pos, .string T2.text, .bool T2.neg, .slice A2 T2.mag.length c2, .slice K2 T2.kids.length d2] 29) = w8 at *
    obtain ⟨hb8, _, hse8⟩ := nb hG; clear hG; obtain ⟨hk8, hs8, hz8⟩ := kd hk7 hb8; have hP8 := hP7.later hb8; have hxR_8 := kb hb8 hxR_7; have hxn_8 := kb hb8 hxn_7; have hF1_8 := hF1_7.later hb8 (Old.nn X _); have hF2_8 := hF2_7.later hb8 (Old.nn X _)
    refine hK.out _ _ (fun _ => hxn_8) ?_
    clear hK K
    try simp only [Act.put, xA, xB, xC]
    have hFz_8 := hro.node (k := 4) (p := at_) (t := ⟨#[]⟩) ⟨by decide, by decide⟩ hat lq16 false; clear hro
    refine zo 6 rfl fun K hK => ?_
    go_simp
    go_at_call 54
    refine (node_okA _ _ _ _ _ _ _).mono ?_
    rintro E w9 ⟨rfl, hq⟩; obtain ⟨hk9, hs9, hz9⟩ := kd hk8 hq; have hP9 := hP8.later hq; have hxR_9 := kb hq hxR_8; have hxn_9 := kb hq hxn_8; have hF1_9 := hF1_8.later hq (Old.nn X _); have hF2_9 := hF2_8.later hq (Old.nn X _); have hFz_9 := hFz_8.later hq (Old.nn X _)
    refine hK.out _ _ (fun _ => hxn_9) ?_
    clear hK K
    try simp only [Act.put, xA, xB, xC]
    obtain ⟨k0, k1, k2, k3, k4, k5⟩ := bx_cells hxR_9; have z := Lib.frozen_of_heap hxR_9
    refine zo 7 rfl fun K hK => ?_
    go_simp
    refine hK.out _ _ (fun h => absurd rfl h) ?_
    clear hK K k0 k1 k2 k3 k4 k5 z
    try simp only [Act.put, xA, xB, xC]
    exact lv18
  ·have o1 : (T1.kind == 35) = false := by simpa using h35
   simp only [h35, decide_false, Bool.false_and, Bool.false_eq_true, if_false] at hR; clear h35 hall; obtain ⟨mn0, mn1, mn2, mn3, mn4, mn5⟩ := bx_cells hxn_4; go_wp2_with fail
   go_at_call 181
   clear mn0 mn1 mn2 mn3 mn4 mn5
   refine (target_ok T1 _ _ _ _ _ hF1_4.now.parts.2.2.2.2.2.2.1).mono ?_
   rintro E w5 ⟨hE, hq⟩
   rcases hE with ⟨hv, rfl⟩ | ⟨hv, rfl⟩
   rotate_left 1
   ·simp only [hv, Bool.false_eq_true, if_false] at hR; go_wp2_with fail; exact ⟨rfl, retBad (hk4.below (Nat.le_refl _) hq) hR.symm⟩
   simp only [hv, if_true] at hR; obtain ⟨hk5, hs5, hz5⟩ := kd hk4 hq; have hP5 := hP4.later hq; have hxR_5 := kb hq hxR_4; have hxn_5 := kb hq hxn_4; have hF1_5 := hF1_4.later hq (Old.nn X _); go_wp2_with fail
   go_at_call 177
   refine (pass_ok hP5).mono ?_
   rintro E w6 ⟨rfl, hP6, hq⟩; obtain ⟨hk6, hs6, hz6⟩ := kc hk5 hq; have hxR_6 := kx hq hxR_5; have hxn_6 := kx hq hxn_5; have hF1_6 := hF1_5.kp hq (Old.nn X _) lq17; unfold tokA; have n1 := Rs.ne_of hR hne
   go_upto_region 8 with fail
   refine region_anyZ (fun W => W.heap[w2.heap.size]? = some (.cells #[.int .i64 T1.kind, .int .i64 T1.pos, .string T1.text, .bool T1.neg, .slice A1 T1.mag.length c1, .slice K1 T1.kids.length d1] 29)) 7 lq15 ?_
   refine zt 0 (.int .i64 4) rfl (Or.inl ⟨by rfl, ?_⟩) hxn_6 ?_
   ·exact lv56
   try simp only [Act.put, xA, xB, xC]
   refine zt 1 (.int .i64 at_) rfl (Or.inl ⟨by rfl, ?_⟩) hxn_6 ?_
   ·exact lv56
   try simp only [Act.put, xA, xB, xC]
   refine zt 2 (.agg #[.int .i64 T1.kind, .int .i64 T1.pos, .string T1.text, .bool T1.neg, .slice A1 T1.mag.length c1, .slice K1 T1.kids.length d1]) rfl (Or.inl ⟨by rfl, ?_⟩) hxn_6 ?_
   ·exact lv56
   try simp only [Act.put, xA, xB, xC]
   refine zt 3 (.pointer (some ⟨X, 0, none⟩)) rfl (Or.inl ⟨by rfl, ?_⟩) hxn_6 ?_
   ·exact lv56
   try simp only [Act.put, xA, xB, xC]
   refine zo 4 rfl fun K hK => ?_
   go_simp
   go_at_call 104
   refine (HA.pexprs X _ _ (hP6.later (bl_drew (Below.refl _ _))) n1).mono ?_
   rintro E w7 hE
   rcases hE with ⟨cc, aa, hv, rfl, hq⟩ | ⟨T2, l2, A2, c2, K2, d2, hv, rfl, hP7, hF2_7, hq⟩
   ·exact lv69
   rw [hv] at hR; simp only [yO, yA] at hR; clear hv n1; have hq := kp_undrew hq; have hdr7 : w6.drew.heap.size = w6.heap.size := rfl; have hF2_7 := hF2_7.intoN (P := Nn) (lo := w.heap.size + 1) (x := w2.heap.size) lq17 lq17; obtain ⟨hk7, hs7, hz7⟩ := kc hk6 hq; have hxR_7 := kx hq hxR_6; have hxn_7 := kx hq hxn_6; have hF1_7 := hF1_6.kp hq (Old.nn X _) lq17; unfold ndV
   refine hK.out _ _ (fun _ => hxn_7) ?_
   clear hK K
   try simp only [Act.put, xA, xB, xC]
   refine zo 5 rfl fun K hK => ?_
   go_simp
   have hro := row_made (P := Nn) (lo := w.heap.size + 1) (x := w2.heap.size) (X := X) w7 [⟨T1, A1, c1, K1, d1⟩, ⟨T2, A2, c2, K2, d2⟩] #[.int .i64 T1.kind, .int .i64 T1.pos, .string T1.text, .bool T1.neg, .slice A1 T1.mag.length c1, .slice K1 T1.kids.length d1, .int .i64 T2.kind, .int .i64 T2.pos, .string T2.text, .bool T2.neg, .slice A2 T2.mag.length c2, .slice K2 T2.kids.length d2] 2 rfl rfl lq17 lq17 lq16 (Old.nn X _) (by
    intro q hq; simp only [List.mem_cons, List.not_mem_nil, or_false] at hq
    rcases hq with rfl | rfl <;> assumption)
   generalize hG : w7.alloc (.cells #[.int .i64 T1.kind, .int .i64 T1.pos, .string T1.text, .bool T1.neg, .slice A1 T1.mag.length c1, .slice K1 T1.kids.length d1, .int .i64 T2.kind, .int .i64 T2.pos, .string T2.text, .bool T2.neg, .slice A2 T2.mag.length c2, .slice K2 T2.kids.length d2] 29) = w8 at *
   obtain ⟨hb8, _, hse8⟩ := nb hG; clear hG; obtain ⟨hk8, hs8, hz8⟩ := kd hk7 hb8; have hP8 := hP7.later hb8; have hxR_8 := kb hb8 hxR_7; have hxn_8 := kb hb8 hxn_7; have hF1_8 := hF1_7.later hb8 (Old.nn X _); have hF2_8 := hF2_7.later hb8 (Old.nn X _)
   refine hK.out _ _ (fun _ => hxn_8) ?_
   clear hK K
   try simp only [Act.put, xA, xB, xC]
   have hFz_8 := hro.node (k := 4) (p := at_) (t := ⟨#[]⟩) ⟨by decide, by decide⟩ hat lq16 false; clear hro
   refine zo 6 rfl fun K hK => ?_
   go_simp
   go_at_call 54
   refine (node_okA _ _ _ _ _ _ _).mono ?_
   rintro E w9 ⟨rfl, hq⟩; obtain ⟨hk9, hs9, hz9⟩ := kd hk8 hq; have hP9 := hP8.later hq; have hxR_9 := kb hq hxR_8; have hxn_9 := kb hq hxn_8; have hF1_9 := hF1_8.later hq (Old.nn X _); have hF2_9 := hF2_8.later hq (Old.nn X _); have hFz_9 := hFz_8.later hq (Old.nn X _)
   refine hK.out _ _ (fun _ => hxn_9) ?_
   clear hK K
   try simp only [Act.put, xA, xB, xC]
   obtain ⟨k0, k1, k2, k3, k4, k5⟩ := bx_cells hxR_9; have z := Lib.frozen_of_heap hxR_9
   refine zo 7 rfl fun K hK => ?_
   go_simp
   refine hK.out _ _ (fun h => absurd rfl h) ?_
   clear hK K k0 k1 k2 k3 k4 k5 z
   try simp only [Act.put, xA, xB, xC]
   exact lv18
 ·simp only [hv, yF, if_false, yO, yA] at hR; obtain ⟨hk4, hs4, hz4⟩ := kc hk3 hq; have hxR_4 := kx hq hxR_3; have hxn_4 := kx hq hxn_3; have hF1_4 := hF1_3.kp hq (Old.nn X _) lq17
  have hb : [⟨#[43, 61]⟩, ⟨#[45, 61]⟩, ⟨#[42, 61]⟩, ⟨#[47, 47, 61]⟩, ⟨#[37, 61]⟩, ⟨#[38, 61]⟩, ⟨#[124, 61]⟩, ⟨#[94, 61]⟩].any (sameB wB (hd e l1)) = [⟨#[43, 61]⟩, ⟨#[45, 61]⟩, ⟨#[42, 61]⟩, ⟨#[47, 47, 61]⟩, ⟨#[37, 61]⟩, ⟨#[38, 61]⟩, ⟨#[124, 61]⟩, ⟨#[94, 61]⟩].any (fun s => isS e s l1) := by simp [sameS hC.s_2b3d, sameS hC.s_2d3d, sameS hC.s_2a3d, sameS hC.s_2f2f3d, sameS hC.s_253d, sameS hC.s_263d, sameS hC.s_7c3d, sameS hC.s_5e3d]
  obtain ⟨b, hbb⟩ : ∃ b, [⟨#[43, 61]⟩, ⟨#[45, 61]⟩, ⟨#[42, 61]⟩, ⟨#[47, 47, 61]⟩, ⟨#[37, 61]⟩, ⟨#[38, 61]⟩, ⟨#[124, 61]⟩, ⟨#[94, 61]⟩].any (fun s => isS e s l1) = b := ⟨_, rfl⟩; have HBB := Lh hbb; rw [hbb] at hb hR; have hI := Lh (isL_ok hD hP4 [⟨#[43, 61]⟩, ⟨#[45, 61]⟩, ⟨#[42, 61]⟩, ⟨#[47, 47, 61]⟩, ⟨#[37, 61]⟩, ⟨#[38, 61]⟩, ⟨#[124, 61]⟩, ⟨#[94, 61]⟩] #[.string ⟨#[43, 61]⟩, .string ⟨#[45, 61]⟩, .string ⟨#[42, 61]⟩, .string ⟨#[47, 47, 61]⟩, .string ⟨#[37, 61]⟩, .string ⟨#[38, 61]⟩, .string ⟨#[124, 61]⟩, .string ⟨#[94, 61]⟩] 8 b rfl rfl lq16 hb); clear hb hbb; go_wp2_with fail
  go_at_call 176
  refine hI.out.mono ?_
  rintro E w5 ⟨hE, hP5, hq⟩; clear hI
  rcases hE with ⟨rfl, rfl⟩ | ⟨rfl, rfl⟩
  ·simp only [if_true] at hR; obtain ⟨hk5, hs5, hz5⟩ := kc hk4 hq; have hxR_5 := kx hq hxR_4; have hxn_5 := kx hq hxn_4; have hF1_5 := hF1_4.kp hq (Old.nn X _) lq17; obtain ⟨mn0, mn1, mn2, mn3, mn4, mn5⟩ := bx_cells hxn_5; go_wp2_with fail
   go_at_call 181
   clear mn0 mn1 mn2 mn3 mn4 mn5
   refine (target_ok T1 _ _ _ _ _ hF1_5.now.parts.2.2.2.2.2.2.1).mono ?_
   rintro E w6 ⟨hE, hq⟩
   rcases hE with ⟨hv, rfl⟩ | ⟨hv, rfl⟩
   rotate_left 1
   ·simp only [hv, Bool.false_eq_true, if_false] at hR; go_wp2_with fail; exact ⟨rfl, retBad (hk5.below (Nat.le_refl _) hq) hR.symm⟩
   simp only [hv, if_true] at hR; obtain ⟨hk6, hs6, hz6⟩ := kd hk5 hq; have hP6 := hP5.later hq; have hxR_6 := kb hq hxR_5; have hxn_6 := kb hq hxn_5; have hF1_6 := hF1_5.later hq (Old.nn X _); have htk := hP6.hd.2.2; go_wp2_with fail
   go_at_call 177
   refine (pass_ok hP6).mono ?_
   rintro E w7 ⟨rfl, hP7, hq⟩; obtain ⟨hk7, hs7, hz7⟩ := kc hk6 hq; have hxR_7 := kx hq hxR_6; have hxn_7 := kx hq hxn_6; have hF1_7 := hF1_6.kp hq (Old.nn X _) lq17; have F1_7 := tfield1 (hd e l1).kind (hd e l1).text (hd e l1).pos; unfold tokA
   go_upto_region 12 with fail
   have hsz := aug_size HBB.out; clear HBB
   generalize (hd e l1).text = tx at *
   have hcs : (cutLast tx).size ≤ maxLen := by have := cut_size tx; unfold maxLen; omega
   have n1 := Rs.ne_of hR hne
   refine region_anyZ (fun W => W.heap[w2.heap.size]? = some (.cells #[.int .i64 T1.kind, .int .i64 T1.pos, .string T1.text, .bool T1.neg, .slice A1 T1.mag.length c1, .slice K1 T1.kids.length d1] 29)) 11 lq15 ?_
   have hwr : IntKind.i64.wrap ((tx.size : Int) - 1) = (tx.size : Int) - 1 := IntWalk.i64_in _ lq17; have hcx := cut_ext tx; have hc1 : (1 : Int) ≤ (tx.size : Int) := by omega
   have hc2 : (tx.size : Int) - 1 ≤ (tx.size : Int) := by omega
   refine zt 0 (.int .i64 at_) rfl (Or.inl ⟨by rfl, ?_⟩) hxn_7 ?_
   ·exact lv56
   try simp only [Act.put, xA, xB, xC]
   refine zt 1 (.string tx) rfl (Or.inl ⟨by rfl, ?_⟩) hxn_7 ?_
   ·exact lv56
   try simp only [Act.put, xA, xB, xC]
   refine zt 2 (.string tx) rfl (Or.inl ⟨by rfl, ?_⟩) hxn_7 ?_
   ·exact lv56
   try simp only [Act.put, xA, xB, xC]
   refine zt 3 (.int .i64 (tx.size : Int)) rfl (Or.inl ⟨by rfl, ?_⟩) hxn_7 ?_
   ·exact lv56
   try simp only [Act.put, xA, xB, xC]
   refine zt 4 (.int .i64 ((tx.size : Int) - 1)) rfl (Or.inl ⟨by rfl, ?_⟩) hxn_7 ?_
   ·exact lv56
   try simp only [Act.put, xA, xB, xC]
   refine zt 5 (.string (cutLast tx)) rfl (Or.inl ⟨by rfl, ?_⟩) hxn_7 ?_
   ·exact lv56
   try simp only [Act.put, xA, xB, xC]
   clear hwr hcx hc1 hc2
   refine zt 6 (.agg #[.int .i64 T1.kind, .int .i64 T1.pos, .string T1.text, .bool T1.neg, .slice A1 T1.mag.length c1, .slice K1 T1.kids.length d1]) rfl (Or.inl ⟨by rfl, ?_⟩) hxn_7 ?_
   ·exact lv56
   try simp only [Act.put, xA, xB, xC]
   refine zt 7 (.pointer (some ⟨X, 0, none⟩)) rfl (Or.inl ⟨by rfl, ?_⟩) hxn_7 ?_
   ·exact lv56
   try simp only [Act.put, xA, xB, xC]
   refine zo 8 rfl fun K hK => ?_
   go_simp
   go_at_call 104
   refine (HA.pexprs X _ _ (hP7.later (bl_drew (Below.refl _ _))) n1).mono ?_
   rintro E w8 hE
   rcases hE with ⟨cc, aa, hv, rfl, hq⟩ | ⟨T2, l2, A2, c2, K2, d2, hv, rfl, hP8, hF2_8, hq⟩
   ·exact lv68
   rw [hv] at hR; simp only [yO, yA] at hR; clear hv n1; have hq := kp_undrew hq; have hdr8 : w7.drew.heap.size = w7.heap.size := rfl; have hF2_8 := hF2_8.intoN (P := Nn) (lo := w.heap.size + 1) (x := w2.heap.size) lq17 lq17; obtain ⟨hk8, hs8, hz8⟩ := kc hk7 hq; have hxR_8 := kx hq hxR_7; have hxn_8 := kx hq hxn_7; have hF1_8 := hF1_7.kp hq (Old.nn X _) lq17; unfold ndV
   refine hK.out _ _ (fun _ => hxn_8) ?_
   clear hK K
   try simp only [Act.put, xA, xB, xC]
   refine zo 9 rfl fun K hK => ?_
   go_simp
   have hro := row_made (P := Nn) (lo := w.heap.size + 1) (x := w2.heap.size) (X := X) w8 [⟨T1, A1, c1, K1, d1⟩, ⟨T2, A2, c2, K2, d2⟩] #[.int .i64 T1.kind, .int .i64 T1.pos, .string T1.text, .bool T1.neg, .slice A1 T1.mag.length c1, .slice K1 T1.kids.length d1, .int .i64 T2.kind, .int .i64 T2.pos, .string T2.text, .bool T2.neg, .slice A2 T2.mag.length c2, .slice K2 T2.kids.length d2] 2 rfl rfl lq17 lq17 lq16 (Old.nn X _) (by
    intro q hq; simp only [List.mem_cons, List.not_mem_nil, or_false] at hq
    rcases hq with rfl | rfl <;> assumption)
   generalize hG : w8.alloc (.cells #[.int .i64 T1.kind, .int .i64 T1.pos, .string T1.text, .bool T1.neg, .slice A1 T1.mag.length c1, .slice K1 T1.kids.length d1, .int .i64 T2.kind, .int .i64 T2.pos, .string T2.text, .bool T2.neg, .slice A2 T2.mag.length c2, .slice K2 T2.kids.length d2] 29) = w9 at *
   obtain ⟨hb9, _, hse9⟩ := nb hG; clear hG; obtain ⟨hk9, hs9, hz9⟩ := kd hk8 hb9; have hP9 := hP8.later hb9; have hxR_9 := kb hb9 hxR_8; have hxn_9 := kb hb9 hxn_8; have hF1_9 := hF1_8.later hb9 (Old.nn X _); have hF2_9 := hF2_8.later hb9 (Old.nn X _)
   refine hK.out _ _ (fun _ => hxn_9) ?_
   clear hK K
   try simp only [Act.put, xA, xB, xC]
   have hFz_9 := hro.node (k := 6) (p := at_) (t := (cutLast tx)) ⟨by decide, by decide⟩ hat hcs false; clear hro
   refine zo 10 rfl fun K hK => ?_
   go_simp
   go_at_call 54
   refine (node_okA _ _ _ _ _ _ _).mono ?_
   rintro E w10 ⟨rfl, hq⟩; obtain ⟨hk10, hs10, hz10⟩ := kd hk9 hq; have hP10 := hP9.later hq; have hxR_10 := kb hq hxR_9; have hxn_10 := kb hq hxn_9; have hF1_10 := hF1_9.later hq (Old.nn X _); have hF2_10 := hF2_9.later hq (Old.nn X _); have hFz_10 := hFz_9.later hq (Old.nn X _)
   refine hK.out _ _ (fun _ => hxn_10) ?_
   clear hK K
   try simp only [Act.put, xA, xB, xC]
   obtain ⟨k0, k1, k2, k3, k4, k5⟩ := bx_cells hxR_10; have z := Lib.frozen_of_heap hxR_10
   refine zo 11 rfl fun K hK => ?_
   go_simp
   refine hK.out _ _ (fun h => absurd rfl h) ?_
   clear hK K k0 k1 k2 k3 k4 k5 z
   try simp only [Act.put, xA, xB, xC]
   refine anyZ_end lq15 ?_ _
   have HE := Lh (show _ ∧ _ ∧ _ from ⟨hk10, hP10, hFz_10⟩); obtain ⟨r0, r1, r2, r3, r4, r5⟩ := bp hxR_10 (.int .i64 6) (.int .i64 at_) (.string (cutLast tx)) (.bool false) (.slice none 0 0) (.slice (some ⟨w8.heap.size, 0, none⟩) 2 2); clear hxR_10 hxn_10 hF1_10 hF2_10 hFz_10 hk10 hP10; go_wp2_with fail
   refine bodyPost_ret (v := .agg #[.int .i64 6, .int .i64 at_, .string (cutLast tx), .bool false, .slice none 0 0, .slice (some ⟨w8.heap.size, 0, none⟩) 2 2]) lq6 rfl ?_
   exact lv74
  ·simp only [Bool.false_eq_true, if_false] at hR; obtain ⟨hk5, hs5, hz5⟩ := kc hk4 hq; have hxR_5 := kx hq hxR_4; have hxn_5 := kx hq hxn_4; have hF1_5 := hF1_4.kp hq (Old.nn X _) lq17; obtain ⟨mn0, mn1, mn2, mn3, mn4, mn5⟩ := bx_cells hxn_5; go_wp2_with fail
   have hro := row_made (P := Nn) (lo := w.heap.size + 1) (x := w2.heap.size) (X := X) w5 [⟨T1, A1, c1, K1, d1⟩] #[.int .i64 T1.kind, .int .i64 T1.pos, .string T1.text, .bool T1.neg, .slice A1 T1.mag.length c1, .slice K1 T1.kids.length d1] 1 rfl rfl lq17 lq17 lq16 (Old.nn X _) (by
    intro q hq; simp only [List.mem_cons, List.not_mem_nil, or_false] at hq
    rcases hq with rfl <;> assumption)
   generalize hG : w5.alloc (oN T1 A1 c1 K1 d1) = w6 at *
   obtain ⟨hb6, _, _⟩ := nb hG; clear hG; obtain ⟨hk6, hs6, hz6⟩ := kd hk5 hb6; have hP6 := hP5.later hb6; have hxR_6 := kb hb6 hxR_5; have hxn_6 := kb hb6 hxn_5; have hF1_6 := hF1_5.later hb6 (Old.nn X _); have hFz_6 := hro.node (k := 3) (p := at_) (t := ⟨#[]⟩) ⟨by decide, by decide⟩ hat lq16 false; clear hro; go_wp2_with fail
   go_at_call 54
   refine (node_okA _ _ _ _ _ _ _).mono ?_
   rintro E w7 ⟨rfl, hq⟩; obtain ⟨hk7, hs7, hz7⟩ := kd hk6 hq; have hP7 := hP6.later hq; have hxR_7 := kb hq hxR_6; have hxn_7 := kb hq hxn_6; have hF1_7 := hF1_6.later hq (Old.nn X _); have hFz_7 := hFz_6.later hq (Old.nn X _); obtain ⟨k0, k1, k2, k3, k4, k5⟩ := bx_cells hxR_7; have z := Lib.frozen_of_heap hxR_7; have HE := Lh (show _ ∧ _ ∧ _ from ⟨hk7, hP7, hFz_7⟩); obtain ⟨r0, r1, r2, r3, r4, r5⟩ := bp hxR_7 (.int .i64 3) (.int .i64 at_) (.string ⟨#[]⟩) (.bool false) (.slice none 0 0) (.slice (some ⟨w5.heap.size, 0, none⟩) 1 1); clear hxR_7 hxn_7 hF1_7 hFz_7 hk7 hP7; go_wp2_with fail
   refine bodyPost_ret (v := .agg #[.int .i64 3, .int .i64 at_, .string ⟨#[]⟩, .bool false, .slice none 0 0, .slice (some ⟨w5.heap.size, 0, none⟩) 1 1]) lq6 rfl ?_
   exact lv74
end
end
end Go.Proofs.YtjndbcnmmnkilaaGreatDoor
