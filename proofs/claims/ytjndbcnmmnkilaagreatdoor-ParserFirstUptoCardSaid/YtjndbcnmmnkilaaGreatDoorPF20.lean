/- Joined by a program: Pe13, Pe14. -/
import Derived.Test.YtjndbcnmmnkilaaGreatDoorPF09
namespace Go.Proofs.YtjndbcnmmnkilaaGreatDoor
set_option linter.unusedVariables false
set_option linter.unusedSimpArgs false
set_option maxRecDepth 1000000
set_option maxHeartbeats 16000000
section
open Go.RowKit
open List (length_append length_cons length_nil length_singleton)
section
variable {wB nB gB : ByteArray → Bool} {nO : ByteArray → Option (List Int)} {e : Int} {p : Ps}
theorem pDef_ok (hD : Deps wB nB gB nO) (hC : Cst wB) (HA : PA e p) (hpar : ∀ l ks r, p.qparams false [] l = .ok ks r → l.length ≤ 1000000 → ks.length ≤ 1000000000) : CI e 105 (fun at_ l => defQ nB e p at_ l) := by
 intro at_ X l w hat hP0 hne
 obtain ⟨R, hR⟩ : ∃ R, defQ nB e p at_ l = R := ⟨_, rfl⟩
 simp only [hR] at hne ⊢
 unfold defQ at hR
 have htk := hP0.hd.2.2
 have hts : (hd e l).text.size ≤ maxLen := by unfold maxLen; omega
 have hXl := hP0.lt
 have hk0 : Kp w.heap.size X w w := Kp.refl _ _ _
 have hz0 := hk0.size
 go_enter Tryz.func105, Tryz.ntmps105
 go_upto_region 1 with fail
 generalize hG : w.alloc zN = w1 at *
 obtain ⟨hb1, hxR_1, _⟩ := nb hG
 clear hG
 obtain ⟨hk1, _, _⟩ := kd hk0 hb1
 have hP1 := hP0.later hb1
 go_wp2_with fail
 go_at_call 184
 refine (name_ok hD hP1).mono ?_
 rintro E w2 hE
 rcases hE with ⟨hv, rfl, hP2, hq⟩ | ⟨hv, rfl, hq⟩
 rotate_left 1
 ·rw [hv] at hR; simp only [Rs.bind_bad] at hR; go_wp2_with fail; exact ⟨rfl, retBad (hk1.call (Nat.le_refl _) hq) hR.symm⟩
 rw [hv] at hR
 simp only [yO, yA] at hR
 clear hv
 obtain ⟨hk2, _, _⟩ := kc hk1 hq
 have hxR_2 := kx hq hxR_1
 have F1_2 := tfield1 (hd e l).kind (hd e l).text (hd e l).pos
 unfold tokA
 have hFz_2 := (RowS.nil Nn (w.heap.size + 1) X w2).node (k := 18) (p := at_) (t := (hd e l).text) ⟨by decide, by decide⟩ hat hts false
 go_wp2_with fail
 go_at_call 54
 refine (node_okA _ _ _ _ _ _ _).mono ?_
 rintro E w3 ⟨rfl, hq⟩
 obtain ⟨hk3, _, _⟩ := kd hk2 hq
 have hP3 := hP2.later hq
 have hxR_3 := kb hq hxR_2
 have hFz_3 := hFz_2.later hq (Old.nn X _)
 go_upto_region 2 with fail
 generalize hG : w3.alloc (.cells #[.int .i64 18, .int .i64 at_, .string ((hd e l).text), .bool false, .slice none 0 0, .slice none 0 0] 29) = w4 at *
 obtain ⟨hb4, hxn_4, _⟩ := nb hG
 clear hG
 obtain ⟨hk4, _, _⟩ := kd hk3 hb4
 have hP4 := hP3.later hb4
 have hxR_4 := kb hb4 hxR_3
 go_wp2_with fail
 go_at_call 103
 refine (needS_ok hD hC.s_28 hP4).mono ?_
 rintro E w5 hE
 rcases hE with ⟨hv, rfl, hP5, hq⟩ | ⟨hv, rfl, hq⟩
 rotate_left 1
 ·have hn : needS e ⟨#[40]⟩ _ = .bad 106 _ := if_neg (by rw [hv]; decide); rw [hn, Rs.bind_bad] at hR; go_wp2_with fail; exact ⟨rfl, retBad (hk4.call (Nat.le_refl _) hq) hR.symm⟩
 have hn : needS e ⟨#[40]⟩ _ = .ok () _ := if_pos hv
 rw [hn] at hR
 simp only [yO, yA] at hR
 clear hn
 obtain ⟨hk5, _, _⟩ := kc hk4 hq
 have hxR_5 := kx hq hxR_4
 have hxn_5 := kx hq hxn_4
 go_wp2_with fail
 go_at_call 176
 refine (is1S_ok hD hC.s_29 hP5).mono ?_
 rintro E w6 ⟨hE, hP6, hq⟩
 rcases hE with ⟨hv, rfl⟩ | ⟨hv, rfl⟩
 ·simp only [hv, if_true, yO, yA] at hR; obtain ⟨hk6, hs6, hz6⟩ := kc hk5 hq; have hxR_6 := kx hq hxR_5; have hxn_6 := kx hq hxn_5; have hRr_6 := RowS.nil Nn (w4.heap.size) X w6; have hkb : ([] : List Nd).length ≤ 1000000000 := Nat.zero_le _; go_wp2_with fail
  go_at_call 103
  refine (needS_ok hD hC.s_29 hP6).mono ?_
  rintro E w7 hE
  rcases hE with ⟨hv, rfl, hP7, hq⟩ | ⟨hv, rfl, hq⟩
  rotate_left 1
  ·have hn : needS e ⟨#[41]⟩ _ = .bad 106 _ := if_neg (by rw [hv]; decide); rw [hn, Rs.bind_bad] at hR; go_wp2_with fail; exact ⟨rfl, retBad (hk6.call (Nat.le_refl _) hq) hR.symm⟩
  have hn : needS e ⟨#[41]⟩ _ = .ok () _ := if_pos hv; rw [hn] at hR; simp only [yO, yA] at hR; clear hn; obtain ⟨hk7, hs7, hz7⟩ := kc hk6 hq; have hxR_7 := kx hq hxR_6; have hxn_7 := kx hq hxn_6; have hRr_7 := hRr_6.kp hq (Old.nn X _) lq17; have n1 := Rs.ne_of hR hne; have hfm := hRr_7.form
  go_upto_region 6 with fail
  refine region_anyZ (fun W => W.heap[w3.heap.size]? = some (.cells #[.int .i64 18, .int .i64 at_, .string ((hd e l).text), .bool false, .slice none 0 0, .slice none 0 0] 29)) 7 lq15 ?_
  refine zt 0 (.pointer (some ⟨w3.heap.size, 5, none⟩)) rfl (Or.inl ⟨by rfl, ?_⟩) hxn_7 ?_
  ·exact lv56
  try simp only [Act.put, xA, xB, xC]
  refine zt 1 (.slice none 0 0) rfl (Or.inl ⟨by rfl, ?_⟩) hxn_7 ?_
  ·exact lv56
  try simp only [Act.put, xA, xB, xC]
  refine zt 2 (.pointer (some ⟨X, 0, none⟩)) rfl (Or.inl ⟨by rfl, ?_⟩) hxn_7 ?_
  ·exact lv56
  try simp only [Act.put, xA, xB, xC]
  have hlt := hRr_7.lt
  refine zo 3 rfl fun K hK => ?_
  go_simp
  go_at_call 101
  refine (HA.pblock X _ _ (hP7.later (bl_drew (Below.refl _ _))) n1).mono ?_
  rintro E w8 hE
  rcases hE with ⟨cc, aa, hv, rfl, hq⟩ | ⟨T2, l2, A2, c2, K2, d2, hv, rfl, hP8, hF1, hq⟩
  ·exact lv68
  rw [hv] at hR; simp only [yO, yA] at hR; clear hv n1; have hq := kp_undrew hq; have hdr8 : w7.drew.heap.size = w7.heap.size := rfl; have hA := hF1.away (P := Nn) (lo := w4.heap.size) (x := X) (own := (Value.slice none (([] : List Nd)).length 0).ownBlock) (fun _ h => h.elim) lq17 lq17 (fun g e => (hlt g e).2); clear hF1 hlt; obtain ⟨hk8, hs8, hz8⟩ := kc hk7 hq; have hxR_8 := kx hq hxR_7; have hxn_8 := kx hq hxn_7; have hRr_8 := hRr_7.kp hq (Old.nn X _) lq17; unfold ndV
  refine hK.out _ _ (fun _ => hxn_8) ?_
  clear hK K
  try simp only [Act.put, xA, xB, xC]
  refine zo 4 rfl fun K hK => ?_
  go_simp
  have hb9 := (Below.refl w8.heap.size w8).alloc (Nat.le_refl _) (.cells #[.int .i64 T2.kind, .int .i64 T2.pos, .string T2.text, .bool T2.neg, .slice A2 T2.mag.length c2, .slice K2 T2.kids.length d2] 29); have hbq := heap_alloc_new w8 (.cells #[.int .i64 T2.kind, .int .i64 T2.pos, .string T2.text, .bool T2.neg, .slice A2 T2.mag.length c2, .slice K2 T2.kids.length d2] 29); have hse9 : w8.heap.size + 1 ≤ (w8.alloc (.cells #[.int .i64 T2.kind, .int .i64 T2.pos, .string T2.text, .bool T2.neg, .slice A2 T2.mag.length c2, .slice K2 T2.kids.length d2] 29)).heap.size := by simp
  have hA := hA.laterA hb9 (Old.nn X _)
  generalize w8.alloc (oN T2 A2 c2 K2 d2) = w9 at *
  obtain ⟨hk9, hs9, hz9⟩ := kd hk8 hb9; have hP9 := hP8.later hb9; have hxR_9 := kb hb9 hxR_8; have hxn_9 := kb hb9 hxn_8; have hRr_9 := hRr_8.later hb9 (Old.nn X _)
  refine hK.out _ _ (fun _ => hxn_9) ?_
  clear hK K
  try simp only [Act.put, xA, xB, xC]
  refine zo 5 rfl fun K hK => ?_
  refine step_append_row rfl _ _ rfl hRr_9 rfl hA w8.heap.size rfl hbq hkb lq17 lq17 (Old.nn X _) ?_
  intro g10 cap10 w10 hRn hq hgl hgr; have hk10 := hk9.trans ((Kp.of_below hq X).mono lq17); have hs10 := hq.size; have hz10 := hk10.size; have hP10 := hP9.blocks (fun k hk => hq.5 k lq17); have hxR_10 := kb hq hxR_9; have hxn_10 := kb hq hxn_9; have hRr_10 := hRn; clear hRn hA hbq hgr hxR_9 hxn_9 hRr_9 hP9
  refine hK.out _ _ (fun _ => hxn_10) ?_
  clear hK K
  try simp only [Act.put, xA, xB, xC]
  refine zt 6 (.pointer (some ⟨w3.heap.size, 5, none⟩)) rfl (Or.inl ⟨by rfl, ?_⟩) hxn_10 ?_
  ·exact lv56
  try simp only [Act.put, xA, xB, xC]
  obtain ⟨k0, k1, k2, k3, k4, k5⟩ := bx_cells hxn_10; have z := Lib.frozen_of_heap hxn_10
  refine zo 7 rfl fun K hK => ?_
  go_simp
  refine hK.out _ _ (fun h => absurd rfl h) ?_
  clear hK K k0 k1 k2 k3 k4 k5 z
  try simp only [Act.put, xA, xB, xC]
  refine anyZ_end lq15 ?_ _
  have hxn_11 := bx_put5 hxn_10 (u := .slice (some ⟨g10, 0, none⟩) 1 cap10); have hxR_11 := (bx_off1 (b := w3.heap.size) (i := 5) (u := .slice (some ⟨g10, 0, none⟩) 1 cap10) lq17).trans hxR_10; have hRr_11 := hRr_10.put1 (b := w3.heap.size) (i := 5) (u := .slice (some ⟨g10, 0, none⟩) 1 cap10) lq17 (fun h => h.elim); have hk11 := hk10.set (w3.heap.size) 5 (.slice (some ⟨g10, 0, none⟩) 1 cap10) (.inl lq17); have hP11 := hP10.blocks (fun k hk => bx_off1 (b := w3.heap.size) (i := 5) (u := .slice (some ⟨g10, 0, none⟩) 1 cap10) lq17)
  have hs11 : w10.heap.size ≤ (w10.setCell ⟨w3.heap.size, 5, none⟩ (.slice (some ⟨g10, 0, none⟩) 1 cap10)).heap.size := by simp [World.setCell]
  have hz11 := hk11.size
  generalize w10.setCell ⟨w3.heap.size, 5, none⟩ (.slice (some ⟨g10, 0, none⟩) 1 cap10) = w11 at *
  have hFz_11 := hRr_11.node (k := 18) (p := at_) (t := (hd e l).text) ⟨by decide, by decide⟩ hat hts false; have HE := Lh (show _ ∧ _ ∧ _ from ⟨hk11, hP11, hFz_11⟩); obtain ⟨k0, k1, k2, k3, k4, k5⟩ := bx_cells hxR_11; have z := Lib.frozen_of_heap hxR_11; obtain ⟨mn0, mn1, mn2, mn3, mn4, mn5⟩ := bx_cells hxn_11; obtain ⟨r0, r1, r2, r3, r4, r5⟩ := bp hxR_11 (.int .i64 18) (.int .i64 at_) (.string ((hd e l).text)) (.bool false) (.slice none 0 0) (.slice (some ⟨g10, 0, none⟩) 1 cap10); clear hxR_11 hxn_11 hFz_11 hRr_11 hk11 hP11; go_wp2_with fail
  refine bodyPost_ret (v := .agg #[.int .i64 18, .int .i64 at_, .string ((hd e l).text), .bool false, .slice none 0 0, .slice (some ⟨g10, 0, none⟩) 1 cap10]) (by simp [results, Tryz.results105, go_sem, r0, r1, r2, r3, r4, r5, ndV]) rfl ?_
  exact lv74
 ·simp only [hv, yF, if_false, yO, yA] at hR; obtain ⟨hk6, hs6, hz6⟩ := kc hk5 hq; have hxR_6 := kx hq hxR_5; have hxn_6 := kx hq hxn_5; have hlnP := hP6.ln; have n1 := Rs.ne_of hR hne; go_wp2_with fail
  go_at_call 185
  refine (HA.pparams X _ _ hP6 n1).mono ?_
  rintro E w7 hE
  rcases hE with ⟨cc, aa, hv, rfl, hq⟩ | ⟨ksr, lr, Ar, cr, hv, rfl, hP7, hRr_7, hq⟩
  ·exact lv65
  rw [hv] at hR; simp only [yO, yA] at hR; have hpl := Lh hv; clear hv n1; have hRr_7 := hRr_7.into (P := Nn) (lo := w4.heap.size) (x := X) (fun k q => q.elim) lq17 lq17; obtain ⟨hk7, hs7, hz7⟩ := kc hk6 hq; have hxR_7 := kx hq hxR_6; have hxn_7 := kx hq hxn_6; obtain ⟨k0, k1, k2, k3, k4, k5⟩ := bx_cells hxn_7; have z := Lib.frozen_of_heap hxn_7
  go_upto_region 5 with fail
  clear k0 k1 k2 k3 k4 k5 z; have hxn_8 := bx_put5 hxn_7 (u := .slice Ar ksr.length cr); have hxR_8 := (bx_off1 (b := w3.heap.size) (i := 5) (u := .slice Ar ksr.length cr) lq17).trans hxR_7; have hRr_8 := hRr_7.put1 (b := w3.heap.size) (i := 5) (u := .slice Ar ksr.length cr) lq17 (fun h => h.elim); have hk8 := hk7.set (w3.heap.size) 5 (.slice Ar ksr.length cr) (.inl lq17); have hP8 := hP7.blocks (fun k hk => bx_off1 (b := w3.heap.size) (i := 5) (u := .slice Ar ksr.length cr) lq17)
  have hs8 : w7.heap.size ≤ (w7.setCell ⟨w3.heap.size, 5, none⟩ (.slice Ar ksr.length cr)).heap.size := by simp [World.setCell]
  have hss8 : (w7.setCell ⟨w3.heap.size, 5, none⟩ (.slice Ar ksr.length cr)).heap.size ≤ w7.heap.size := by simp [World.setCell]
  have hz8 := hk8.size
  generalize w7.setCell ⟨w3.heap.size, 5, none⟩ (.slice Ar ksr.length cr) = w8 at *
  have hkb : ksr.length ≤ 1000000000 := hpar _ _ _ hpl.out hlnP; go_wp2_with fail
  go_at_call 103
  refine (needS_ok hD hC.s_29 hP8).mono ?_
  rintro E w9 hE
  rcases hE with ⟨hv, rfl, hP9, hq⟩ | ⟨hv, rfl, hq⟩
  rotate_left 1
  ·have hn : needS e ⟨#[41]⟩ _ = .bad 106 _ := if_neg (by rw [hv]; decide); rw [hn, Rs.bind_bad] at hR; go_wp2_with fail; exact ⟨rfl, retBad (hk8.call (Nat.le_refl _) hq) hR.symm⟩
  have hn : needS e ⟨#[41]⟩ _ = .ok () _ := if_pos hv; rw [hn] at hR; simp only [yO, yA] at hR; clear hn; obtain ⟨hk9, hs9, hz9⟩ := kc hk8 hq; have hxR_9 := kx hq hxR_8; have hxn_9 := kx hq hxn_8; have hRr_9 := hRr_8.kp hq (Old.nn X _) lq17; have n1 := Rs.ne_of hR hne; have hfm := hRr_9.form
  go_upto_region 6 with fail
  refine region_anyZ (fun W => W.heap[w3.heap.size]? = some (.cells #[.int .i64 18, .int .i64 at_, .string ((hd e l).text), .bool false, .slice none 0 0, .slice Ar ksr.length cr] 29)) 7 lq15 ?_
  refine zt 0 (.pointer (some ⟨w3.heap.size, 5, none⟩)) rfl (Or.inl ⟨by rfl, ?_⟩) hxn_9 ?_
  ·exact lv56
  try simp only [Act.put, xA, xB, xC]
  refine zt 1 (.slice Ar ksr.length cr) rfl (Or.inl ⟨by rfl, ?_⟩) hxn_9 ?_
  ·exact lv56
  try simp only [Act.put, xA, xB, xC]
  refine zt 2 (.pointer (some ⟨X, 0, none⟩)) rfl (Or.inl ⟨by rfl, ?_⟩) hxn_9 ?_
  ·exact lv56
  try simp only [Act.put, xA, xB, xC]
  have hlt := hRr_9.lt
  refine zo 3 rfl fun K hK => ?_
  go_simp
  go_at_call 101
  refine (HA.pblock X _ _ (hP9.later (bl_drew (Below.refl _ _))) n1).mono ?_
  rintro E w10 hE
  rcases hE with ⟨cc, aa, hv, rfl, hq⟩ | ⟨T2, l2, A2, c2, K2, d2, hv, rfl, hP10, hF1, hq⟩
  ·rw [hv] at hR; exact ⟨rfl, retBad (hk9.call (Nat.le_refl _) (kp_undrew hq)) hR.symm⟩
  rw [hv] at hR; simp only [yO, yA] at hR; clear hv n1; have hq := kp_undrew hq; have hdr10 : w9.drew.heap.size = w9.heap.size := rfl; have hA := hF1.away (P := Nn) (lo := w4.heap.size) (x := X) (own := (Value.slice Ar ksr.length cr).ownBlock) (fun _ h => h.elim) lq17 lq17 (fun g e => (hlt g e).2); clear hF1 hlt; obtain ⟨hk10, hs10, hz10⟩ := kc hk9 hq; have hxR_10 := kx hq hxR_9; have hxn_10 := kx hq hxn_9; have hRr_10 := hRr_9.kp hq (Old.nn X _) lq17; unfold ndV
  refine hK.out _ _ (fun _ => hxn_10) ?_
  clear hK K
  try simp only [Act.put, xA, xB, xC]
  refine zo 4 rfl fun K hK => ?_
  go_simp
  have hb11 := (Below.refl w10.heap.size w10).alloc (Nat.le_refl _) (.cells #[.int .i64 T2.kind, .int .i64 T2.pos, .string T2.text, .bool T2.neg, .slice A2 T2.mag.length c2, .slice K2 T2.kids.length d2] 29); have hbq := heap_alloc_new w10 (.cells #[.int .i64 T2.kind, .int .i64 T2.pos, .string T2.text, .bool T2.neg, .slice A2 T2.mag.length c2, .slice K2 T2.kids.length d2] 29); have hse11 : w10.heap.size + 1 ≤ (w10.alloc (.cells #[.int .i64 T2.kind, .int .i64 T2.pos, .string T2.text, .bool T2.neg, .slice A2 T2.mag.length c2, .slice K2 T2.kids.length d2] 29)).heap.size := by simp
  have hA := hA.laterA hb11 (Old.nn X _)
  generalize w10.alloc (oN T2 A2 c2 K2 d2) = w11 at *
  obtain ⟨hk11, hs11, hz11⟩ := kd hk10 hb11; have hP11 := hP10.later hb11; have hxR_11 := kb hb11 hxR_10; have hxn_11 := kb hb11 hxn_10; have hRr_11 := hRr_10.later hb11 (Old.nn X _)
  refine hK.out _ _ (fun _ => hxn_11) ?_
  clear hK K
  try simp only [Act.put, xA, xB, xC]
  refine zo 5 rfl fun K hK => ?_
  refine step_append_row rfl _ _ rfl hRr_11 rfl hA w10.heap.size rfl hbq hkb lq17 lq17 (Old.nn X _) ?_
  intro g12 cap12 w12 hRn hq hgl hgr; have hk12 := hk11.trans ((Kp.of_below hq X).mono lq17); have hs12 := hq.size; have hz12 := hk12.size; have hP12 := hP11.blocks (fun k hk => hq.5 k lq17); have hxR_12 := kb hq hxR_11; have hxn_12 := kb hq hxn_11; have hRr_12 := hRn; clear hRn hA hbq hgr hxR_11 hxn_11 hRr_11 hP11
  refine hK.out _ _ (fun _ => hxn_12) ?_
  clear hK K
  try simp only [Act.put, xA, xB, xC]
  refine zt 6 (.pointer (some ⟨w3.heap.size, 5, none⟩)) rfl (Or.inl ⟨by rfl, ?_⟩) hxn_12 ?_
  ·exact lv56
  try simp only [Act.put, xA, xB, xC]
  obtain ⟨k0, k1, k2, k3, k4, k5⟩ := bx_cells hxn_12; have z := Lib.frozen_of_heap hxn_12
  refine zo 7 rfl fun K hK => ?_
  go_simp
  refine hK.out _ _ (fun h => absurd rfl h) ?_
  clear hK K k0 k1 k2 k3 k4 k5 z
  try simp only [Act.put, xA, xB, xC]
  refine anyZ_end lq15 ?_ _
  have hxn_13 := bx_put5 hxn_12 (u := .slice (some ⟨g12, 0, none⟩) (ksr.length + 1) cap12); have hxR_13 := (bx_off1 (b := w3.heap.size) (i := 5) (u := .slice (some ⟨g12, 0, none⟩) (ksr.length + 1) cap12) lq17).trans hxR_12; have hRr_13 := hRr_12.put1 (b := w3.heap.size) (i := 5) (u := .slice (some ⟨g12, 0, none⟩) (ksr.length + 1) cap12) lq17 (fun h => h.elim); have hk13 := hk12.set (w3.heap.size) 5 (.slice (some ⟨g12, 0, none⟩) (ksr.length + 1) cap12) (.inl lq17)
  have hP13 := hP12.blocks (fun k hk => bx_off1 (b := w3.heap.size) (i := 5) (u := .slice (some ⟨g12, 0, none⟩) (ksr.length + 1) cap12) lq17); have hs13 : w12.heap.size ≤ (w12.setCell ⟨w3.heap.size, 5, none⟩ (.slice (some ⟨g12, 0, none⟩) (ksr.length + 1) cap12)).heap.size := by simp [World.setCell]
  have hz13 := hk13.size
  generalize w12.setCell ⟨w3.heap.size, 5, none⟩ (.slice (some ⟨g12, 0, none⟩) (ksr.length + 1) cap12) = w13 at *
  have hFz_13 := hRr_13.node (k := 18) (p := at_) (t := (hd e l).text) ⟨by decide, by decide⟩ hat hts false; have HE := Lh (show _ ∧ _ ∧ _ from ⟨hk13, hP13, hFz_13⟩); obtain ⟨k0, k1, k2, k3, k4, k5⟩ := bx_cells hxR_13; have z := Lib.frozen_of_heap hxR_13; obtain ⟨mn0, mn1, mn2, mn3, mn4, mn5⟩ := bx_cells hxn_13; obtain ⟨r0, r1, r2, r3, r4, r5⟩ := bp hxR_13 (.int .i64 18) (.int .i64 at_) (.string ((hd e l).text)) (.bool false) (.slice none 0 0) (.slice (some ⟨g12, 0, none⟩) (ksr.length + 1) cap12); clear hxR_13 hxn_13 hFz_13 hRr_13 hk13 hP13; go_wp2_with fail
  refine bodyPost_ret (v := .agg #[.int .i64 18, .int .i64 at_, .string ((hd e l).text), .bool false, .slice none 0 0, .slice (some ⟨g12, 0, none⟩) (ksr.length + 1) cap12]) (by simp [results, Tryz.results105, go_sem, r0, r1, r2, r3, r4, r5, ndV]) rfl ?_
  rw [show ksr.length + 1 = (ksr ++ [T2]).length by simp]; exact lv74
end
section
variable {wB nB gB : ByteArray → Bool} {nO : ByteArray → Option (List Int)} {e : Int} 
theorem pNames_ok (hD : Deps wB nB gB nO) (hC : Cst wB) (D : Nat) : ∀ (kind at_ : Int) (X : Nat) (l : List Tok) (w : World), I64 kind → I64 at_ → Pz e w X l → (Pp nB gB nO e D).qnames [] l ≠ .oof → Calls Tryz.prog 187 #[.pointer (some ⟨X, 0, none⟩), .int .i64 kind, .int .i64 at_] w (RetK e X Nn w (fun ks => Nd.mk kind at_ ⟨#[]⟩ false [] ks) ((Pp nB gB nO e D).qnames [] l)) := by
 intro kind at_ X l w hki hat hP0 hne
 obtain ⟨R, hR⟩ : ∃ R, (Pp nB gB nO e D).qnames [] l = R := ⟨_, rfl⟩
 rw [hR] at hne ⊢
 have hln := hP0.ln
 have hXl := hP0.lt
 have hk0 : Kp w.heap.size X w w := Kp.refl _ _ _
 have hz0 := hk0.size
 go_enter Tryz.func187, Tryz.ntmps187
 go_upto_region 1 with fail
 generalize hG : w.alloc zN = w1 at *
 obtain ⟨hb1, hxR_1, _⟩ := nb hG
 clear hG
 obtain ⟨hk1, _, _⟩ := kd hk0 hb1
 have hP1 := hP0.later hb1
 have hFz_1 := (RowS.nil Nn (w.heap.size + 1) X w1).node (k := kind) (p := at_) (t := ⟨#[]⟩) hki hat lq16 false
 go_wp2_with fail
 go_at_call 54
 refine (node_okA _ _ _ _ _ _ _).mono ?_
 rintro E w2 ⟨rfl, hq⟩
 obtain ⟨hk2, _, _⟩ := kd hk1 hq
 have hP2 := hP1.later hq
 have hxR_2 := kb hq hxR_1
 have hFz_2 := hFz_1.later hq (Old.nn X _)
 go_upto_region 2 with fail
 generalize hG : w2.alloc (.cells #[.int .i64 kind, .int .i64 at_, .string (⟨#[]⟩), .bool false, .slice none 0 0, .slice none 0 0] 29) = w3 at *
 obtain ⟨hb3, hxn_3, _⟩ := nb hG
 clear hG
 obtain ⟨hk3, _, _⟩ := kd hk2 hb3
 have hP3 := hP2.later hb3
 have hxR_3 := kb hb3 hxR_2
 go_loopg [] D (fun k wr => ∃ (ks : List Nd) (l' : List Tok) (A : Option Addr) (c : Nat), Hid (Pz e wr X l' ∧ wr.heap[w2.heap.size]? = some (.cells #[.int .i64 kind, .int .i64 at_, .string ⟨#[]⟩, .bool false, .slice none 0 0, .slice A ks.length c] 29) ∧ wr.heap[w.heap.size]? = some (.cells #[.int .i64 0, .int .i64 0, .string ⟨#[]⟩, .bool false, .slice none 0 0, .slice none 0 0] 29) ∧ RowS Nn w3.heap.size X wr A c ks ∧ Kp w.heap.size X w wr ∧ (Pp nB gB nO e k).qnames ks l' = R ∧ ks.length + l'.length ≤ 1000001 ∧ k ≤ D ∧ w3.heap.size ≤ wr.heap.size))
 case atStart => exact ⟨[], l, none, 0, Lh ⟨hP3, hxn_3, hxR_3, RowS.nil _ _ _ _, hk3, hR, by simp only [length_nil]; omega, Nat.le_refl _, Nat.le_refl _⟩⟩
 case round =>
  obtain ⟨ks, l0, A0, c0, hH⟩ := hrel; obtain ⟨hP20, hxn_20, hxR_20, hR0_20, hk20, hRk, hN, hgk, hlor⟩ := hH.out; clear hH hP3 hxn_3 hxR_3 hk3 hR
  cases gk with
  | zero => exact absurd hRk.symm hne
  | succ gk =>
   have hR : s_names nB e (Pp nB gB nO e gk) ks l0 = R := hRk; clear hRk; unfold s_names at hR; have hz20 := hk20.size; have htk := hP20.hd; have hts : (hd e l0).text.size ≤ maxLen := by have := htk.2.2; unfold maxLen; omega
   go_wp2_with fail
   go_at_call 184
   refine (name_ok hD hP20).mono ?_
   rintro E w21 hE
   rcases hE with ⟨hv, rfl, hP21, hq⟩ | ⟨hv, rfl, hq⟩
   rotate_left 1
   ·rw [hv] at hR; go_wp2_with fail; exact ⟨rfl, retBadK (hk20.call (Nat.le_refl _) hq) hR.symm⟩
   have hle := Lf.tokN (e := e) (nameB := nB) (l := l0) _ _ hv; rw [hv] at hR; simp only [yO, yA] at hR; clear hv; obtain ⟨hk21, _, _⟩ := kc hk20 hq; have hxR_21 := kx hq hxR_20; have hxn_21 := kx hq hxn_20; have hR0_21 := hR0_20.kp hq (Old.nn X _) lq17; unfold tokA; have hltE0 : ∀ g, (Value.slice A0 ks.length c0).ownBlock = some g → g < w21.heap.size := fun g e => (hR0_21.lt g e).2
   go_upto_region 3 with fail
   generalize hG : w21.alloc (.cells #[.int .i64 (hd e l0).kind, .string (hd e l0).text, .int .i64 (hd e l0).pos] 39) = w22 at *
   obtain ⟨hb22, hxk_22, _⟩ := nb hG; clear hG; obtain ⟨hk22, _, _⟩ := kd hk21 hb22; have hP22 := hP21.later hb22; have hxR_22 := kb hb22 hxR_21; have hxn_22 := kb hb22 hxn_21; have hR0_22 := hR0_21.later hb22 (Old.nn X _); have hltE := hltE0
   go_upto_region 3 with fail
   refine region_anyZ (fun W => W.heap[w2.heap.size]? = some (.cells #[.int .i64 kind, .int .i64 at_, .string ⟨#[]⟩, .bool false, .slice none 0 0, .slice A0 ks.length c0] 29) ∧ W.heap[w21.heap.size]? = some (.cells #[.int .i64 (hd e l0).kind, .string (hd e l0).text, .int .i64 (hd e l0).pos] 39)) 10 lq15 ?_
   refine zt 0 (.pointer (some ⟨w2.heap.size, 5, none⟩)) rfl (Or.inl ⟨by rfl, ?_⟩) ⟨hxn_22, hxk_22⟩ ?_
   ·exact lv45
   try simp only [Act.put, xA, xB, xC]
   refine zt 1 (.slice A0 ks.length c0) rfl (Or.inl ⟨by rfl, ?_⟩) ⟨hxn_22, hxk_22⟩ ?_
   ·exact lv45
   try simp only [Act.put, xA, xB, xC]
   refine zt 2 (.pointer (some ⟨w21.heap.size, 2, none⟩)) rfl (Or.inl ⟨by rfl, ?_⟩) ⟨hxn_22, hxk_22⟩ ?_
   ·exact lv45
   try simp only [Act.put, xA, xB, xC]
   refine zt 3 (.int .i64 (hd e l0).pos) rfl (Or.inl ⟨by rfl, ?_⟩) ⟨hxn_22, hxk_22⟩ ?_
   ·exact lv45
   try simp only [Act.put, xA, xB, xC]
   refine zt 4 (.pointer (some ⟨w21.heap.size, 1, none⟩)) rfl (Or.inl ⟨by rfl, ?_⟩) ⟨hxn_22, hxk_22⟩ ?_
   ·exact lv45
   try simp only [Act.put, xA, xB, xC]
   refine zt 5 (.string (hd e l0).text) rfl (Or.inl ⟨by rfl, ?_⟩) ⟨hxn_22, hxk_22⟩ ?_
   ·exact lv45
   try simp only [Act.put, xA, xB, xC]
   refine zo 6 rfl fun K hK => ?_
   go_simp
   go_at_call 54
   refine (node_okA _ _ _ _ _ _ _).mono ?_
   rintro E w23 ⟨rfl, hq⟩; have hq := below_undrew hq; have hdr23 : w22.drew.heap.size = w22.heap.size := rfl; obtain ⟨hk23, _, _⟩ := kd hk22 hq; have hP23 := hP22.later hq; have hxR_23 := kb hq hxR_22; have hxn_23 := kb hq hxn_22; have hxk_23 := kb hq hxk_22; have hR0_23 := hR0_22.later hq (Old.nn X _)
   refine hK.out _ _ (fun _ => ⟨hxn_23, hxk_23⟩) ?_
   clear hK K
   try simp only [Act.put, xA, xB, xC]
   have hA : St (fun k => Pt Nn w3.heap.size X w23.heap.size k ∧ some k ≠ (Value.slice A0 ks.length c0).ownBlock) w23 (Nd.mk 31 (hd e l0).pos (hd e l0).text false [] []) none 0 none 0 := leaf_st ⟨by decide, by decide⟩ htk.2.1 hts
   refine zo 7 rfl fun K hK => ?_
   go_simp
   have hb24 := (Below.refl w23.heap.size w23).alloc (Nat.le_refl _) (.cells #[.int .i64 31, .int .i64 (hd e l0).pos, .string (hd e l0).text, .bool false, .slice none 0 0, .slice none 0 0] 29); have hbq := heap_alloc_new w23 (.cells #[.int .i64 31, .int .i64 (hd e l0).pos, .string (hd e l0).text, .bool false, .slice none 0 0, .slice none 0 0] 29); have hse24 : w23.heap.size + 1 ≤ (w23.alloc (.cells #[.int .i64 31, .int .i64 (hd e l0).pos, .string (hd e l0).text, .bool false, .slice none 0 0, .slice none 0 0] 29)).heap.size := by simp
   have hA := hA.laterA hb24 (Old.nn X _)
   generalize w23.alloc (.cells #[.int .i64 31, .int .i64 (hd e l0).pos, .string (hd e l0).text, .bool false, .slice none 0 0, .slice none 0 0] 29) = w24 at *
   obtain ⟨hk24, _, _⟩ := kd hk23 hb24; have hP24 := hP23.later hb24; have hxR_24 := kb hb24 hxR_23; have hxn_24 := kb hb24 hxn_23; have hxk_24 := kb hb24 hxk_23; have hR0_24 := hR0_23.later hb24 (Old.nn X _)
   refine hK.out _ _ (fun _ => ⟨hxn_24, hxk_24⟩) ?_
   clear hK K
   try simp only [Act.put, xA, xB, xC]
   refine zo 8 rfl fun K hK => ?_
   refine step_append_row (t := Nd.mk 31 (hd e l0).pos (hd e l0).text false [] []) rfl _ _ rfl hR0_24 rfl hA w23.heap.size rfl hbq lq17 lq17 lq17 (Old.nn X _) ?_
   intro g25 cap25 w25 hRn hq hgl hgr; have hk25 := hk24.trans ((Kp.of_below hq X).mono lq17); have hs25 := hq.size; have hz25 := hk25.size; have hP25 := hP24.blocks (fun k hk => hq.5 k lq17); have hxR_25 := kb hq hxR_24; have hxn_25 := kb hq hxn_24; have hxk_25 := (hgr.block w21.heap.size lq17 (by intro e2; have := hltE _ e2.symm; omega)).trans hxk_24; have hR0_25 := hRn; clear hRn hA hbq hgr hxR_24 hxn_24 hxk_24 hR0_24 hP24
   refine hK.out _ _ (fun _ => ⟨hxn_25, hxk_25⟩) ?_
   clear hK K
   try simp only [Act.put, xA, xB, xC]
   refine zt 9 (.pointer (some ⟨w2.heap.size, 5, none⟩)) rfl (Or.inl ⟨by rfl, ?_⟩) ⟨hxn_25, hxk_25⟩ ?_
   ·exact lv45
   try simp only [Act.put, xA, xB, xC]
   obtain ⟨k0, k1, k2, k3, k4, k5⟩ := bx_cells hxn_25; have z := Lib.frozen_of_heap hxn_25
   refine zo 10 rfl fun K hK => ?_
   go_simp
   refine hK.out _ _ (fun h => absurd rfl h) ?_
   clear hK K k0 k1 k2 k3 k4 k5 z
   try simp only [Act.put, xA, xB, xC]
   refine anyZ_end lq15 ?_ _
   have hxn_26 := bx_put5 hxn_25 (u := .slice (some ⟨g25, 0, none⟩) (ks.length + 1) cap25); have hxR_26 := (bx_off1 (b := w2.heap.size) (i := 5) (u := .slice (some ⟨g25, 0, none⟩) (ks.length + 1) cap25) lq17).trans hxR_25; have hxk_26 := (bx_off1 (b := w2.heap.size) (i := 5) (u := .slice (some ⟨g25, 0, none⟩) (ks.length + 1) cap25) lq17).trans hxk_25; have hR0_26 := hR0_25.put1 (b := w2.heap.size) (i := 5) (u := .slice (some ⟨g25, 0, none⟩) (ks.length + 1) cap25) lq17 (fun h => h.elim); have hk26 := hk25.set (w2.heap.size) 5 (.slice (some ⟨g25, 0, none⟩) (ks.length + 1) cap25) (.inl lq17)
   have hP26 := hP25.blocks (fun k hk => bx_off1 (b := w2.heap.size) (i := 5) (u := .slice (some ⟨g25, 0, none⟩) (ks.length + 1) cap25) lq17); have hs26 : w25.heap.size ≤ (w25.setCell ⟨w2.heap.size, 5, none⟩ (.slice (some ⟨g25, 0, none⟩) (ks.length + 1) cap25)).heap.size := by simp [World.setCell]
   have hz26 := hk26.size
   generalize w25.setCell ⟨w2.heap.size, 5, none⟩ (.slice (some ⟨g25, 0, none⟩) (ks.length + 1) cap25) = w26 at *
   go_wp2_with fail
   go_at_call 98
   refine (takeS_ok hD hC.s_2c hP26).mono ?_
   rintro E w27 hE
   rcases hE with ⟨hv, rfl, hP27, hq⟩ | ⟨hv, rfl, hP27, hq⟩
   ·simp only [hv, if_true, yO, yA] at hR; obtain ⟨hk27, hs27, hz27⟩ := kc hk26 hq; have hxR_27 := kx hq hxR_26; have hxn_27 := kx hq hxn_26; have hxk_27 := kx hq hxk_26; have hR0_27 := hR0_26.kp hq (Old.nn X _) lq17; have HE := Lh (show _ ∧ _ ∧ _ ∧ _ ∧ _ from ⟨hP27, hxn_27, hxR_27, hR0_27, hk27⟩); clear hxR_27 hxn_27 hxk_27 hR0_27 hP27 hk27; go_wp2_with fail
    go_roundg gk
    case measure => omega
    case rel => exact ⟨ks ++ [Nd.mk 31 (hd e l0).pos (hd e l0).text false [] []], _, (some ⟨g25, 0, none⟩), cap25, Lh ⟨HE.out.1, by rw [show (ks ++ [Nd.mk 31 (hd e l0).pos (hd e l0).text false [] []]).length = ks.length + 1 by simp]; exact HE.out.2.1, HE.out.2.2.1, HE.out.2.2.2.1, HE.out.2.2.2.2, hR, by have := tlSf ‹isS e _ l0.tail = true›; simp only [length_append, length_cons, length_nil]; omega, by omega, by omega⟩⟩
   ·simp only [hv, yF, if_false, yO, yA] at hR; obtain ⟨hk27, hs27, hz27⟩ := kc hk26 hq; have hxR_27 := kx hq hxR_26; have hxn_27 := kx hq hxn_26; have hxk_27 := kx hq hxk_26; have hR0_27 := hR0_26.kp hq (Old.nn X _) lq17; have hFz_27 := hR0_27.node (k := kind) (p := at_) (t := ⟨#[]⟩) hki hat lq16 false; have HE := Lh (show _ ∧ _ ∧ _ from ⟨hk27, hP27, hFz_27⟩); obtain ⟨k0, k1, k2, k3, k4, k5⟩ := bx_cells hxR_27; have z := Lib.frozen_of_heap hxR_27; obtain ⟨mn0, mn1, mn2, mn3, mn4, mn5⟩ := bx_cells hxn_27
    obtain ⟨r0, r1, r2, r3, r4, r5⟩ := bp hxR_27 (.int .i64 kind) (.int .i64 at_) (.string ⟨#[]⟩) (.bool false) (.slice none 0 0) (.slice (some ⟨g25, 0, none⟩) (ks.length + 1) cap25); clear hxR_27 hxn_27 hxk_27 hFz_27 hR0_27 hk27 hP27; go_wp2_with fail
    refine bodyPost_ret (v := .agg #[.int .i64 kind, .int .i64 at_, .string ⟨#[]⟩, .bool false, .slice none 0 0, .slice (some ⟨g25, 0, none⟩) (ks.length + 1) cap25]) (by simp [results, Tryz.results187, go_sem, r0, r1, r2, r3, r4, r5, ndV]) rfl ?_
    rw [show ks.length + 1 = (ks ++ [Nd.mk 31 (hd e l0).pos (hd e l0).text false [] []]).length by simp]; exact RetK.of (ret6 HE.out.1 HE.out.2.1 HE.out.2.2 lq17 lq17 hXl (Old.nn X _) rfl) hR.symm
end
end
end Go.Proofs.YtjndbcnmmnkilaaGreatDoor
