/- Joined by a program: Pe15. -/
import Derived.Test.YtjndbcnmmnkilaaGreatDoorPF09
namespace Go.Proofs.YtjndbcnmmnkilaaGreatDoor
set_option linter.unusedVariables false
set_option linter.unusedSimpArgs false
set_option maxRecDepth 1000000
set_option maxHeartbeats 16000000
section
open Go.RowKit
open List (length_append length_cons length_nil length_singleton)
section
variable {wB nB gB : ByteArray → Bool} {nO : ByteArray → Option (List Int)} {e : Int} 
theorem pComp_ok (hD : Deps wB nB gB nO) (hC : Cst wB) (D : Nat) (HAs' : ∀ k, k ≤ D → PA e (Pp nB gB nO e k)) : CCN e (fun t l => s_comp e (Pp nB gB nO e D) t l) := by
 intro P kind at_ X T0 A0 c0 K0 d0 l w hki hat hO hT hP0 hne
 obtain ⟨R, hR⟩ : ∃ R, s_comp e (Pp nB gB nO e D) T0 l = R := ⟨_, rfl⟩
 simp only [hR] at hne ⊢
 unfold s_comp at hR
 unfold ndV
 have HAs := Lh HAs'
 clear HAs'
 have HA := HAs.out D (Nat.le_refl _)
 have hXl := hP0.lt
 have hk0 : Kp w.heap.size X w w := Kp.refl _ _ _
 have hz0 := hk0.size
 go_enter Tryz.func318, Tryz.ntmps318
 go_upto_region 1 with fail
 have hsz1 := Lh (show (w.alloc (.cells #[.int .i64 T0.kind, .int .i64 T0.pos, .string T0.text, .bool T0.neg, .slice A0 T0.mag.length c0, .slice K0 T0.kids.length d0] 29)).heap.size = w.heap.size + 1 by simp)
 generalize hG : w.alloc (oN T0 A0 c0 K0 d0) = w1 at *
 obtain ⟨hb1, hxt_1, _⟩ := nb hG
 clear hG
 obtain ⟨hk1, _, _⟩ := kd hk0 hb1
 have hP1 := hP0.later hb1
 generalize hG : w1.alloc zN = w2 at *
 obtain ⟨hb2, hxR_2, _⟩ := nb hG
 clear hG
 obtain ⟨hk2, _, _⟩ := kd hk1 hb2
 have hP2 := hP1.later hb2
 have hxt_2 := kb hb2 hxt_1
 rw [hsz1.out] at hxR_2
 have hF0_2 : St (Pt P w2.heap.size X w2.heap.size) w2 T0 A0 c0 K0 d0 := hT.move (fun k hk => hk2.block k (hO k hk).2 (by have := (hO k hk).1; omega)) fun k hk => .inl hk
 go_wp2_with fail
 go_at_call 103
 refine (needW_ok hD hC.w_for hP2).mono ?_
 rintro E w3 hE
 rcases hE with ⟨hv, rfl, hP3, hq⟩ | ⟨hv, rfl, hq⟩
 rotate_left 1
 ·have hn : needW e ⟨#[102, 111, 114]⟩ _ = .bad 106 _ := if_neg (by rw [hv]; decide); rw [hn, Rs.bind_bad] at hR; go_wp2_with fail; exact ⟨rfl, retBadK (hk2.call (Nat.le_refl _) hq) hR.symm⟩
 have hn : needW e ⟨#[102, 111, 114]⟩ _ = .ok () _ := if_pos hv
 rw [hn] at hR
 simp only [yO, yA] at hR
 clear hn
 obtain ⟨hk3, _, _⟩ := kc hk2 hq
 have hxt_3 := kx hq hxt_2
 have hxR_3 := kx hq hxR_2
 have hF0_3 := hF0_2.kp hq (hO.mono lq17) lq17
 have n1 := Rs.ne_of hR hne
 go_wp2_with fail
 go_at_call 102
 refine (HA.ptargets X _ _ hP3 n1).mono ?_
 rintro E w4 hE
 rcases hE with ⟨cc, aa, hv, rfl, hq⟩ | ⟨T1, l1, A1, c1, K1, d1, hv, rfl, hP4, hF1_4, hq⟩
 ·rw [hv] at hR; go_wp2_with fail; exact ⟨rfl, retBadK (hk3.call (Nat.le_refl _) hq) hR.symm⟩
 rw [hv] at hR
 simp only [yO, yA] at hR
 clear hv n1
 have hF1_4 := hF1_4.intoN (P := P) (lo := w2.heap.size) (x := X) lq17 lq17
 obtain ⟨hk4, _, _⟩ := kc hk3 hq
 have hxt_4 := kx hq hxt_3
 have hxR_4 := kx hq hxR_3
 have hF0_4 := hF0_3.kp hq (hO.mono lq17) lq17
 unfold ndV
 go_upto_region 3 with fail
 generalize hG : w4.alloc (oN T1 A1 c1 K1 d1) = w5 at *
 obtain ⟨hb5, hxo_5, _⟩ := nb hG
 clear hG
 obtain ⟨hk5, _, _⟩ := kd hk4 hb5
 have hP5 := hP4.later hb5
 have hxt_5 := kb hb5 hxt_4
 have hxR_5 := kb hb5 hxR_4
 have hF0_5 := hF0_4.later hb5 (hO.mono lq17)
 have hF1_5 := hF1_4.later hb5 (hO.mono lq17)
 go_wp2_with fail
 go_at_call 103
 refine (needW_ok hD hC.w_in hP5).mono ?_
 rintro E w6 hE
 rcases hE with ⟨hv, rfl, hP6, hq⟩ | ⟨hv, rfl, hq⟩
 rotate_left 1
 ·have hn : needW e ⟨#[105, 110]⟩ _ = .bad 106 _ := if_neg (by rw [hv]; decide); rw [hn, Rs.bind_bad] at hR; go_wp2_with fail; exact ⟨rfl, retBadK (hk5.call (Nat.le_refl _) hq) hR.symm⟩
 have hn : needW e ⟨#[105, 110]⟩ _ = .ok () _ := if_pos hv
 rw [hn] at hR
 simp only [yO, yA] at hR
 clear hn
 obtain ⟨hk6, _, _⟩ := kc hk5 hq
 have hxt_6 := kx hq hxt_5
 have hxR_6 := kx hq hxR_5
 have hxo_6 := kx hq hxo_5
 have hF0_6 := hF0_5.kp hq (hO.mono lq17) lq17
 have hF1_6 := hF1_5.kp hq (hO.mono lq17) lq17
 have n1 := Rs.ne_of hR hne
 go_upto_region 4 with fail
 go_cut [10] from 17 to 24 (fun v wx => ∃ (bn g : Nat) (T2 : Nd) (l2 : List Tok) (cap : Nat), v = .pointer (some ⟨bn, 0, none⟩) ∧ Hid (Pz e wx X l2 ∧ wx.heap[bn]? = some (.cells #[.int .i64 kind, .int .i64 at_, .string ⟨#[]⟩, .bool false, .slice none 0 0, .slice (some ⟨g, 0, none⟩) 3 3] 29) ∧ wx.heap[(w.heap.size + 1)]? = some (.cells #[.int .i64 0, .int .i64 0, .string ⟨#[]⟩, .bool false, .slice none 0 0, .slice none 0 0] 29) ∧ RowS P w2.heap.size bn wx (some ⟨g, 0, none⟩) 3 [T0, T1, T2] ∧ Kp w.heap.size X w wx ∧ (Pp nB gB nO e D).qcompL [T0, T1, T2] l2 = R ∧ w2.heap.size ≤ bn ∧ bn < wx.heap.size))
 case first =>
  refine region_anyZ (fun W => W.heap[w.heap.size]? = some (.cells #[.int .i64 T0.kind, .int .i64 T0.pos, .string T0.text, .bool T0.neg, .slice A0 T0.mag.length c0, .slice K0 T0.kids.length d0] 29) ∧ W.heap[w4.heap.size]? = some (.cells #[.int .i64 T1.kind, .int .i64 T1.pos, .string T1.text, .bool T1.neg, .slice A1 T1.mag.length c1, .slice K1 T1.kids.length d1] 29)) 9 lq15 ?_
  refine zt 0 (.int .i64 kind) rfl (Or.inl ⟨by rfl, ?_⟩) ⟨hxt_6, hxo_6⟩ ?_
  ·exact lv42
  try simp only [Act.put, xA, xB, xC]
  refine zt 1 (.int .i64 at_) rfl (Or.inl ⟨by rfl, ?_⟩) ⟨hxt_6, hxo_6⟩ ?_
  ·exact lv42
  try simp only [Act.put, xA, xB, xC]
  refine zt 2 (.agg #[.int .i64 T0.kind, .int .i64 T0.pos, .string T0.text, .bool T0.neg, .slice A0 T0.mag.length c0, .slice K0 T0.kids.length d0]) rfl (Or.inl ⟨by rfl, ?_⟩) ⟨hxt_6, hxo_6⟩ ?_
  ·exact lv42
  try simp only [Act.put, xA, xB, xC]
  refine zt 3 (.agg #[.int .i64 T1.kind, .int .i64 T1.pos, .string T1.text, .bool T1.neg, .slice A1 T1.mag.length c1, .slice K1 T1.kids.length d1]) rfl (Or.inl ⟨by rfl, ?_⟩) ⟨hxt_6, hxo_6⟩ ?_
  ·exact lv42
  try simp only [Act.put, xA, xB, xC]
  refine zt 4 (.pointer (some ⟨X, 0, none⟩)) rfl (Or.inl ⟨by rfl, ?_⟩) ⟨hxt_6, hxo_6⟩ ?_
  ·exact lv42
  try simp only [Act.put, xA, xB, xC]
  refine anyZ_two (k := 5) (k' := 8) (o := _) (o' := _) lq15 rfl rfl (fun K hK => ?_) (fun K hK => ?_)
  ·go_simp
   go_at_call 179
   refine (HA.por X _ _ (hP6.later (bl_drew (Below.refl _ _))) n1).mono ?_
   rintro E w7 hE
   rcases hE with ⟨cc, aa, hv, rfl, hq⟩ | ⟨T2, l2, A2, c2, K2, d2, hv, rfl, hP7, hF2_7, hq⟩
   ·rw [hv] at hR; exact ⟨rfl, retBadK (hk6.call (Nat.le_refl _) (kp_undrew hq)) hR.symm⟩
   rw [hv] at hR; simp only [Rs.bind_ok] at hR; clear hv n1; have hq := kp_undrew hq; have hdr7 : w6.drew.heap.size = w6.heap.size := rfl; have hF2_7 := hF2_7.intoN (P := P) (lo := w2.heap.size) (x := X) lq17 lq17; obtain ⟨hk7, hs7, hz7⟩ := kc hk6 hq; have hxt_7 := kx hq hxt_6; have hxR_7 := kx hq hxR_6; have hxo_7 := kx hq hxo_6; have hF0_7 := hF0_6.kp hq (hO.mono lq17) lq17; have hF1_7 := hF1_6.kp hq (hO.mono lq17) lq17; unfold ndV
   refine hK.out _ _ (fun _ => ⟨hxt_7, hxo_7⟩) ?_
   clear hK K
   try simp only [Act.put, xA, xB, xC]
   refine anyZ_two (k := 6) (k' := 8) (o := _) (o' := _) lq15 rfl rfl (fun K hK => ?_) (fun K hK => ?_)
   ·go_simp
    have hro := row_made (P := P) (lo := w2.heap.size) (x := X) (X := X) w7 [⟨T0, A0, c0, K0, d0⟩, ⟨T1, A1, c1, K1, d1⟩, ⟨T2, A2, c2, K2, d2⟩] #[.int .i64 T0.kind, .int .i64 T0.pos, .string T0.text, .bool T0.neg, .slice A0 T0.mag.length c0, .slice K0 T0.kids.length d0, .int .i64 T1.kind, .int .i64 T1.pos, .string T1.text, .bool T1.neg, .slice A1 T1.mag.length c1, .slice K1 T1.kids.length d1, .int .i64 T2.kind, .int .i64 T2.pos, .string T2.text, .bool T2.neg, .slice A2 T2.mag.length c2, .slice K2 T2.kids.length d2] 3 rfl rfl lq17 lq17 lq16 (hO.mono lq17) (by
     intro q hq; simp only [List.mem_cons, List.not_mem_nil, or_false] at hq
     rcases hq with rfl | rfl | rfl <;> assumption)
    generalize hG : w7.alloc (.cells #[.int .i64 T0.kind, .int .i64 T0.pos, .string T0.text, .bool T0.neg, .slice A0 T0.mag.length c0, .slice K0 T0.kids.length d0, .int .i64 T1.kind, .int .i64 T1.pos, .string T1.text, .bool T1.neg, .slice A1 T1.mag.length c1, .slice K1 T1.kids.length d1, .int .i64 T2.kind, .int .i64 T2.pos, .string T2.text, .bool T2.neg, .slice A2 T2.mag.length c2, .slice K2 T2.kids.length d2] 29) = w8 at *
    obtain ⟨hb8, _, hse8⟩ := nb hG; clear hG; obtain ⟨hk8, hs8, hz8⟩ := kd hk7 hb8; have hP8 := hP7.later hb8; have hxt_8 := kb hb8 hxt_7; have hxR_8 := kb hb8 hxR_7; have hxo_8 := kb hb8 hxo_7; have hF0_8 := hF0_7.later hb8 (hO.mono lq17); have hF1_8 := hF1_7.later hb8 (hO.mono lq17); have hF2_8 := hF2_7.later hb8 (hO.mono lq17); have hRq_8 := hro; clear hro
    refine hK.out _ _ (fun _ => ⟨hxt_8, hxo_8⟩) ?_
    clear hK K
    try simp only [Act.put, xA, xB, xC]
    refine anyZ_two (k := 7) (k' := 8) (o := _) (o' := _) lq15 rfl rfl (fun K hK => ?_) (fun K hK => ?_)
    ·go_simp
     go_at_call 54
     refine (node_okA _ _ _ _ _ _ _).mono ?_
     rintro E w9 ⟨rfl, hq⟩; obtain ⟨hk9, hs9, hz9⟩ := kd hk8 hq; have hP9 := hP8.later hq; have hxt_9 := kb hq hxt_8; have hxR_9 := kb hq hxR_8; have hxo_9 := kb hq hxo_8; have hF0_9 := hF0_8.later hq (hO.mono lq17); have hF1_9 := hF1_8.later hq (hO.mono lq17); have hF2_9 := hF2_8.later hq (hO.mono lq17); have hRq_9 := hRq_8.later hq (hO.mono lq17)
     refine hK.out _ _ (fun _ => ⟨hxt_9, hxo_9⟩) ?_
     clear hK K
     try simp only [Act.put, xA, xB, xC]
     refine zo 8 rfl fun K hK => ?_
     go_simp
     have hF0_9 := hF0_9.setx (x' := w9.heap.size) lq17; have hF1_9 := hF1_9.setx (x' := w9.heap.size) lq17; have hF2_9 := hF2_9.setx (x' := w9.heap.size) lq17; have hRq_9 := hRq_9.setx (x' := w9.heap.size) lq17; have hb10 := id ((Below.refl w9.heap.size w9).alloc (Nat.le_refl _) (.cells #[.int .i64 0, .int .i64 0, .string ⟨#[]⟩, .bool false, .slice none 0 0, .slice none 0 0] 29))
     have hxb_10 : (w9.alloc (.cells #[.int .i64 0, .int .i64 0, .string ⟨#[]⟩, .bool false, .slice none 0 0, .slice none 0 0] 29)).heap[w9.heap.size]? = _ := heap_alloc_new w9 (.cells #[.int .i64 0, .int .i64 0, .string ⟨#[]⟩, .bool false, .slice none 0 0, .slice none 0 0] 29); have hse10 : w9.heap.size + 1 ≤ (w9.alloc (.cells #[.int .i64 0, .int .i64 0, .string ⟨#[]⟩, .bool false, .slice none 0 0, .slice none 0 0] 29)).heap.size := (show w9.heap.size + 1 ≤ (w9.alloc (.cells #[.int .i64 0, .int .i64 0, .string ⟨#[]⟩, .bool false, .slice none 0 0, .slice none 0 0] 29)).heap.size by simp)
     generalize (w9.alloc (.cells #[.int .i64 0, .int .i64 0, .string ⟨#[]⟩, .bool false, .slice none 0 0, .slice none 0 0] 29)) = w10 at *
     obtain ⟨hk10, hs10, hz10⟩ := kd hk9 hb10; have hP10 := hP9.later hb10; have hxt_10 := kb hb10 hxt_9; have hxR_10 := kb hb10 hxR_9; have hxo_10 := kb hb10 hxo_9; have hF0_10 := hF0_9.later hb10 (hO.mono lq17); have hF1_10 := hF1_9.later hb10 (hO.mono lq17); have hF2_10 := hF2_9.later hb10 (hO.mono lq17); have hRq_10 := hRq_9.later hb10 (hO.mono lq17)
     refine hK.out _ _ (fun _ => ⟨hxt_10, hxo_10⟩) ?_
     clear hK K
     try simp only [Act.put, xA, xB, xC]
     obtain ⟨k0, k1, k2, k3, k4, k5⟩ := bx_cells hxb_10; have z := Lib.frozen_of_heap hxb_10
     refine zo 9 rfl fun K hK => ?_
     go_simp
     refine hK.out _ _ (fun h => absurd rfl h) ?_
     clear hK K k0 k1 k2 k3 k4 k5 z
     try simp only [Act.put, xA, xB, xC]
     refine anyZ_end lq15 ?_ _
     have hQ := bx_put hxb_10 (u0 := .int .i64 kind) (u1 := .int .i64 at_) (u2 := .string ⟨#[]⟩) (u3 := .bool false) (u4 := .slice none 0 0) (u5 := .slice (some ⟨w7.heap.size, 0, none⟩) 3 3); have hR2 := (bx_off (w := w10) (b := w9.heap.size) (u0 := .int .i64 kind) (u1 := .int .i64 at_) (u2 := .string ⟨#[]⟩) (u3 := .bool false) (u4 := .slice none 0 0) (u5 := .slice (some ⟨w7.heap.size, 0, none⟩) 3 3) lq17).trans hxR_10
     have hRw := hRq_10.put6 (b := w9.heap.size) (u0 := .int .i64 kind) (u1 := .int .i64 at_) (u2 := .string ⟨#[]⟩) (u3 := .bool false) (u4 := .slice none 0 0) (u5 := .slice (some ⟨w7.heap.size, 0, none⟩) 3 3) (.inl rfl) (fun h => by have := (hO _ h).2; omega); have hkw := bx_kp hk10 (b := w9.heap.size) (u0 := .int .i64 kind) (u1 := .int .i64 at_) (u2 := .string ⟨#[]⟩) (u3 := .bool false) (u4 := .slice none 0 0) (u5 := .slice (some ⟨w7.heap.size, 0, none⟩) 3 3) lq17
     have hPw := hP10.blocks (fun k hk => bx_off (w := w10) (b := w9.heap.size) (u0 := .int .i64 kind) (u1 := .int .i64 at_) (u2 := .string ⟨#[]⟩) (u3 := .bool false) (u4 := .slice none 0 0) (u5 := .slice (some ⟨w7.heap.size, 0, none⟩) 3 3) lq17); have hsF := bx_size (w := w10) (b := w9.heap.size) (u0 := .int .i64 kind) (u1 := .int .i64 at_) (u2 := .string ⟨#[]⟩) (u3 := .bool false) (u4 := .slice none 0 0) (u5 := .slice (some ⟨w7.heap.size, 0, none⟩) 3 3); have HE := Lh (show _ ∧ _ ∧ _ ∧ _ ∧ _ ∧ _ from ⟨hPw, hQ, hR2, hRw, hkw, hsF⟩)
     clear hPw hQ hR2 hRw hkw hsF hxt_10 hxR_10 hxo_10 hxb_10 hF0_10 hF1_10 hF2_10 hRq_10 hP10 hk10; go_wp2_with fail
     go_meet
     case rel => exact ⟨w9.heap.size, w7.heap.size, T2, l2, 3, rfl, Lh ⟨HE.out.1, HE.out.2.1, HE.out.2.2.1, HE.out.2.2.2.1, HE.out.2.2.2.2.1, hR, by omega, Nat.lt_of_lt_of_le (show w9.heap.size < w10.heap.size by omega) (Nat.le_of_eq HE.out.2.2.2.2.2.symm)⟩⟩
    ·go_simp
     have hF0_8 := hF0_8.setx (x' := w8.heap.size) lq17; have hF1_8 := hF1_8.setx (x' := w8.heap.size) lq17; have hF2_8 := hF2_8.setx (x' := w8.heap.size) lq17; have hRq_8 := hRq_8.setx (x' := w8.heap.size) lq17; have hb9 := id ((Below.refl w8.heap.size w8).alloc (Nat.le_refl _) (.cells #[.int .i64 0, .int .i64 0, .string ⟨#[]⟩, .bool false, .slice none 0 0, .slice none 0 0] 29))
     have hxb_9 : (w8.alloc (.cells #[.int .i64 0, .int .i64 0, .string ⟨#[]⟩, .bool false, .slice none 0 0, .slice none 0 0] 29)).heap[w8.heap.size]? = _ := heap_alloc_new w8 (.cells #[.int .i64 0, .int .i64 0, .string ⟨#[]⟩, .bool false, .slice none 0 0, .slice none 0 0] 29); have hse9 : w8.heap.size + 1 ≤ (w8.alloc (.cells #[.int .i64 0, .int .i64 0, .string ⟨#[]⟩, .bool false, .slice none 0 0, .slice none 0 0] 29)).heap.size := (show w8.heap.size + 1 ≤ (w8.alloc (.cells #[.int .i64 0, .int .i64 0, .string ⟨#[]⟩, .bool false, .slice none 0 0, .slice none 0 0] 29)).heap.size by simp)
     generalize (w8.alloc (.cells #[.int .i64 0, .int .i64 0, .string ⟨#[]⟩, .bool false, .slice none 0 0, .slice none 0 0] 29)) = w9 at *
     obtain ⟨hk9, hs9, hz9⟩ := kd hk8 hb9; have hP9 := hP8.later hb9; have hxt_9 := kb hb9 hxt_8; have hxR_9 := kb hb9 hxR_8; have hxo_9 := kb hb9 hxo_8; have hF0_9 := hF0_8.later hb9 (hO.mono lq17); have hF1_9 := hF1_8.later hb9 (hO.mono lq17); have hF2_9 := hF2_8.later hb9 (hO.mono lq17); have hRq_9 := hRq_8.later hb9 (hO.mono lq17)
     refine hK.out _ _ (fun _ => ⟨hxt_9, hxo_9⟩) ?_
     clear hK K
     try simp only [Act.put, xA, xB, xC]
     refine zo 7 rfl fun K hK => ?_
     go_simp
     go_at_call 54
     refine (node_okA _ _ _ _ _ _ _).mono ?_
     rintro E w10 ⟨rfl, hq⟩; obtain ⟨hk10, hs10, hz10⟩ := kd hk9 hq; have hP10 := hP9.later hq; have hxt_10 := kb hq hxt_9; have hxR_10 := kb hq hxR_9; have hxo_10 := kb hq hxo_9; have hxb_10 := kb hq hxb_9; have hF0_10 := hF0_9.later hq (hO.mono lq17); have hF1_10 := hF1_9.later hq (hO.mono lq17); have hF2_10 := hF2_9.later hq (hO.mono lq17); have hRq_10 := hRq_9.later hq (hO.mono lq17)
     refine hK.out _ _ (fun _ => ⟨hxt_10, hxo_10⟩) ?_
     clear hK K
     try simp only [Act.put, xA, xB, xC]
     obtain ⟨k0, k1, k2, k3, k4, k5⟩ := bx_cells hxb_10; have z := Lib.frozen_of_heap hxb_10
     refine zo 9 rfl fun K hK => ?_
     go_simp
     refine hK.out _ _ (fun h => absurd rfl h) ?_
     clear hK K k0 k1 k2 k3 k4 k5 z
     try simp only [Act.put, xA, xB, xC]
     refine anyZ_end lq15 ?_ _
     have hQ := bx_put hxb_10 (u0 := .int .i64 kind) (u1 := .int .i64 at_) (u2 := .string ⟨#[]⟩) (u3 := .bool false) (u4 := .slice none 0 0) (u5 := .slice (some ⟨w7.heap.size, 0, none⟩) 3 3); have hR2 := (bx_off (w := w10) (b := w8.heap.size) (u0 := .int .i64 kind) (u1 := .int .i64 at_) (u2 := .string ⟨#[]⟩) (u3 := .bool false) (u4 := .slice none 0 0) (u5 := .slice (some ⟨w7.heap.size, 0, none⟩) 3 3) lq17).trans hxR_10
     have hRw := hRq_10.put6 (b := w8.heap.size) (u0 := .int .i64 kind) (u1 := .int .i64 at_) (u2 := .string ⟨#[]⟩) (u3 := .bool false) (u4 := .slice none 0 0) (u5 := .slice (some ⟨w7.heap.size, 0, none⟩) 3 3) (.inl rfl) (fun h => by have := (hO _ h).2; omega); have hkw := bx_kp hk10 (b := w8.heap.size) (u0 := .int .i64 kind) (u1 := .int .i64 at_) (u2 := .string ⟨#[]⟩) (u3 := .bool false) (u4 := .slice none 0 0) (u5 := .slice (some ⟨w7.heap.size, 0, none⟩) 3 3) lq17
     have hPw := hP10.blocks (fun k hk => bx_off (w := w10) (b := w8.heap.size) (u0 := .int .i64 kind) (u1 := .int .i64 at_) (u2 := .string ⟨#[]⟩) (u3 := .bool false) (u4 := .slice none 0 0) (u5 := .slice (some ⟨w7.heap.size, 0, none⟩) 3 3) lq17); have hsF := bx_size (w := w10) (b := w8.heap.size) (u0 := .int .i64 kind) (u1 := .int .i64 at_) (u2 := .string ⟨#[]⟩) (u3 := .bool false) (u4 := .slice none 0 0) (u5 := .slice (some ⟨w7.heap.size, 0, none⟩) 3 3); have HE := Lh (show _ ∧ _ ∧ _ ∧ _ ∧ _ ∧ _ from ⟨hPw, hQ, hR2, hRw, hkw, hsF⟩)
     clear hPw hQ hR2 hRw hkw hsF hxt_10 hxR_10 hxo_10 hxb_10 hF0_10 hF1_10 hF2_10 hRq_10 hP10 hk10; go_wp2_with fail
     go_meet
     case rel => exact ⟨w8.heap.size, w7.heap.size, T2, l2, 3, rfl, Lh ⟨HE.out.1, HE.out.2.1, HE.out.2.2.1, HE.out.2.2.2.1, HE.out.2.2.2.2.1, hR, by omega, Nat.lt_of_lt_of_le (show w8.heap.size < w10.heap.size by omega) (Nat.le_of_eq HE.out.2.2.2.2.2.symm)⟩⟩
   ·go_simp
    have hF0_7 := hF0_7.setx (x' := w7.heap.size) lq17; have hF1_7 := hF1_7.setx (x' := w7.heap.size) lq17; have hF2_7 := hF2_7.setx (x' := w7.heap.size) lq17; have hb8 := id ((Below.refl w7.heap.size w7).alloc (Nat.le_refl _) (.cells #[.int .i64 0, .int .i64 0, .string ⟨#[]⟩, .bool false, .slice none 0 0, .slice none 0 0] 29))
    have hxb_8 : (w7.alloc (.cells #[.int .i64 0, .int .i64 0, .string ⟨#[]⟩, .bool false, .slice none 0 0, .slice none 0 0] 29)).heap[w7.heap.size]? = _ := heap_alloc_new w7 (.cells #[.int .i64 0, .int .i64 0, .string ⟨#[]⟩, .bool false, .slice none 0 0, .slice none 0 0] 29); have hse8 : w7.heap.size + 1 ≤ (w7.alloc (.cells #[.int .i64 0, .int .i64 0, .string ⟨#[]⟩, .bool false, .slice none 0 0, .slice none 0 0] 29)).heap.size := (show w7.heap.size + 1 ≤ (w7.alloc (.cells #[.int .i64 0, .int .i64 0, .string ⟨#[]⟩, .bool false, .slice none 0 0, .slice none 0 0] 29)).heap.size by simp)
    generalize (w7.alloc (.cells #[.int .i64 0, .int .i64 0, .string ⟨#[]⟩, .bool false, .slice none 0 0, .slice none 0 0] 29)) = w8 at *
    obtain ⟨hk8, hs8, hz8⟩ := kd hk7 hb8; have hP8 := hP7.later hb8; have hxt_8 := kb hb8 hxt_7; have hxR_8 := kb hb8 hxR_7; have hxo_8 := kb hb8 hxo_7; have hF0_8 := hF0_7.later hb8 (hO.mono lq17); have hF1_8 := hF1_7.later hb8 (hO.mono lq17); have hF2_8 := hF2_7.later hb8 (hO.mono lq17)
    refine hK.out _ _ (fun _ => ⟨hxt_8, hxo_8⟩) ?_
    clear hK K
    try simp only [Act.put, xA, xB, xC]
    refine zo 6 rfl fun K hK => ?_
    go_simp
    have hro := row_made (P := P) (lo := w2.heap.size) (x := w7.heap.size) (X := X) w8 [⟨T0, A0, c0, K0, d0⟩, ⟨T1, A1, c1, K1, d1⟩, ⟨T2, A2, c2, K2, d2⟩] #[.int .i64 T0.kind, .int .i64 T0.pos, .string T0.text, .bool T0.neg, .slice A0 T0.mag.length c0, .slice K0 T0.kids.length d0, .int .i64 T1.kind, .int .i64 T1.pos, .string T1.text, .bool T1.neg, .slice A1 T1.mag.length c1, .slice K1 T1.kids.length d1, .int .i64 T2.kind, .int .i64 T2.pos, .string T2.text, .bool T2.neg, .slice A2 T2.mag.length c2, .slice K2 T2.kids.length d2] 3 rfl rfl lq17 lq17 lq16 (hO.mono lq17) (by
     intro q hq; simp only [List.mem_cons, List.not_mem_nil, or_false] at hq
     rcases hq with rfl | rfl | rfl <;> assumption)
    generalize hG : w8.alloc (.cells #[.int .i64 T0.kind, .int .i64 T0.pos, .string T0.text, .bool T0.neg, .slice A0 T0.mag.length c0, .slice K0 T0.kids.length d0, .int .i64 T1.kind, .int .i64 T1.pos, .string T1.text, .bool T1.neg, .slice A1 T1.mag.length c1, .slice K1 T1.kids.length d1, .int .i64 T2.kind, .int .i64 T2.pos, .string T2.text, .bool T2.neg, .slice A2 T2.mag.length c2, .slice K2 T2.kids.length d2] 29) = w9 at *
    obtain ⟨hb9, _, hse9⟩ := nb hG; clear hG; obtain ⟨hk9, hs9, hz9⟩ := kd hk8 hb9; have hP9 := hP8.later hb9; have hxt_9 := kb hb9 hxt_8; have hxR_9 := kb hb9 hxR_8; have hxo_9 := kb hb9 hxo_8; have hxb_9 := kb hb9 hxb_8; have hF0_9 := hF0_8.later hb9 (hO.mono lq17); have hF1_9 := hF1_8.later hb9 (hO.mono lq17); have hF2_9 := hF2_8.later hb9 (hO.mono lq17); have hRq_9 := hro; clear hro
    refine hK.out _ _ (fun _ => ⟨hxt_9, hxo_9⟩) ?_
    clear hK K
    try simp only [Act.put, xA, xB, xC]
    refine zo 7 rfl fun K hK => ?_
    go_simp
    go_at_call 54
    refine (node_okA _ _ _ _ _ _ _).mono ?_
    rintro E w10 ⟨rfl, hq⟩; obtain ⟨hk10, hs10, hz10⟩ := kd hk9 hq; have hP10 := hP9.later hq; have hxt_10 := kb hq hxt_9; have hxR_10 := kb hq hxR_9; have hxo_10 := kb hq hxo_9; have hxb_10 := kb hq hxb_9; have hF0_10 := hF0_9.later hq (hO.mono lq17); have hF1_10 := hF1_9.later hq (hO.mono lq17); have hF2_10 := hF2_9.later hq (hO.mono lq17); have hRq_10 := hRq_9.later hq (hO.mono lq17)
    refine hK.out _ _ (fun _ => ⟨hxt_10, hxo_10⟩) ?_
    clear hK K
    try simp only [Act.put, xA, xB, xC]
    obtain ⟨k0, k1, k2, k3, k4, k5⟩ := bx_cells hxb_10; have z := Lib.frozen_of_heap hxb_10
    refine zo 9 rfl fun K hK => ?_
    go_simp
    refine hK.out _ _ (fun h => absurd rfl h) ?_
    clear hK K k0 k1 k2 k3 k4 k5 z
    try simp only [Act.put, xA, xB, xC]
    refine anyZ_end lq15 ?_ _
    have hQ := bx_put hxb_10 (u0 := .int .i64 kind) (u1 := .int .i64 at_) (u2 := .string ⟨#[]⟩) (u3 := .bool false) (u4 := .slice none 0 0) (u5 := .slice (some ⟨w8.heap.size, 0, none⟩) 3 3); have hR2 := (bx_off (w := w10) (b := w7.heap.size) (u0 := .int .i64 kind) (u1 := .int .i64 at_) (u2 := .string ⟨#[]⟩) (u3 := .bool false) (u4 := .slice none 0 0) (u5 := .slice (some ⟨w8.heap.size, 0, none⟩) 3 3) lq17).trans hxR_10
    have hRw := hRq_10.put6 (b := w7.heap.size) (u0 := .int .i64 kind) (u1 := .int .i64 at_) (u2 := .string ⟨#[]⟩) (u3 := .bool false) (u4 := .slice none 0 0) (u5 := .slice (some ⟨w8.heap.size, 0, none⟩) 3 3) (.inl rfl) (fun h => by have := (hO _ h).2; omega); have hkw := bx_kp hk10 (b := w7.heap.size) (u0 := .int .i64 kind) (u1 := .int .i64 at_) (u2 := .string ⟨#[]⟩) (u3 := .bool false) (u4 := .slice none 0 0) (u5 := .slice (some ⟨w8.heap.size, 0, none⟩) 3 3) lq17
    have hPw := hP10.blocks (fun k hk => bx_off (w := w10) (b := w7.heap.size) (u0 := .int .i64 kind) (u1 := .int .i64 at_) (u2 := .string ⟨#[]⟩) (u3 := .bool false) (u4 := .slice none 0 0) (u5 := .slice (some ⟨w8.heap.size, 0, none⟩) 3 3) lq17); have hsF := bx_size (w := w10) (b := w7.heap.size) (u0 := .int .i64 kind) (u1 := .int .i64 at_) (u2 := .string ⟨#[]⟩) (u3 := .bool false) (u4 := .slice none 0 0) (u5 := .slice (some ⟨w8.heap.size, 0, none⟩) 3 3); have HE := Lh (show _ ∧ _ ∧ _ ∧ _ ∧ _ ∧ _ from ⟨hPw, hQ, hR2, hRw, hkw, hsF⟩)
    clear hPw hQ hR2 hRw hkw hsF hxt_10 hxR_10 hxo_10 hxb_10 hF0_10 hF1_10 hF2_10 hRq_10 hP10 hk10; go_wp2_with fail
    go_meet
    case rel => exact ⟨w7.heap.size, w8.heap.size, T2, l2, 3, rfl, Lh ⟨HE.out.1, HE.out.2.1, HE.out.2.2.1, HE.out.2.2.2.1, HE.out.2.2.2.2.1, hR, by omega, Nat.lt_of_lt_of_le (show w7.heap.size < w10.heap.size by omega) (Nat.le_of_eq HE.out.2.2.2.2.2.symm)⟩⟩
  ·go_simp
   have hF0_6 := hF0_6.setx (x' := w6.heap.size) lq17; have hF1_6 := hF1_6.setx (x' := w6.heap.size) lq17; have hb7 := bl_drew ((Below.refl w6.heap.size w6).alloc (Nat.le_refl _) (.cells #[.int .i64 0, .int .i64 0, .string ⟨#[]⟩, .bool false, .slice none 0 0, .slice none 0 0] 29)); have hxb_7 : (w6.alloc (.cells #[.int .i64 0, .int .i64 0, .string ⟨#[]⟩, .bool false, .slice none 0 0, .slice none 0 0] 29)).drew.heap[w6.heap.size]? = _ := heap_alloc_new w6 (.cells #[.int .i64 0, .int .i64 0, .string ⟨#[]⟩, .bool false, .slice none 0 0, .slice none 0 0] 29)
   have hse7 : w6.heap.size + 1 ≤ (w6.alloc (.cells #[.int .i64 0, .int .i64 0, .string ⟨#[]⟩, .bool false, .slice none 0 0, .slice none 0 0] 29)).drew.heap.size := (show w6.heap.size + 1 ≤ (w6.alloc (.cells #[.int .i64 0, .int .i64 0, .string ⟨#[]⟩, .bool false, .slice none 0 0, .slice none 0 0] 29)).heap.size by simp)
   generalize (w6.alloc (.cells #[.int .i64 0, .int .i64 0, .string ⟨#[]⟩, .bool false, .slice none 0 0, .slice none 0 0] 29)).drew = w7 at *
   obtain ⟨hk7, hs7, hz7⟩ := kd hk6 hb7; have hP7 := hP6.later hb7; have hxt_7 := kb hb7 hxt_6; have hxR_7 := kb hb7 hxR_6; have hxo_7 := kb hb7 hxo_6; have hF0_7 := hF0_6.later hb7 (hO.mono lq17); have hF1_7 := hF1_6.later hb7 (hO.mono lq17)
   refine hK.out _ _ (fun _ => ⟨hxt_7, hxo_7⟩) ?_
   clear hK K
   try simp only [Act.put, xA, xB, xC]
   refine zo 5 rfl fun K hK => ?_
   go_simp
   go_at_call 179
   refine (HA.por X _ _ hP7 n1).mono ?_
   rintro E w8 hE
   rcases hE with ⟨cc, aa, hv, rfl, hq⟩ | ⟨T2, l2, A2, c2, K2, d2, hv, rfl, hP8, hF2_8, hq⟩
   ·rw [hv] at hR; exact ⟨rfl, retBadK (hk7.call (Nat.le_refl _) hq) hR.symm⟩
   rw [hv] at hR; simp only [Rs.bind_ok] at hR; clear hv n1; have hF2_8 := hF2_8.intoN (P := P) (lo := w2.heap.size) (x := w6.heap.size) lq17 lq17; obtain ⟨hk8, hs8, hz8⟩ := kc hk7 hq; have hxt_8 := kx hq hxt_7; have hxR_8 := kx hq hxR_7; have hxo_8 := kx hq hxo_7; have hxb_8 := kx hq hxb_7; have hF0_8 := hF0_7.kp hq (hO.mono lq17) lq17; have hF1_8 := hF1_7.kp hq (hO.mono lq17) lq17; unfold ndV
   refine hK.out _ _ (fun _ => ⟨hxt_8, hxo_8⟩) ?_
   clear hK K
   try simp only [Act.put, xA, xB, xC]
   refine zo 6 rfl fun K hK => ?_
   go_simp
   have hro := row_made (P := P) (lo := w2.heap.size) (x := w6.heap.size) (X := X) w8 [⟨T0, A0, c0, K0, d0⟩, ⟨T1, A1, c1, K1, d1⟩, ⟨T2, A2, c2, K2, d2⟩] #[.int .i64 T0.kind, .int .i64 T0.pos, .string T0.text, .bool T0.neg, .slice A0 T0.mag.length c0, .slice K0 T0.kids.length d0, .int .i64 T1.kind, .int .i64 T1.pos, .string T1.text, .bool T1.neg, .slice A1 T1.mag.length c1, .slice K1 T1.kids.length d1, .int .i64 T2.kind, .int .i64 T2.pos, .string T2.text, .bool T2.neg, .slice A2 T2.mag.length c2, .slice K2 T2.kids.length d2] 3 rfl rfl lq17 lq17 lq16 (hO.mono lq17) (by
    intro q hq; simp only [List.mem_cons, List.not_mem_nil, or_false] at hq
    rcases hq with rfl | rfl | rfl <;> assumption)
   generalize hG : w8.alloc (.cells #[.int .i64 T0.kind, .int .i64 T0.pos, .string T0.text, .bool T0.neg, .slice A0 T0.mag.length c0, .slice K0 T0.kids.length d0, .int .i64 T1.kind, .int .i64 T1.pos, .string T1.text, .bool T1.neg, .slice A1 T1.mag.length c1, .slice K1 T1.kids.length d1, .int .i64 T2.kind, .int .i64 T2.pos, .string T2.text, .bool T2.neg, .slice A2 T2.mag.length c2, .slice K2 T2.kids.length d2] 29) = w9 at *
   obtain ⟨hb9, _, hse9⟩ := nb hG; clear hG; obtain ⟨hk9, hs9, hz9⟩ := kd hk8 hb9; have hP9 := hP8.later hb9; have hxt_9 := kb hb9 hxt_8; have hxR_9 := kb hb9 hxR_8; have hxo_9 := kb hb9 hxo_8; have hxb_9 := kb hb9 hxb_8; have hF0_9 := hF0_8.later hb9 (hO.mono lq17); have hF1_9 := hF1_8.later hb9 (hO.mono lq17); have hF2_9 := hF2_8.later hb9 (hO.mono lq17); have hRq_9 := hro; clear hro
   refine hK.out _ _ (fun _ => ⟨hxt_9, hxo_9⟩) ?_
   clear hK K
   try simp only [Act.put, xA, xB, xC]
   refine zo 7 rfl fun K hK => ?_
   go_simp
   go_at_call 54
   refine (node_okA _ _ _ _ _ _ _).mono ?_
   rintro E w10 ⟨rfl, hq⟩; obtain ⟨hk10, hs10, hz10⟩ := kd hk9 hq; have hP10 := hP9.later hq; have hxt_10 := kb hq hxt_9; have hxR_10 := kb hq hxR_9; have hxo_10 := kb hq hxo_9; have hxb_10 := kb hq hxb_9; have hF0_10 := hF0_9.later hq (hO.mono lq17); have hF1_10 := hF1_9.later hq (hO.mono lq17); have hF2_10 := hF2_9.later hq (hO.mono lq17); have hRq_10 := hRq_9.later hq (hO.mono lq17)
   refine hK.out _ _ (fun _ => ⟨hxt_10, hxo_10⟩) ?_
   clear hK K
   try simp only [Act.put, xA, xB, xC]
   obtain ⟨k0, k1, k2, k3, k4, k5⟩ := bx_cells hxb_10; have z := Lib.frozen_of_heap hxb_10
   refine zo 9 rfl fun K hK => ?_
   go_simp
   refine hK.out _ _ (fun h => absurd rfl h) ?_
   clear hK K k0 k1 k2 k3 k4 k5 z
   try simp only [Act.put, xA, xB, xC]
   refine anyZ_end lq15 ?_ _
   have hQ := bx_put hxb_10 (u0 := .int .i64 kind) (u1 := .int .i64 at_) (u2 := .string ⟨#[]⟩) (u3 := .bool false) (u4 := .slice none 0 0) (u5 := .slice (some ⟨w8.heap.size, 0, none⟩) 3 3); have hR2 := (bx_off (w := w10) (b := w6.heap.size) (u0 := .int .i64 kind) (u1 := .int .i64 at_) (u2 := .string ⟨#[]⟩) (u3 := .bool false) (u4 := .slice none 0 0) (u5 := .slice (some ⟨w8.heap.size, 0, none⟩) 3 3) lq17).trans hxR_10
   have hRw := hRq_10.put6 (b := w6.heap.size) (u0 := .int .i64 kind) (u1 := .int .i64 at_) (u2 := .string ⟨#[]⟩) (u3 := .bool false) (u4 := .slice none 0 0) (u5 := .slice (some ⟨w8.heap.size, 0, none⟩) 3 3) (.inl rfl) (fun h => by have := (hO _ h).2; omega); have hkw := bx_kp hk10 (b := w6.heap.size) (u0 := .int .i64 kind) (u1 := .int .i64 at_) (u2 := .string ⟨#[]⟩) (u3 := .bool false) (u4 := .slice none 0 0) (u5 := .slice (some ⟨w8.heap.size, 0, none⟩) 3 3) lq17
   have hPw := hP10.blocks (fun k hk => bx_off (w := w10) (b := w6.heap.size) (u0 := .int .i64 kind) (u1 := .int .i64 at_) (u2 := .string ⟨#[]⟩) (u3 := .bool false) (u4 := .slice none 0 0) (u5 := .slice (some ⟨w8.heap.size, 0, none⟩) 3 3) lq17); have hsF := bx_size (w := w10) (b := w6.heap.size) (u0 := .int .i64 kind) (u1 := .int .i64 at_) (u2 := .string ⟨#[]⟩) (u3 := .bool false) (u4 := .slice none 0 0) (u5 := .slice (some ⟨w8.heap.size, 0, none⟩) 3 3); have HE := Lh (show _ ∧ _ ∧ _ ∧ _ ∧ _ ∧ _ from ⟨hPw, hQ, hR2, hRw, hkw, hsF⟩)
   clear hPw hQ hR2 hRw hkw hsF hxt_10 hxR_10 hxo_10 hxb_10 hF0_10 hF1_10 hF2_10 hRq_10 hP10 hk10; go_wp2_with fail
   go_meet
   case rel => exact ⟨w6.heap.size, w8.heap.size, T2, l2, 3, rfl, Lh ⟨HE.out.1, HE.out.2.1, HE.out.2.2.1, HE.out.2.2.2.1, HE.out.2.2.2.2.1, hR, by omega, Nat.lt_of_lt_of_le (show w6.heap.size < w10.heap.size by omega) (Nat.le_of_eq HE.out.2.2.2.2.2.symm)⟩⟩
 case rest =>
  obtain ⟨bn, g, T2, l2, cap, rfl, hH⟩ := hcut; obtain ⟨hPc, hxc, hxRc, hRc, hkc, hRr, hbn, hbw⟩ := hH.out; clear hH; have hlnc := hPc.ln; go_wp2_with fail
  go_loopg [] D (fun k wr => ∃ (ks : List Nd) (l' : List Tok) (A : Option Addr) (c : Nat), Hid (Pz e wr X l' ∧ wr.heap[bn]? = some (.cells #[.int .i64 kind, .int .i64 at_, .string ⟨#[]⟩, .bool false, .slice none 0 0, .slice A ks.length c] 29) ∧ wr.heap[(w.heap.size + 1)]? = some (.cells #[.int .i64 0, .int .i64 0, .string ⟨#[]⟩, .bool false, .slice none 0 0, .slice none 0 0] 29) ∧ RowS P w2.heap.size bn wr A c ks ∧ Kp w.heap.size X w wr ∧ (Pp nB gB nO e k).qcompL ks l' = R ∧ ks.length + l'.length ≤ 1000010 ∧ k ≤ D ∧ bn < wr.heap.size))
  case atStart => exact ⟨[T0, T1, T2], l2, some ⟨g, 0, none⟩, 3, Lh ⟨hPc, hxc, hxRc, hRc, hkc, hRr, by simp only [length_cons, length_nil]; omega, Nat.le_refl _, hbw⟩⟩
  case round =>
   obtain ⟨ks, l0, A9, c9, hH⟩ := hrel; obtain ⟨hP20, hxb_20, hxR_20, hR0_20, hk20, hRk, hN, hgk, hbr⟩ := hH.out; clear hH hPc hxc hxRc hRc hkc hRr
   cases gk with
   | zero => exact absurd hRk.symm hne
   | succ gk =>
    have hR : s_compL e (Pp nB gB nO e gk) ks l0 = R := hRk; clear hRk; unfold s_compL at hR; have HA := HAs.out gk lq17; have hz20 := hk20.size; have hEF := ef_all nB gB nO e gk; have hneX : (Value.slice A9 ks.length c9).ownBlock ≠ some bn := by obtain ⟨_, _, h, _⟩ := hR0_20; exact h
    go_wp2_with fail
    go_at_call 98
    refine (takeW_ok hD hC.w_if hP20).mono ?_
    rintro E w21 hE
    rcases hE with ⟨hv, rfl, hP21, hq⟩ | ⟨hv, rfl, hP21, hq⟩
    ·simp only [hv, if_true, yO, yA] at hR; obtain ⟨hk21, hs21, hz21⟩ := kc hk20 hq; have hxR_21 := kx hq hxR_20; have hxb_21 := kx hq hxb_20; have hR0_21 := hR0_20.kp hq (hO.mono lq17) lq17; have n1 := Rs.ne_of hR hne
     go_upto_region 6 with fail
     refine region_anyZ (fun W => W.heap[bn]? = some (.cells #[.int .i64 kind, .int .i64 at_, .string ⟨#[]⟩, .bool false, .slice none 0 0, .slice A9 ks.length c9] 29)) 7 lq15 ?_
     refine zt 0 (.pointer (some ⟨bn, 5, none⟩)) rfl (Or.inl ⟨by rfl, ?_⟩) hxb_21 ?_
     ·exact lv56
     try simp only [Act.put, xA, xB, xC]
     refine zt 1 (.slice A9 ks.length c9) rfl (Or.inl ⟨by rfl, ?_⟩) hxb_21 ?_
     ·exact lv56
     try simp only [Act.put, xA, xB, xC]
     refine zt 2 (.pointer (some ⟨X, 0, none⟩)) rfl (Or.inl ⟨by rfl, ?_⟩) hxb_21 ?_
     ·exact lv56
     try simp only [Act.put, xA, xB, xC]
     have hlt := hR0_21.lt
     refine zo 3 rfl fun K hK => ?_
     go_simp
     go_at_call 179
     refine (HA.por X _ _ (hP21.later (bl_drew (Below.refl _ _))) n1).mono ?_
     rintro E w22 hE
     rcases hE with ⟨cc, aa, hv, rfl, hq⟩ | ⟨T5, l5, A5, c5, K5, d5, hv, rfl, hP22, hF1, hq⟩
     ·rw [hv] at hR; exact ⟨rfl, retBadK (hk21.call (Nat.le_refl _) (kp_undrew hq)) hR.symm⟩
     rw [hv] at hR; simp only [yO, yA] at hR; have hle := hEF.eor _ _ _ hv; clear hv n1; have hq := kp_undrew hq; have hdr22 : w21.drew.heap.size = w21.heap.size := rfl; have hA := hF1.away (P := P) (lo := w2.heap.size) (x := bn) (own := (Value.slice A9 ks.length c9).ownBlock) (fun _ h => h.elim) lq17 lq17 (fun g e => (hlt g e).2); clear hF1 hlt; obtain ⟨hk22, _, _⟩ := kc hk21 hq; have hxR_22 := kx hq hxR_21; have hxb_22 := kx hq hxb_21; have hR0_22 := hR0_21.kp hq (hO.mono lq17) lq17; unfold ndV
     refine hK.out _ _ (fun _ => hxb_22) ?_
     clear hK K
     try simp only [Act.put, xA, xB, xC]
     refine zo 4 rfl fun K hK => ?_
     go_simp
     have hb23 := (Below.refl w22.heap.size w22).alloc (Nat.le_refl _) (.cells #[.int .i64 T5.kind, .int .i64 T5.pos, .string T5.text, .bool T5.neg, .slice A5 T5.mag.length c5, .slice K5 T5.kids.length d5] 29); have hbq := heap_alloc_new w22 (.cells #[.int .i64 T5.kind, .int .i64 T5.pos, .string T5.text, .bool T5.neg, .slice A5 T5.mag.length c5, .slice K5 T5.kids.length d5] 29); have hse23 : w22.heap.size + 1 ≤ (w22.alloc (.cells #[.int .i64 T5.kind, .int .i64 T5.pos, .string T5.text, .bool T5.neg, .slice A5 T5.mag.length c5, .slice K5 T5.kids.length d5] 29)).heap.size := by simp
     have hA := hA.laterA hb23 (hO.mono lq17)
     generalize w22.alloc (oN T5 A5 c5 K5 d5) = w23 at *
     obtain ⟨hk23, _, _⟩ := kd hk22 hb23; have hP23 := hP22.later hb23; have hxR_23 := kb hb23 hxR_22; have hxb_23 := kb hb23 hxb_22; have hR0_23 := hR0_22.later hb23 (hO.mono lq17)
     refine hK.out _ _ (fun _ => hxb_23) ?_
     clear hK K
     try simp only [Act.put, xA, xB, xC]
     refine zo 5 rfl fun K hK => ?_
     refine step_append_row rfl _ _ rfl hR0_23 rfl hA w22.heap.size rfl hbq lq17 lq17 lq17 (hO.mono lq17) ?_
     intro g24 cap24 w24 hRn hq hgl hgr; have hk24 := hk23.trans ((Kp.of_below hq X).mono lq17); have hs24 := hq.size; have hz24 := hk24.size; have hP24 := hP23.blocks (fun k hk => hq.5 k lq17); have hxR_24 := kb hq hxR_23; have hxb_24 := (hgr.block bn lq17 (fun e2 => hneX e2.symm)).trans hxb_23; have hR0_24 := hRn; clear hRn hA hbq hgr hxR_23 hxb_23 hR0_23 hP23
     refine hK.out _ _ (fun _ => hxb_24) ?_
     clear hK K
     try simp only [Act.put, xA, xB, xC]
     refine zt 6 (.pointer (some ⟨bn, 5, none⟩)) rfl (Or.inl ⟨by rfl, ?_⟩) hxb_24 ?_
     ·exact lv56
     try simp only [Act.put, xA, xB, xC]
     obtain ⟨k0, k1, k2, k3, k4, k5⟩ := bx_cells hxb_24; have z := Lib.frozen_of_heap hxb_24
     refine zo 7 rfl fun K hK => ?_
     go_simp
     refine hK.out _ _ (fun h => absurd rfl h) ?_
     clear hK K k0 k1 k2 k3 k4 k5 z
     try simp only [Act.put, xA, xB, xC]
     refine anyZ_end lq15 ?_ _
     have hxb_25 := bx_put5 hxb_24 (u := .slice (some ⟨g24, 0, none⟩) (ks.length + 1) cap24); have hxR_25 := (bx_off1 (b := bn) (i := 5) (u := .slice (some ⟨g24, 0, none⟩) (ks.length + 1) cap24) lq17).trans hxR_24; have hR0_25 := hR0_24.put1 (b := bn) (i := 5) (u := .slice (some ⟨g24, 0, none⟩) (ks.length + 1) cap24) lq17 (fun h => by have := (hO _ h).2; omega); have hk25 := hk24.set bn 5 (.slice (some ⟨g24, 0, none⟩) (ks.length + 1) cap24) (.inl lq17); have hP25 := hP24.blocks (fun k hk => bx_off1 (b := bn) (i := 5) (u := .slice (some ⟨g24, 0, none⟩) (ks.length + 1) cap24) lq17)
     have hs25 : w24.heap.size ≤ (w24.setCell ⟨bn, 5, none⟩ (.slice (some ⟨g24, 0, none⟩) (ks.length + 1) cap24)).heap.size := by simp [World.setCell]
     have hz25 := hk25.size
     generalize w24.setCell ⟨bn, 5, none⟩ (.slice (some ⟨g24, 0, none⟩) (ks.length + 1) cap24) = w25 at *
     have HE := Lh (show _ ∧ _ ∧ _ ∧ _ ∧ _ from ⟨hP25, hxb_25, hxR_25, hR0_25, hk25⟩); clear hxR_25 hxb_25 hR0_25 hP25 hk25; go_wp2_with fail
     go_roundg gk
     case measure => omega
     case rel => exact ⟨ks ++ [T5], l5, (some ⟨g24, 0, none⟩), cap24, Lh ⟨HE.out.1, by rw [show (ks ++ [T5]).length = ks.length + 1 by simp]; exact HE.out.2.1, HE.out.2.2.1, HE.out.2.2.2.1, HE.out.2.2.2.2, hR, by have := tlWf ‹isW e _ l0 = true›; simp only [length_append, length_cons, length_nil]; omega, by omega, by omega⟩⟩
    ·simp only [hv, yF, if_false, yO, yA] at hR; obtain ⟨hk21, hs21, hz21⟩ := kc hk20 hq; have hxR_21 := kx hq hxR_20; have hxb_21 := kx hq hxb_20; have hR0_21 := hR0_20.kp hq (hO.mono lq17) lq17; have hFz_21 := hR0_21.node (k := kind) (p := at_) (t := ⟨#[]⟩) hki hat lq16 false; have HE := Lh (show _ ∧ _ ∧ _ from ⟨hk21, hP21, hFz_21⟩); obtain ⟨k0, k1, k2, k3, k4, k5⟩ := bx_cells hxR_21; have z := Lib.frozen_of_heap hxR_21; obtain ⟨mn0, mn1, mn2, mn3, mn4, mn5⟩ := bx_cells hxb_21
     obtain ⟨r0, r1, r2, r3, r4, r5⟩ := bp hxR_21 (.int .i64 kind) (.int .i64 at_) (.string ⟨#[]⟩) (.bool false) (.slice none 0 0) (.slice A9 ks.length c9); clear hxR_21 hxb_21 hFz_21 hR0_21 hk21 hP21; go_wp2_with fail
     refine bodyPost_ret (v := .agg #[.int .i64 kind, .int .i64 at_, .string ⟨#[]⟩, .bool false, .slice none 0 0, .slice A9 ks.length c9]) (by simp [results, Tryz.results318, go_sem, r0, r1, r2, r3, r4, r5, ndV]) rfl ?_
     exact RetK.of (ret6 HE.out.1 HE.out.2.1 HE.out.2.2 lq17 lq17 hXl hO rfl) hR.symm
end
end
end Go.Proofs.YtjndbcnmmnkilaaGreatDoor
