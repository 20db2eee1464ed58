/- Joined by a program: Pe8. -/
import Derived.Test.YtjndbcnmmnkilaaGreatDoorPF08
namespace Go.Proofs.YtjndbcnmmnkilaaGreatDoor
set_option linter.unusedVariables false
set_option linter.unusedSimpArgs false
set_option maxRecDepth 1000000
set_option maxHeartbeats 16000000
section
open Go.RowKit
open List (length_append length_cons length_nil length_singleton)
section
variable {wB nB gB : ByteArray → Bool} {nO : ByteArray → Option (List Int)} {e : Int} {p : Ps}
theorem eq_of_beqB {a b : ByteArray} (h : (a == b) = true) : a = b := by
 rw [← bytes_beq, beq_iff_eq, ByteArray.toList_eq, ByteArray.toList_eq] at h
 cases a; cases b
 simp only [ByteArray.mk.injEq]
 exact Array.toList_inj.1 h
def cmpOp (e : Int) (l : List Tok) : Rs ByteArray :=
 if [⟨#[61, 61]⟩, ⟨#[33, 61]⟩, ⟨#[60]⟩, ⟨#[60, 61]⟩, ⟨#[62]⟩, ⟨#[62, 61]⟩].any (fun s => isS e s l) || isW e ⟨#[105, 110]⟩ l then .ok (hd e l).text l.tail else if isW e ⟨#[110, 111, 116]⟩ l then (needW e ⟨#[105, 110]⟩ l.tail).bind fun _ r => .ok ⟨#[110, 111, 116, 32, 105, 110]⟩ r else if isW e ⟨#[105, 115]⟩ l then (if isW e ⟨#[110, 111, 116]⟩ l.tail then .ok ⟨#[105, 115, 32, 110, 111, 116]⟩ l.tail.tail else .ok ⟨#[105, 115]⟩ l.tail) else .ok ⟨#[]⟩ l
theorem op_text {e : Int} {l : List Tok} (h : ([⟨#[61, 61]⟩, ⟨#[33, 61]⟩, ⟨#[60]⟩, ⟨#[60, 61]⟩, ⟨#[62]⟩, ⟨#[62, 61]⟩].any (fun s => isS e s l) || isW e ⟨#[105, 110]⟩ l) = true) : (hd e l).text.size ≠ 0 := by
 simp only [List.any_cons, List.any_nil, Bool.or_false, isS, isW, Bool.or_eq_true, Bool.and_eq_true] at h
 rcases h with (h | h | h | h | h | h) | h <;> (rw [eq_of_beqB h.2]; decide)
theorem compare_op (e : Int) (p : Ps) (l : List Tok) : s_compare e p l = (p.qrow 4 l).bind fun n l => (cmpOp e l).bind fun op r => if op.size = 0 then .ok n r else (p.qrow 4 r).bind fun x q => .ok (Nd.mk 48 n.pos op false [] [n, x]) q := by
 unfold s_compare
 congr 1
 funext n l
 unfold cmpOp
 split
 ·rename_i h
  rw [Rs.bind_ok, if_neg (op_text h)]
 ·split
  ·rw [Rs.bind_assoc]; congr 1
  ·split
   ·split
    ·rfl
    ·rfl
   ·rfl
def RetS (e : Int) (X : Nat) (w : World) (R : Rs ByteArray) (E : Ending) (w' : World) : Prop :=
 (∃ c a, R = .bad c a ∧ E = .panicked [{ v := stopP c a, recovered := false }] ∧ Kp w.heap.size X w w') ∨
 ∃ s l, R = .ok s l ∧ E = .returned (.string s) ∧ s.size ≤ 65536 ∧ Pz e w' X l ∧ Kp w.heap.size X w w'
theorem comparing_ok (hD : Deps wB nB gB nO) (hC : Cst wB) (X : Nat) (l : List Tok) (w : World) (hP0 : Pz e w X l) : Calls Tryz.prog 329 #[.pointer (some ⟨X, 0, none⟩)] w (RetS e X w (cmpOp e l)) := by
 obtain ⟨R, hR⟩ : ∃ R, cmpOp e l = R := ⟨_, rfl⟩
 rw [hR]
 unfold cmpOp at hR
 have htx := hP0.hd.2.2
 have hb : [⟨#[61, 61]⟩, ⟨#[33, 61]⟩, ⟨#[60]⟩, ⟨#[60, 61]⟩, ⟨#[62]⟩, ⟨#[62, 61]⟩, ⟨#[105, 110]⟩].any (sameB wB (hd e l)) = ([⟨#[61, 61]⟩, ⟨#[33, 61]⟩, ⟨#[60]⟩, ⟨#[60, 61]⟩, ⟨#[62]⟩, ⟨#[62, 61]⟩].any (fun s => isS e s l) || isW e ⟨#[105, 110]⟩ l) := by simp [sameS hC.s_3d3d, sameS hC.s_213d, sameS hC.s_3c, sameS hC.s_3c3d, sameS hC.s_3e, sameS hC.s_3e3d, sameW hC.w_in, Bool.or_assoc]
 obtain ⟨b, hbb⟩ : ∃ b, ([⟨#[61, 61]⟩, ⟨#[33, 61]⟩, ⟨#[60]⟩, ⟨#[60, 61]⟩, ⟨#[62]⟩, ⟨#[62, 61]⟩].any (fun s => isS e s l) || isW e ⟨#[105, 110]⟩ l) = b := ⟨_, rfl⟩
 rw [hbb] at hb hR
 have hI := Lh (isL_ok hD hP0 [⟨#[61, 61]⟩, ⟨#[33, 61]⟩, ⟨#[60]⟩, ⟨#[60, 61]⟩, ⟨#[62]⟩, ⟨#[62, 61]⟩, ⟨#[105, 110]⟩] #[.string ⟨#[61, 61]⟩, .string ⟨#[33, 61]⟩, .string ⟨#[60]⟩, .string ⟨#[60, 61]⟩, .string ⟨#[62]⟩, .string ⟨#[62, 61]⟩, .string ⟨#[105, 110]⟩] 7 b rfl rfl lq16 hb)
 clear hb hbb
 have hXl := hP0.lt
 have hk0 : Kp w.heap.size X w w := Kp.refl _ _ _
 have hz0 := hk0.size
 go_enter Tryz.func329, Tryz.ntmps329
 go_upto_region 1 with fail
 go_wp2_with fail
 go_at_call 176
 refine hI.out.mono ?_
 rintro E w1 ⟨hE, hP1, hq⟩
 clear hI
 rcases hE with ⟨rfl, rfl⟩ | ⟨rfl, rfl⟩
 ·simp only [if_true] at hR; obtain ⟨hk1, hs1, hz1⟩ := kc hk0 hq; go_wp2_with fail
  go_at_call 177
  refine (pass_ok hP1).mono ?_
  rintro E w2 ⟨rfl, hP2, hq⟩; obtain ⟨hk2, hs2, hz2⟩ := kc hk1 hq; have F1_2 := tfield1 (hd e l).kind (hd e l).text (hd e l).pos; unfold tokA; have HE := Lh (show _ ∧ _ from ⟨hP2, hk2⟩); clear hP2 hk2; go_wp2_with fail; go_ret; exact .inr ⟨(hd e l).text, l.tail, hR.symm, rfl, htx, HE.out.1, HE.out.2⟩
 ·simp only [Bool.false_eq_true, if_false] at hR; obtain ⟨hk1, hs1, hz1⟩ := kc hk0 hq; go_wp2_with fail
  go_at_call 98
  refine (takeW_ok hD hC.w_not hP1).mono ?_
  rintro E w2 hE
  rcases hE with ⟨hv, rfl, hP2, hq⟩ | ⟨hv, rfl, hP2, hq⟩
  ·simp only [hv, if_true, yO, yA] at hR; obtain ⟨hk2, hs2, hz2⟩ := kc hk1 hq; go_wp2_with fail
   go_at_call 103
   refine (needW_ok hD hC.w_in hP2).mono ?_
   rintro E w3 hE
   rcases hE with ⟨hv, rfl, hP3, hq⟩ | ⟨hv, rfl, hq⟩
   rotate_left 1
   ·simp only [needW, hv, Bool.false_eq_true, if_false, Rs.bind_bad] at hR; go_wp2_with fail; exact ⟨rfl, .inl ⟨_, _, hR.symm, rfl, hk2.call (Nat.le_refl _) hq⟩⟩
   simp only [needW, hv, if_true, Rs.bind_ok, Rs.bind_assoc] at hR; obtain ⟨hk3, hs3, hz3⟩ := kc hk2 hq; have HE := Lh (show _ ∧ _ from ⟨hP3, hk3⟩); clear hP3 hk3; go_wp2_with fail; go_ret; exact .inr ⟨⟨#[110, 111, 116, 32, 105, 110]⟩, l.tail.tail, hR.symm, rfl, lq16, HE.out.1, HE.out.2⟩
  ·simp only [hv, yF, if_false, yO, yA] at hR; obtain ⟨hk2, hs2, hz2⟩ := kc hk1 hq; go_wp2_with fail
   go_at_call 98
   refine (takeW_ok hD hC.w_is hP2).mono ?_
   rintro E w3 hE
   rcases hE with ⟨hv, rfl, hP3, hq⟩ | ⟨hv, rfl, hP3, hq⟩
   ·simp only [hv, if_true, yO, yA] at hR; obtain ⟨hk3, hs3, hz3⟩ := kc hk2 hq; go_wp2_with fail
    go_at_call 98
    refine (takeW_ok hD hC.w_not hP3).mono ?_
    rintro E w4 hE
    rcases hE with ⟨hv, rfl, hP4, hq⟩ | ⟨hv, rfl, hP4, hq⟩
    ·simp only [hv, if_true, yO, yA] at hR; obtain ⟨hk4, hs4, hz4⟩ := kc hk3 hq; have HE := Lh (show _ ∧ _ from ⟨hP4, hk4⟩); clear hP4 hk4; go_wp2_with fail; go_ret; exact .inr ⟨⟨#[105, 115, 32, 110, 111, 116]⟩, l.tail.tail, hR.symm, rfl, lq16, HE.out.1, HE.out.2⟩
    ·simp only [hv, yF, if_false, yO, yA] at hR; obtain ⟨hk4, hs4, hz4⟩ := kc hk3 hq; have HE := Lh (show _ ∧ _ from ⟨hP4, hk4⟩); clear hP4 hk4; go_wp2_with fail; go_ret; exact .inr ⟨⟨#[105, 115]⟩, l.tail, hR.symm, rfl, lq16, HE.out.1, HE.out.2⟩
   ·simp only [hv, yF, if_false, yO, yA] at hR; obtain ⟨hk3, hs3, hz3⟩ := kc hk2 hq; have HE := Lh (show _ ∧ _ from ⟨hP3, hk3⟩); clear hP3 hk3; go_wp2_with fail; go_ret; exact .inr ⟨⟨#[]⟩, l, hR.symm, rfl, lq16, HE.out.1, HE.out.2⟩
theorem pCompare_ok (hD : Deps wB nB gB nO) (hC : Cst wB) (HA : PA e p) : CN e 314 (fun l => s_compare e p l) := by
 intro X l w hP0 hne
 obtain ⟨R, hR⟩ : ∃ R, s_compare e p l = R := ⟨_, rfl⟩
 simp only [hR] at hne ⊢
 rw [compare_op] at hR
 have hXl := hP0.lt
 have hk0 : Kp w.heap.size X w w := Kp.refl _ _ _
 have hz0 := hk0.size
 go_enter Tryz.func314, Tryz.ntmps314
 go_upto_region 1 with fail
 generalize hG : w.alloc zN = w1 at *
 obtain ⟨hb1, hxR_1, _⟩ := nb hG
 clear hG
 obtain ⟨hk1, _, _⟩ := kd hk0 hb1
 have hP1 := hP0.later hb1
 have n1 := Rs.ne_of hR hne
 go_wp2_with fail
 go_at_call 328
 refine (HA.pbits X _ _ hP1 n1).mono ?_
 rintro E w2 hE
 rcases hE with ⟨cc, aa, hv, rfl, hq⟩ | ⟨T1, l1, A1, c1, K1, d1, hv, rfl, hP2, hF1_2, hq⟩
 ·exact lv61
 rw [hv] at hR
 simp only [yO, yA] at hR
 clear hv n1
 have hF1_2 := hF1_2.intoN (P := Nn) (lo := w.heap.size + 1) (x := X) lq17 lq17
 obtain ⟨hk2, _, _⟩ := kc hk1 hq
 have hxR_2 := kx hq hxR_1
 unfold ndV
 go_upto_region 2 with fail
 generalize hG : w2.alloc (oN T1 A1 c1 K1 d1) = w3 at *
 obtain ⟨hb3, hxn_3, _⟩ := nb hG
 clear hG
 obtain ⟨hk3, _, _⟩ := kd hk2 hb3
 have hP3 := hP2.later hb3
 have hxR_3 := kb hb3 hxR_2
 have hF1_3 := hF1_2.later hb3 (Old.nn X _)
 go_wp2_with fail
 go_at_call 329
 refine (comparing_ok hD hC X _ _ hP3).mono ?_
 rintro E w4 hE
 rcases hE with ⟨cc, aa, hv, rfl, hq⟩ | ⟨op, l2, hv, rfl, hsz, hP4, hq⟩
 ·exact lv60
 rw [hv] at hR
 simp only [yO, yA] at hR
 clear hv
 obtain ⟨hk4, _, _⟩ := kc hk3 hq
 have hxR_4 := kx hq hxR_3
 have hxn_4 := kx hq hxn_3
 have hF1_4 := hF1_3.kp hq (Old.nn X _) lq17
 have hem : op.toList.isEmpty = decide (op.size = 0) := by rw [ByteArray.toList_eq]; cases op with | mk d => show d.toList.isEmpty = decide (d.size = 0); rw [← Array.length_toList]; cases d.toList <;> simp
 by_cases h0 : op.size = 0
 ·rw [if_pos h0] at hR; rw [dTr h0] at hem; clear h0; have HE := Lh (show _ ∧ _ ∧ _ from ⟨hk4, hP4, hF1_4⟩); obtain ⟨k0, k1, k2, k3, k4, k5⟩ := bx_cells hxR_4; have z := Lib.frozen_of_heap hxR_4; obtain ⟨mn0, mn1, mn2, mn3, mn4, mn5⟩ := bx_cells hxn_4; obtain ⟨r0, r1, r2, r3, r4, r5⟩ := bp hxR_4 (.int .i64 T1.kind) (.int .i64 T1.pos) (.string T1.text) (.bool T1.neg) (.slice A1 T1.mag.length c1) (.slice K1 T1.kids.length d1); clear hxR_4 hxn_4 hF1_4 hk4 hP4; go_wp2_with fail
  refine bodyPost_ret (v := ndV T1 A1 c1 K1 d1) (by simp [results, Tryz.results314, go_sem, r0, r1, r2, r3, r4, r5, ndV]) rfl ?_
  exact lv74
 ·rw [if_neg h0] at hR; rw [dFa h0] at hem; clear h0; have n1 := Rs.ne_of hR hne
  go_upto_region 5 with fail
  refine region_anyZ (fun W => W.heap[w2.heap.size]? = some (.cells #[.int .i64 T1.kind, .int .i64 T1.pos, .string T1.text, .bool T1.neg, .slice A1 T1.mag.length c1, .slice K1 T1.kids.length d1] 29)) 8 lq15 ?_
  refine zt 0 (.pointer (some ⟨w2.heap.size, 1, none⟩)) rfl (Or.inl ⟨by rfl, ?_⟩) hxn_4 ?_
  ·exact lv56
  try simp only [Act.put, xA, xB, xC]
  refine zt 1 (.int .i64 T1.pos) rfl (Or.inl ⟨by rfl, ?_⟩) hxn_4 ?_
  ·exact lv56
  try simp only [Act.put, xA, xB, xC]
  refine zt 2 (.string op) rfl (Or.inl ⟨by rfl, ?_⟩) hxn_4 ?_
  ·exact lv56
  try simp only [Act.put, xA, xB, xC]
  refine zt 3 (.agg #[.int .i64 T1.kind, .int .i64 T1.pos, .string T1.text, .bool T1.neg, .slice A1 T1.mag.length c1, .slice K1 T1.kids.length d1]) rfl (Or.inl ⟨by rfl, ?_⟩) hxn_4 ?_
  ·exact lv56
  try simp only [Act.put, xA, xB, xC]
  refine zt 4 (.pointer (some ⟨X, 0, none⟩)) rfl (Or.inl ⟨by rfl, ?_⟩) hxn_4 ?_
  ·exact lv56
  try simp only [Act.put, xA, xB, xC]
  refine zo 5 rfl fun K hK => ?_
  go_simp
  go_at_call 328
  refine (HA.pbits X _ _ (hP4.later (bl_drew (Below.refl _ _))) n1).mono ?_
  rintro E w5 hE
  rcases hE with ⟨cc, aa, hv, rfl, hq⟩ | ⟨T2, l2, A2, c2, K2, d2, hv, rfl, hP5, hF2_5, hq⟩
  ·rw [hv] at hR; exact ⟨rfl, retBad (hk4.call (Nat.le_refl _) (kp_undrew hq)) hR.symm⟩
  rw [hv] at hR; simp only [yO, yA] at hR; clear hv n1; have hq := kp_undrew hq; have hdr5 : w4.drew.heap.size = w4.heap.size := rfl; have hF2_5 := hF2_5.intoN (P := Nn) (lo := w.heap.size + 1) (x := X) lq17 lq17; obtain ⟨hk5, _, _⟩ := kc hk4 hq; have hxR_5 := kx hq hxR_4; have hxn_5 := kx hq hxn_4; have hF1_5 := hF1_4.kp hq (Old.nn X _) lq17; unfold ndV
  refine hK.out _ _ (fun _ => hxn_5) ?_
  clear hK K
  try simp only [Act.put, xA, xB, xC]
  have hts : op.size ≤ maxLen := by unfold maxLen; omega
  refine zo 6 rfl fun K hK => ?_
  go_simp
  have hro := row_made (P := Nn) (lo := w.heap.size + 1) (x := X) (X := X) w5 [⟨T1, A1, c1, K1, d1⟩, ⟨T2, A2, c2, K2, d2⟩] #[.int .i64 T1.kind, .int .i64 T1.pos, .string T1.text, .bool T1.neg, .slice A1 T1.mag.length c1, .slice K1 T1.kids.length d1, .int .i64 T2.kind, .int .i64 T2.pos, .string T2.text, .bool T2.neg, .slice A2 T2.mag.length c2, .slice K2 T2.kids.length d2] 2 rfl rfl lq17 lq17 lq16 (Old.nn X _) (by
   intro q hq; simp only [List.mem_cons, List.not_mem_nil, or_false] at hq
   rcases hq with rfl | rfl <;> assumption)
  generalize hG : w5.alloc (.cells #[.int .i64 T1.kind, .int .i64 T1.pos, .string T1.text, .bool T1.neg, .slice A1 T1.mag.length c1, .slice K1 T1.kids.length d1, .int .i64 T2.kind, .int .i64 T2.pos, .string T2.text, .bool T2.neg, .slice A2 T2.mag.length c2, .slice K2 T2.kids.length d2] 29) = w6 at *
  obtain ⟨hb6, _, _⟩ := nb hG; clear hG; obtain ⟨hk6, _, _⟩ := kd hk5 hb6; have hP6 := hP5.later hb6; have hxR_6 := kb hb6 hxR_5; have hxn_6 := kb hb6 hxn_5; have hF1_6 := hF1_5.later hb6 (Old.nn X _); have hF2_6 := hF2_5.later hb6 (Old.nn X _)
  refine hK.out _ _ (fun _ => hxn_6) ?_
  clear hK K
  try simp only [Act.put, xA, xB, xC]
  have hFz_6 := hro.node (k := 48) (p := T1.pos) (t := op) ⟨by decide, by decide⟩ hF1_6.now.parts.2.2.2.2.2.2.2.1 hts false; clear hro
  refine zo 7 rfl fun K hK => ?_
  go_simp
  go_at_call 54
  refine (node_okA _ _ _ _ _ _ _).mono ?_
  rintro E w7 ⟨rfl, hq⟩; obtain ⟨hk7, _, _⟩ := kd hk6 hq; have hP7 := hP6.later hq; have hxR_7 := kb hq hxR_6; have hxn_7 := kb hq hxn_6; have hF1_7 := hF1_6.later hq (Old.nn X _); have hF2_7 := hF2_6.later hq (Old.nn X _); have hFz_7 := hFz_6.later hq (Old.nn X _)
  refine hK.out _ _ (fun _ => hxn_7) ?_
  clear hK K
  try simp only [Act.put, xA, xB, xC]
  obtain ⟨k0, k1, k2, k3, k4, k5⟩ := bx_cells hxR_7; have z := Lib.frozen_of_heap hxR_7
  refine zo 8 rfl fun K hK => ?_
  go_simp
  refine hK.out _ _ (fun h => absurd rfl h) ?_
  clear hK K k0 k1 k2 k3 k4 k5 z
  try simp only [Act.put, xA, xB, xC]
  refine anyZ_end lq15 ?_ _
  have HE := Lh (show _ ∧ _ ∧ _ from ⟨hk7, hP7, hFz_7⟩); obtain ⟨r0, r1, r2, r3, r4, r5⟩ := bp hxR_7 (.int .i64 48) (.int .i64 (T1.pos)) (.string op) (.bool false) (.slice none 0 0) (.slice (some ⟨w5.heap.size, 0, none⟩) 2 2); clear hxR_7 hxn_7 hF1_7 hF2_7 hFz_7 hk7 hP7; go_wp2_with fail
  refine bodyPost_ret (v := .agg #[.int .i64 48, .int .i64 (T1.pos), .string op, .bool false, .slice none 0 0, .slice (some ⟨w5.heap.size, 0, none⟩) 2 2]) (by simp [results, Tryz.results314, go_sem, r0, r1, r2, r3, r4, r5, ndV]) rfl ?_
  exact lv74
end
end
end Go.Proofs.YtjndbcnmmnkilaaGreatDoor
