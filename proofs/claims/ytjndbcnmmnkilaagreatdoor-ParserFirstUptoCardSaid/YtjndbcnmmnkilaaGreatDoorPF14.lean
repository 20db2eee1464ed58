/- Joined by a program: Pe6. -/
import Derived.Test.YtjndbcnmmnkilaaGreatDoorPF08
namespace Go.Proofs.YtjndbcnmmnkilaaGreatDoor
set_option linter.unusedVariables false
set_option linter.unusedSimpArgs false
set_option maxRecDepth 1000000
set_option maxHeartbeats 16000000
section
open Go.RowKit
open List (length_append length_cons length_nil length_singleton)
section
variable {wB nB gB : ByteArray → Bool} {nO : ByteArray → Option (List Int)} {e : Int} {p : Ps}
theorem StAt.kp {w w' : World} {b X : Nat} {L : List ByteArray} (h : StAt w (some ⟨b, 0, none⟩) L) {B : Nat} (hk : Kp B X w w') (hb : b < B) (hx : b ≠ X) : StAt w' (some ⟨b, 0, none⟩) L := fun i s hi => by
 obtain ⟨b', off, e, hc⟩ := h i s hi
 injection e with e; injection e with e1 e2
 subst e1 e2
 exact ⟨b, 0, rfl, hk.cell hc hb hx⟩
def LeftEq (e : Int) (kind : Int) (sg : List ByteArray) (ok : ByteArray → List Tok → Bool) (qb : Nat → List Tok → Rs Nd) (L : Nat → Nd → List Tok → Rs Nd) : Prop :=
 (∀ n l, L 0 n l = .oof) ∧ ∀ k n l, L (k + 1) n l = if sg.any (fun s => ok s l) then (qb k l.tail).bind fun x r => L k (Nd.mk kind n.pos (if kind = 49 then (hd e l).text else ⟨#[]⟩) false [] [n, x]) r else .ok n l
theorem leftB_ok (hD : Deps wB nB gB nO) (kind : Int) (sg : List ByteArray) (ok : ByteArray → List Tok → Bool) (qb : Nat → List Tok → Rs Nd) (L : Nat → Nd → List Tok → Rs Nd) (hL : LeftEq e kind sg ok qb L) (hok : ∀ s l, s ∈ sg → sameB wB (hd e l) s = ok s l) (f : FuncId) (D X : Nat) (l : List Tok) (w : World) (hrun : ∀ W, (callFunc f #[.pointer (some ⟨X, 0, none⟩)]).run Tryz.prog W = .ok (.enter f #[.pointer (some ⟨X, 0, none⟩)]) W) (HB : ∀ k, k ≤ D → CN e f (qb k)) (hki : I64 kind) (hkd : kind = 49) (b0 m : Nat) (hS : StAt w (some ⟨b0, 0, none⟩) sg) (hsm : sg.length = m) (hm : m ≤ 1000) (hb0 : b0 < w.heap.size) (hbX : b0 ≠ X) (hP0 : Pz e w X l) (hne : ((qb D l).bind fun n l => L D n l) ≠ .oof) : Calls Tryz.prog 241 #[.pointer (some ⟨X, 0, none⟩), .int .i64 kind, .func (.func f) #[.pointer (some ⟨X, 0, none⟩)] #[], .slice (some ⟨b0, 0, none⟩) m m] w (RetN e X Nn w ((qb D l).bind fun n l => L D n l)) := by
 obtain ⟨R, hR⟩ : ∃ R, ((qb D l).bind fun n l => L D n l) = R := ⟨_, rfl⟩
 simp only [hR] at hne ⊢
 have ek : (kind != 49) = false := by simp [hkd]
 have HS0 := Lh hS
 have HL := Lh hL
 have HK := Lh hki
 have HOK := Lh hok
 have HB0 := Lh HB
 have hkd' := Lh hkd
 clear hS hL hok HB hkd
 obtain ⟨hki1, hki2⟩ := hki
 have hXl := hP0.lt
 have hk0 : Kp w.heap.size X w w := Kp.refl _ _ _
 have hz0 := hk0.size
 go_enter Tryz.func241, Tryz.ntmps241
 go_upto_region 1 with fail
 generalize hG : w.alloc zN = w1 at *
 obtain ⟨hb1, hxR_1, _⟩ := nb hG
 clear hG
 obtain ⟨hk1, _, _⟩ := kd hk0 hb1
 have hP1 := hP0.later hb1
 have n1 := Rs.ne_of hR hne
 go_wp2_with fail
 refine (HB0.out D (Nat.le_refl _) X l w1 hP1 n1).mono ?_
 intro E w2 hE
 rcases hE with ⟨cc, aa, hv, rfl, hq⟩ | ⟨T1, l1, A1, c1, K1, d1, hv, rfl, hP2, hF1_2, hq⟩
 ·exact lv61
 rw [hv] at hR
 simp only [yO, yA] at hR
 clear hv n1
 have hF1_2 := hF1_2.intoN (P := Nn) (lo := w.heap.size + 1) (x := X) lq17 lq17
 obtain ⟨hk2, _, _⟩ := kc hk1 hq
 have hxR_2 := kx hq hxR_1
 unfold ndV
 go_upto_region 2 with fail
 have hF1_2 := hF1_2.setx (x' := w2.heap.size) lq17
 generalize hG : w2.alloc (oN T1 A1 c1 K1 d1) = w3 at *
 obtain ⟨hb3, hxn_3, _⟩ := nb hG
 clear hG
 obtain ⟨hk3, _, _⟩ := kd hk2 hb3
 have hP3 := hP2.later hb3
 have hxR_3 := kb hb3 hxR_2
 have hF1_3 := hF1_2.later hb3 (Old.nn X _)
 go_loopg [] D (fun k wr => ∃ (T : Nd) (l' : List Tok) (A : Option Addr) (c : Nat) (K : Option Addr) (d : Nat), Hid (Pz e wr X l' ∧ wr.heap[w2.heap.size]? = some (.cells #[.int .i64 T.kind, .int .i64 T.pos, .string T.text, .bool T.neg, .slice A T.mag.length c, .slice K T.kids.length d] 29) ∧ wr.heap[w.heap.size]? = some (.cells #[.int .i64 0, .int .i64 0, .string ⟨#[]⟩, .bool false, .slice none 0 0, .slice none 0 0] 29) ∧ St (Pt Nn (w.heap.size + 1) w2.heap.size wr.heap.size) wr T A c K d ∧ Kp w.heap.size X w wr ∧ L k T l' = R ∧ k ≤ D ∧ w2.heap.size < wr.heap.size))
 case atStart => exact ⟨T1, l1, A1, c1, K1, d1, Lh ⟨hP3, hxn_3, hxR_3, hF1_3, hk3, hR, Nat.le_refl _, by omega⟩⟩
 case round =>
  obtain ⟨T2, l2, A2, c2, K2, d2, hH⟩ := hrel; obtain ⟨hP10, hxn_10, hxR_10, hF2_10, hk10, hRk, hgk, hwn⟩ := hH.out; clear hH hP3 hxn_3 hxR_3 hF1_3 hk3 hR
  cases gk with
  | zero => exact absurd (hRk.symm.trans (HL.out.1 _ _)) hne
  | succ gk =>
   have hR := (HL.out.2 gk T2 l2).symm.trans hRk; clear hRk; have hz10 := hk10.size; have hany : sg.any (sameB wB (hd e l2)) = sg.any (fun s => ok s l2) := by rw [Bool.eq_iff_iff, List.any_eq_true, List.any_eq_true]; exact ⟨fun ⟨s, h1, h2⟩ => ⟨s, h1, (HOK.out s l2 h1) ▸ h2⟩, fun ⟨s, h1, h2⟩ => ⟨s, h1, (HOK.out s l2 h1).symm ▸ h2⟩⟩
   have hX2 := hP10.hd; obtain ⟨hXk, hXp, hXt⟩ := hX2; go_wp2_with fail
   go_at_call 176
   refine (is_ok hD hP10 sg m _ hsm hm (HS0.out.kp hk10 hb0 hbX)).mono ?_
   rintro E w11 ⟨hE, hq⟩; rw [hany] at hE
   rcases hb : sg.any (fun s => ok s l2) with _ | _
   rotate_left 1
   ·rw [hb] at hE hR; subst hE; simp only [if_true] at hR; clear hany hb; obtain ⟨hk11, hs11, hz11⟩ := kd hk10 hq; have hP11 := hP10.later hq; have hxR_11 := kb hq hxR_10; have hxn_11 := kb hq hxn_10; have hF2_11 := hF2_10.later hq (Old.nn X _); go_wp2_with fail
    go_at_call 177
    refine (pass_ok hP11).mono ?_
    rintro E w12 ⟨rfl, hP12, hq⟩; obtain ⟨hk12, _, _⟩ := kc hk11 hq; have hxR_12 := kx hq hxR_11; have hxn_12 := kx hq hxn_11; have hF2_12 := hF2_11.kp hq (Old.nn X _) lq17; have F1_12 := tfield1 (hd e l2).kind (hd e l2).text (hd e l2).pos; unfold tokA; have n1 := Rs.ne_of hR hne
    go_upto_region 6 with fail
    refine region_anyZ (fun W => W.heap[w2.heap.size]? = some (.cells #[.int .i64 T2.kind, .int .i64 T2.pos, .string T2.text, .bool T2.neg, .slice A2 T2.mag.length c2, .slice K2 T2.kids.length d2] 29)) 9 lq15 ?_
    simp only [if_pos hkd'.out] at hR
    refine zt 0 (.int .i64 kind) rfl (Or.inl ⟨by rfl, ?_⟩) hxn_12 ?_
    ·exact lv56
    try simp only [Act.put, xA, xB, xC]
    refine zt 1 (.pointer (some ⟨w2.heap.size, 1, none⟩)) rfl (Or.inl ⟨by rfl, ?_⟩) hxn_12 ?_
    ·exact lv56
    try simp only [Act.put, xA, xB, xC]
    refine zt 2 (.int .i64 T2.pos) rfl (Or.inl ⟨by rfl, ?_⟩) hxn_12 ?_
    ·exact lv56
    try simp only [Act.put, xA, xB, xC]
    refine zt 3 (.string (hd e l2).text) rfl (Or.inl ⟨by rfl, ?_⟩) hxn_12 ?_
    ·exact lv56
    try simp only [Act.put, xA, xB, xC]
    refine zt 4 (.agg #[.int .i64 T2.kind, .int .i64 T2.pos, .string T2.text, .bool T2.neg, .slice A2 T2.mag.length c2, .slice K2 T2.kids.length d2]) rfl (Or.inl ⟨by rfl, ?_⟩) hxn_12 ?_
    ·exact lv56
    try simp only [Act.put, xA, xB, xC]
    refine zt 5 (.func (.func f) #[.pointer (some ⟨X, 0, none⟩)] #[]) rfl (Or.inl ⟨by rfl, ?_⟩) hxn_12 ?_
    ·exact lv56
    try simp only [Act.put, xA, xB, xC]
    refine zo 6 rfl fun K hK => ?_
    go_simp
    refine (HB0.out gk lq17 X _ _ (hP12.later (bl_drew (Below.refl _ _))) n1).mono ?_
    intro E w13 hE
    rcases hE with ⟨cc, aa, hv, rfl, hq⟩ | ⟨T3, l3, A3, c3, K3, d3, hv, rfl, hP13, hF3_13, hq⟩
    ·rw [hv] at hR; exact ⟨rfl, retBad (hk12.call (Nat.le_refl _) (kp_undrew hq)) hR.symm⟩
    rw [hv] at hR; simp only [yO, yA] at hR; clear hv n1; have hq := kp_undrew hq; have hdr13 : w12.drew.heap.size = w12.heap.size := rfl; have hF3_13 := hF3_13.intoN (P := Nn) (lo := w.heap.size + 1) (x := w2.heap.size) lq17 lq17; obtain ⟨hk13, _, _⟩ := kc hk12 hq; have hxR_13 := kx hq hxR_12; have hxn_13 := kx hq hxn_12; have hF2_13 := hF2_12.kp hq (Old.nn X _) lq17; unfold ndV
    refine hK.out _ _ (fun _ => hxn_13) ?_
    clear hK K
    try simp only [Act.put, xA, xB, xC]
    have hts : (hd e l2).text.size ≤ maxLen := by unfold maxLen; omega
    refine zo 7 rfl fun K hK => ?_
    go_simp
    have hro := row_made (P := Nn) (lo := w.heap.size + 1) (x := w2.heap.size) (X := X) w13 [⟨T2, A2, c2, K2, d2⟩, ⟨T3, A3, c3, K3, d3⟩] #[.int .i64 T2.kind, .int .i64 T2.pos, .string T2.text, .bool T2.neg, .slice A2 T2.mag.length c2, .slice K2 T2.kids.length d2, .int .i64 T3.kind, .int .i64 T3.pos, .string T3.text, .bool T3.neg, .slice A3 T3.mag.length c3, .slice K3 T3.kids.length d3] 2 rfl rfl lq17 lq17 lq16 (Old.nn X _) (by
     intro q hq; simp only [List.mem_cons, List.not_mem_nil, or_false] at hq
     rcases hq with rfl | rfl <;> assumption)
    generalize hG : w13.alloc (.cells #[.int .i64 T2.kind, .int .i64 T2.pos, .string T2.text, .bool T2.neg, .slice A2 T2.mag.length c2, .slice K2 T2.kids.length d2, .int .i64 T3.kind, .int .i64 T3.pos, .string T3.text, .bool T3.neg, .slice A3 T3.mag.length c3, .slice K3 T3.kids.length d3] 29) = w14 at *
    obtain ⟨hb14, _, _⟩ := nb hG; clear hG; obtain ⟨hk14, _, _⟩ := kd hk13 hb14; have hP14 := hP13.later hb14; have hxR_14 := kb hb14 hxR_13; have hxn_14 := kb hb14 hxn_13; have hF2_14 := hF2_13.later hb14 (Old.nn X _); have hF3_14 := hF3_13.later hb14 (Old.nn X _)
    refine hK.out _ _ (fun _ => hxn_14) ?_
    clear hK K
    try simp only [Act.put, xA, xB, xC]
    have hFz_14 := hro.node (k := kind) (p := T2.pos) (t := (hd e l2).text) HK.out hF2_14.now.parts.2.2.2.2.2.2.2.1 hts false; clear hro
    refine zo 8 rfl fun K hK => ?_
    go_simp
    go_at_call 54
    refine (node_okA _ _ _ _ _ _ _).mono ?_
    rintro E w15 ⟨rfl, hq⟩; obtain ⟨hk15, _, _⟩ := kd hk14 hq; have hP15 := hP14.later hq; have hxR_15 := kb hq hxR_14; have hxn_15 := kb hq hxn_14; have hF2_15 := hF2_14.later hq (Old.nn X _); have hF3_15 := hF3_14.later hq (Old.nn X _); have hFz_15 := hFz_14.later hq (Old.nn X _)
    refine hK.out _ _ (fun _ => hxn_15) ?_
    clear hK K
    try simp only [Act.put, xA, xB, xC]
    obtain ⟨k0, k1, k2, k3, k4, k5⟩ := bx_cells hxn_15; have z := Lib.frozen_of_heap hxn_15
    refine zo 9 rfl fun K hK => ?_
    go_simp
    refine hK.out _ _ (fun h => absurd rfl h) ?_
    clear hK K k0 k1 k2 k3 k4 k5 z
    try simp only [Act.put, xA, xB, xC]
    refine anyZ_end lq15 ?_ _
    have hxR_16 := (bx_off (w := w15) (b := w2.heap.size) (u0 := .int .i64 kind) (u1 := .int .i64 (T2.pos)) (u2 := .string (hd e l2).text) (u3 := .bool false) (u4 := .slice none 0 0) (u5 := .slice (some ⟨w13.heap.size, 0, none⟩) 2 2) lq17).trans hxR_15; have hFz_16 := hFz_15.put6 (b := w2.heap.size) (u0 := .int .i64 kind) (u1 := .int .i64 (T2.pos)) (u2 := .string (hd e l2).text) (u3 := .bool false) (u4 := .slice none 0 0) (u5 := .slice (some ⟨w13.heap.size, 0, none⟩) 2 2) (.inl rfl) (fun h => h.elim)
    have hxn_16 := bx_put hxn_15 (u0 := .int .i64 kind) (u1 := .int .i64 (T2.pos)) (u2 := .string (hd e l2).text) (u3 := .bool false) (u4 := .slice none 0 0) (u5 := .slice (some ⟨w13.heap.size, 0, none⟩) 2 2); have hk16 := bx_kp hk15 (b := w2.heap.size) (u0 := .int .i64 kind) (u1 := .int .i64 (T2.pos)) (u2 := .string (hd e l2).text) (u3 := .bool false) (u4 := .slice none 0 0) (u5 := .slice (some ⟨w13.heap.size, 0, none⟩) 2 2) lq17
    have hP16 := hP15.blocks (fun k hk => bx_off (w := w15) (b := w2.heap.size) (u0 := .int .i64 kind) (u1 := .int .i64 (T2.pos)) (u2 := .string (hd e l2).text) (u3 := .bool false) (u4 := .slice none 0 0) (u5 := .slice (some ⟨w13.heap.size, 0, none⟩) 2 2) lq17); have hsF := bx_size (w := w15) (b := w2.heap.size) (u0 := .int .i64 kind) (u1 := .int .i64 (T2.pos)) (u2 := .string (hd e l2).text) (u3 := .bool false) (u4 := .slice none 0 0) (u5 := .slice (some ⟨w13.heap.size, 0, none⟩) 2 2)
    generalize ((((((w15.setCell ⟨w2.heap.size, 0, none⟩ (.int .i64 kind)).setCell ⟨w2.heap.size, 1, none⟩ (.int .i64 (T2.pos))).setCell ⟨w2.heap.size, 2, none⟩ (.string (hd e l2).text)).setCell ⟨w2.heap.size, 3, none⟩ (.bool false)).setCell ⟨w2.heap.size, 4, none⟩ (.slice none 0 0)).setCell ⟨w2.heap.size, 5, none⟩ (.slice (some ⟨w13.heap.size, 0, none⟩) 2 2)) = w30 at *
    have HE := Lh (show _ ∧ _ ∧ _ ∧ _ ∧ _ ∧ _ from ⟨hP16, hxn_16, hxR_16, hFz_16, hk16, hsF⟩); clear hsF hxR_15 hxn_15 hF2_15 hF3_15 hFz_15 hP15 hk15 hP16 hxn_16 hxR_16 hFz_16 hk16; go_wp2_with fail
    go_roundg gk
    case measure => omega
    case rel => exact ⟨Nd.mk kind T2.pos (hd e l2).text false [] [T2, T3], l3, none, 0, (some ⟨w13.heap.size, 0, none⟩), 2, Lh ⟨HE.out.1, HE.out.2.1, HE.out.2.2.1, HE.out.2.2.2.1, HE.out.2.2.2.2.1, hR, by omega, by have := HE.out.2.2.2.2.2; omega⟩⟩
   ·exact lv12
theorem leftO_ok (hD : Deps wB nB gB nO) (kind : Int) (sg : List ByteArray) (ok : ByteArray → List Tok → Bool) (qb : Nat → List Tok → Rs Nd) (L : Nat → Nd → List Tok → Rs Nd) (hL : LeftEq e kind sg ok qb L) (hok : ∀ s l, s ∈ sg → sameB wB (hd e l) s = ok s l) (f : FuncId) (D X : Nat) (l : List Tok) (w : World) (hrun : ∀ W, (callFunc f #[.pointer (some ⟨X, 0, none⟩)]).run Tryz.prog W = .ok (.enter f #[.pointer (some ⟨X, 0, none⟩)]) W) (HB : ∀ k, k ≤ D → CN e f (qb k)) (hki : I64 kind) (hkd : ¬ kind = 49) (b0 m : Nat) (hS : StAt w (some ⟨b0, 0, none⟩) sg) (hsm : sg.length = m) (hm : m ≤ 1000) (hb0 : b0 < w.heap.size) (hbX : b0 ≠ X) (hP0 : Pz e w X l) (hne : ((qb D l).bind fun n l => L D n l) ≠ .oof) : Calls Tryz.prog 241 #[.pointer (some ⟨X, 0, none⟩), .int .i64 kind, .func (.func f) #[.pointer (some ⟨X, 0, none⟩)] #[], .slice (some ⟨b0, 0, none⟩) m m] w (RetN e X Nn w ((qb D l).bind fun n l => L D n l)) := by
 obtain ⟨R, hR⟩ : ∃ R, ((qb D l).bind fun n l => L D n l) = R := ⟨_, rfl⟩
 simp only [hR] at hne ⊢
 have ek : (kind != 49) = true := by simp [hkd]
 have HS0 := Lh hS
 have HL := Lh hL
 have HK := Lh hki
 have HOK := Lh hok
 have HB0 := Lh HB
 have hkd' := Lh hkd
 clear hS hL hok HB hkd
 obtain ⟨hki1, hki2⟩ := hki
 have hXl := hP0.lt
 have hk0 : Kp w.heap.size X w w := Kp.refl _ _ _
 have hz0 := hk0.size
 go_enter Tryz.func241, Tryz.ntmps241
 go_upto_region 1 with fail
 generalize hG : w.alloc zN = w1 at *
 obtain ⟨hb1, hxR_1, _⟩ := nb hG
 clear hG
 obtain ⟨hk1, _, _⟩ := kd hk0 hb1
 have hP1 := hP0.later hb1
 have n1 := Rs.ne_of hR hne
 go_wp2_with fail
 refine (HB0.out D (Nat.le_refl _) X l w1 hP1 n1).mono ?_
 intro E w2 hE
 rcases hE with ⟨cc, aa, hv, rfl, hq⟩ | ⟨T1, l1, A1, c1, K1, d1, hv, rfl, hP2, hF1_2, hq⟩
 ·exact lv61
 rw [hv] at hR
 simp only [yO, yA] at hR
 clear hv n1
 have hF1_2 := hF1_2.intoN (P := Nn) (lo := w.heap.size + 1) (x := X) lq17 lq17
 obtain ⟨hk2, _, _⟩ := kc hk1 hq
 have hxR_2 := kx hq hxR_1
 unfold ndV
 go_upto_region 2 with fail
 have hF1_2 := hF1_2.setx (x' := w2.heap.size) lq17
 generalize hG : w2.alloc (oN T1 A1 c1 K1 d1) = w3 at *
 obtain ⟨hb3, hxn_3, _⟩ := nb hG
 clear hG
 obtain ⟨hk3, _, _⟩ := kd hk2 hb3
 have hP3 := hP2.later hb3
 have hxR_3 := kb hb3 hxR_2
 have hF1_3 := hF1_2.later hb3 (Old.nn X _)
 go_loopg [] D (fun k wr => ∃ (T : Nd) (l' : List Tok) (A : Option Addr) (c : Nat) (K : Option Addr) (d : Nat), Hid (Pz e wr X l' ∧ wr.heap[w2.heap.size]? = some (.cells #[.int .i64 T.kind, .int .i64 T.pos, .string T.text, .bool T.neg, .slice A T.mag.length c, .slice K T.kids.length d] 29) ∧ wr.heap[w.heap.size]? = some (.cells #[.int .i64 0, .int .i64 0, .string ⟨#[]⟩, .bool false, .slice none 0 0, .slice none 0 0] 29) ∧ St (Pt Nn (w.heap.size + 1) w2.heap.size wr.heap.size) wr T A c K d ∧ Kp w.heap.size X w wr ∧ L k T l' = R ∧ k ≤ D ∧ w2.heap.size < wr.heap.size))
 case atStart => exact ⟨T1, l1, A1, c1, K1, d1, Lh ⟨hP3, hxn_3, hxR_3, hF1_3, hk3, hR, Nat.le_refl _, by omega⟩⟩
 case round =>
  obtain ⟨T2, l2, A2, c2, K2, d2, hH⟩ := hrel; obtain ⟨hP10, hxn_10, hxR_10, hF2_10, hk10, hRk, hgk, hwn⟩ := hH.out; clear hH hP3 hxn_3 hxR_3 hF1_3 hk3 hR
  cases gk with
  | zero => exact absurd (hRk.symm.trans (HL.out.1 _ _)) hne
  | succ gk =>
   have hR := (HL.out.2 gk T2 l2).symm.trans hRk; clear hRk; have hz10 := hk10.size; have hany : sg.any (sameB wB (hd e l2)) = sg.any (fun s => ok s l2) := by rw [Bool.eq_iff_iff, List.any_eq_true, List.any_eq_true]; exact ⟨fun ⟨s, h1, h2⟩ => ⟨s, h1, (HOK.out s l2 h1) ▸ h2⟩, fun ⟨s, h1, h2⟩ => ⟨s, h1, (HOK.out s l2 h1).symm ▸ h2⟩⟩
   have hX2 := hP10.hd; obtain ⟨hXk, hXp, hXt⟩ := hX2; go_wp2_with fail
   go_at_call 176
   refine (is_ok hD hP10 sg m _ hsm hm (HS0.out.kp hk10 hb0 hbX)).mono ?_
   rintro E w11 ⟨hE, hq⟩; rw [hany] at hE
   rcases hb : sg.any (fun s => ok s l2) with _ | _
   rotate_left 1
   ·rw [hb] at hE hR; subst hE; simp only [if_true] at hR; clear hany hb; obtain ⟨hk11, hs11, hz11⟩ := kd hk10 hq; have hP11 := hP10.later hq; have hxR_11 := kb hq hxR_10; have hxn_11 := kb hq hxn_10; have hF2_11 := hF2_10.later hq (Old.nn X _); go_wp2_with fail
    go_at_call 177
    refine (pass_ok hP11).mono ?_
    rintro E w12 ⟨rfl, hP12, hq⟩; obtain ⟨hk12, _, _⟩ := kc hk11 hq; have hxR_12 := kx hq hxR_11; have hxn_12 := kx hq hxn_11; have hF2_12 := hF2_11.kp hq (Old.nn X _) lq17; have F1_12 := tfield1 (hd e l2).kind (hd e l2).text (hd e l2).pos; unfold tokA; have n1 := Rs.ne_of hR hne
    go_upto_region 6 with fail
    refine region_anyZ (fun W => W.heap[w2.heap.size]? = some (.cells #[.int .i64 T2.kind, .int .i64 T2.pos, .string T2.text, .bool T2.neg, .slice A2 T2.mag.length c2, .slice K2 T2.kids.length d2] 29)) 9 lq15 ?_
    simp only [if_neg hkd'.out] at hR
    refine zt 0 (.int .i64 kind) rfl (Or.inl ⟨by rfl, ?_⟩) hxn_12 ?_
    ·exact lv56
    try simp only [Act.put, xA, xB, xC]
    refine zt 1 (.pointer (some ⟨w2.heap.size, 1, none⟩)) rfl (Or.inl ⟨by rfl, ?_⟩) hxn_12 ?_
    ·exact lv56
    try simp only [Act.put, xA, xB, xC]
    refine zt 2 (.int .i64 T2.pos) rfl (Or.inl ⟨by rfl, ?_⟩) hxn_12 ?_
    ·exact lv56
    try simp only [Act.put, xA, xB, xC]
    refine zt 3 (.string ⟨#[]⟩) rfl (Or.inl ⟨by rfl, ?_⟩) hxn_12 ?_
    ·exact lv56
    try simp only [Act.put, xA, xB, xC]
    refine zt 4 (.agg #[.int .i64 T2.kind, .int .i64 T2.pos, .string T2.text, .bool T2.neg, .slice A2 T2.mag.length c2, .slice K2 T2.kids.length d2]) rfl (Or.inl ⟨by rfl, ?_⟩) hxn_12 ?_
    ·exact lv56
    try simp only [Act.put, xA, xB, xC]
    refine zt 5 (.func (.func f) #[.pointer (some ⟨X, 0, none⟩)] #[]) rfl (Or.inl ⟨by rfl, ?_⟩) hxn_12 ?_
    ·exact lv56
    try simp only [Act.put, xA, xB, xC]
    refine zo 6 rfl fun K hK => ?_
    go_simp
    refine (HB0.out gk lq17 X _ _ (hP12.later (bl_drew (Below.refl _ _))) n1).mono ?_
    intro E w13 hE
    rcases hE with ⟨cc, aa, hv, rfl, hq⟩ | ⟨T3, l3, A3, c3, K3, d3, hv, rfl, hP13, hF3_13, hq⟩
    ·rw [hv] at hR; exact ⟨rfl, retBad (hk12.call (Nat.le_refl _) (kp_undrew hq)) hR.symm⟩
    rw [hv] at hR; simp only [yO, yA] at hR; clear hv n1; have hq := kp_undrew hq; have hdr13 : w12.drew.heap.size = w12.heap.size := rfl; have hF3_13 := hF3_13.intoN (P := Nn) (lo := w.heap.size + 1) (x := w2.heap.size) lq17 lq17; obtain ⟨hk13, _, _⟩ := kc hk12 hq; have hxR_13 := kx hq hxR_12; have hxn_13 := kx hq hxn_12; have hF2_13 := hF2_12.kp hq (Old.nn X _) lq17; unfold ndV
    refine hK.out _ _ (fun _ => hxn_13) ?_
    clear hK K
    try simp only [Act.put, xA, xB, xC]
    have hts := hXt
    refine zo 7 rfl fun K hK => ?_
    go_simp
    have hro := row_made (P := Nn) (lo := w.heap.size + 1) (x := w2.heap.size) (X := X) w13 [⟨T2, A2, c2, K2, d2⟩, ⟨T3, A3, c3, K3, d3⟩] #[.int .i64 T2.kind, .int .i64 T2.pos, .string T2.text, .bool T2.neg, .slice A2 T2.mag.length c2, .slice K2 T2.kids.length d2, .int .i64 T3.kind, .int .i64 T3.pos, .string T3.text, .bool T3.neg, .slice A3 T3.mag.length c3, .slice K3 T3.kids.length d3] 2 rfl rfl lq17 lq17 lq16 (Old.nn X _) (by
     intro q hq; simp only [List.mem_cons, List.not_mem_nil, or_false] at hq
     rcases hq with rfl | rfl <;> assumption)
    generalize hG : w13.alloc (.cells #[.int .i64 T2.kind, .int .i64 T2.pos, .string T2.text, .bool T2.neg, .slice A2 T2.mag.length c2, .slice K2 T2.kids.length d2, .int .i64 T3.kind, .int .i64 T3.pos, .string T3.text, .bool T3.neg, .slice A3 T3.mag.length c3, .slice K3 T3.kids.length d3] 29) = w14 at *
    obtain ⟨hb14, _, _⟩ := nb hG; clear hG; obtain ⟨hk14, _, _⟩ := kd hk13 hb14; have hP14 := hP13.later hb14; have hxR_14 := kb hb14 hxR_13; have hxn_14 := kb hb14 hxn_13; have hF2_14 := hF2_13.later hb14 (Old.nn X _); have hF3_14 := hF3_13.later hb14 (Old.nn X _)
    refine hK.out _ _ (fun _ => hxn_14) ?_
    clear hK K
    try simp only [Act.put, xA, xB, xC]
    have hFz_14 := hro.node (k := kind) (p := T2.pos) (t := ⟨#[]⟩) HK.out hF2_14.now.parts.2.2.2.2.2.2.2.1 lq16 false; clear hro
    refine zo 8 rfl fun K hK => ?_
    go_simp
    go_at_call 54
    refine (node_okA _ _ _ _ _ _ _).mono ?_
    rintro E w15 ⟨rfl, hq⟩; obtain ⟨hk15, _, _⟩ := kd hk14 hq; have hP15 := hP14.later hq; have hxR_15 := kb hq hxR_14; have hxn_15 := kb hq hxn_14; have hF2_15 := hF2_14.later hq (Old.nn X _); have hF3_15 := hF3_14.later hq (Old.nn X _); have hFz_15 := hFz_14.later hq (Old.nn X _)
    refine hK.out _ _ (fun _ => hxn_15) ?_
    clear hK K
    try simp only [Act.put, xA, xB, xC]
    obtain ⟨k0, k1, k2, k3, k4, k5⟩ := bx_cells hxn_15; have z := Lib.frozen_of_heap hxn_15
    refine zo 9 rfl fun K hK => ?_
    go_simp
    refine hK.out _ _ (fun h => absurd rfl h) ?_
    clear hK K k0 k1 k2 k3 k4 k5 z
    try simp only [Act.put, xA, xB, xC]
    refine anyZ_end lq15 ?_ _
    have hxR_16 := (bx_off (w := w15) (b := w2.heap.size) (u0 := .int .i64 kind) (u1 := .int .i64 (T2.pos)) (u2 := .string ⟨#[]⟩) (u3 := .bool false) (u4 := .slice none 0 0) (u5 := .slice (some ⟨w13.heap.size, 0, none⟩) 2 2) lq17).trans hxR_15; have hFz_16 := hFz_15.put6 (b := w2.heap.size) (u0 := .int .i64 kind) (u1 := .int .i64 (T2.pos)) (u2 := .string ⟨#[]⟩) (u3 := .bool false) (u4 := .slice none 0 0) (u5 := .slice (some ⟨w13.heap.size, 0, none⟩) 2 2) (.inl rfl) (fun h => h.elim)
    have hxn_16 := bx_put hxn_15 (u0 := .int .i64 kind) (u1 := .int .i64 (T2.pos)) (u2 := .string ⟨#[]⟩) (u3 := .bool false) (u4 := .slice none 0 0) (u5 := .slice (some ⟨w13.heap.size, 0, none⟩) 2 2); have hk16 := bx_kp hk15 (b := w2.heap.size) (u0 := .int .i64 kind) (u1 := .int .i64 (T2.pos)) (u2 := .string ⟨#[]⟩) (u3 := .bool false) (u4 := .slice none 0 0) (u5 := .slice (some ⟨w13.heap.size, 0, none⟩) 2 2) lq17
    have hP16 := hP15.blocks (fun k hk => bx_off (w := w15) (b := w2.heap.size) (u0 := .int .i64 kind) (u1 := .int .i64 (T2.pos)) (u2 := .string ⟨#[]⟩) (u3 := .bool false) (u4 := .slice none 0 0) (u5 := .slice (some ⟨w13.heap.size, 0, none⟩) 2 2) lq17); have hsF := bx_size (w := w15) (b := w2.heap.size) (u0 := .int .i64 kind) (u1 := .int .i64 (T2.pos)) (u2 := .string ⟨#[]⟩) (u3 := .bool false) (u4 := .slice none 0 0) (u5 := .slice (some ⟨w13.heap.size, 0, none⟩) 2 2)
    generalize ((((((w15.setCell ⟨w2.heap.size, 0, none⟩ (.int .i64 kind)).setCell ⟨w2.heap.size, 1, none⟩ (.int .i64 (T2.pos))).setCell ⟨w2.heap.size, 2, none⟩ (.string ⟨#[]⟩)).setCell ⟨w2.heap.size, 3, none⟩ (.bool false)).setCell ⟨w2.heap.size, 4, none⟩ (.slice none 0 0)).setCell ⟨w2.heap.size, 5, none⟩ (.slice (some ⟨w13.heap.size, 0, none⟩) 2 2)) = w30 at *
    have HE := Lh (show _ ∧ _ ∧ _ ∧ _ ∧ _ ∧ _ from ⟨hP16, hxn_16, hxR_16, hFz_16, hk16, hsF⟩); clear hsF hxR_15 hxn_15 hF2_15 hF3_15 hFz_15 hP15 hk15 hP16 hxn_16 hxR_16 hFz_16 hk16; go_wp2_with fail
    go_roundg gk
    case measure => omega
    case rel => exact ⟨Nd.mk kind T2.pos ⟨#[]⟩ false [] [T2, T3], l3, none, 0, (some ⟨w13.heap.size, 0, none⟩), 2, Lh ⟨HE.out.1, HE.out.2.1, HE.out.2.2.1, HE.out.2.2.2.1, HE.out.2.2.2.2.1, hR, by omega, by have := HE.out.2.2.2.2.2; omega⟩⟩
   ·exact lv12
end
end
end Go.Proofs.YtjndbcnmmnkilaaGreatDoor
