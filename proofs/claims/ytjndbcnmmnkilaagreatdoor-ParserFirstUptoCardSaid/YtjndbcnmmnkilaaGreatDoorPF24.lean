/- Joined by a program: Pe21. -/
import Derived.Test.YtjndbcnmmnkilaaGreatDoorPF09
import Derived.Test.YtjndbcnmmnkilaaGreatDoorPF19
namespace Go.Proofs.YtjndbcnmmnkilaaGreatDoor
set_option linter.unusedVariables false
set_option linter.unusedSimpArgs false
set_option maxRecDepth 1000000
set_option maxHeartbeats 16000000
section
open Go.RowKit
open List (length_append length_cons length_nil length_singleton)
section
variable {wB nB gB : ByteArray → Bool} {nO : ByteArray → Option (List Int)} {e : Int} 
theorem bx_put2 {w : World} {b : Nat} {v0 v1 v2 v3 v4 v5 u : Value} {t : TypeId} (h : w.heap[b]? = some (.cells #[v0, v1, v2, v3, v4, v5] t)) : (w.setCell ⟨b, 2, none⟩ u).heap[b]? = some (.cells #[v0, v1, u, v3, v4, v5] t) := by
 simp [World.setCell, Array.getElem?_modify, h]
theorem retBadT {P : Nat → Prop} {X : Nat} {w wr W : World} {R : Rs Nd} {cc a : Int} (h0 : Kp w.heap.size X w wr) (hk : Kp wr.heap.size X wr W) (hR : R = .bad cc a) : RetN e X P w R (.panicked [{ v := stopP cc a, recovered := false }]) W := retBad (h0.trans (hk.mono h0.size)) hR
theorem pTry_ok (hD : Deps wB nB gB nO) (hC : Cst wB) (D : Nat) (HAs' : ∀ k, k ≤ D → PA e (Pp nB gB nO e k)) : CI e 107 (fun at_ l => tryQ e (Pp nB gB nO e D) at_ l) := by
 intro at_ X l w hat hP0 hne
 obtain ⟨R, hR⟩ : ∃ R, tryQ e (Pp nB gB nO e D) at_ l = R := ⟨_, rfl⟩
 simp only [hR] at hne ⊢
 unfold tryQ at hR
 have HAs := Lh HAs'
 clear HAs'
 have HA := HAs.out D (Nat.le_refl _)
 have hXl := hP0.lt
 have hk0 : Kp w.heap.size X w w := Kp.refl _ _ _
 have hz0 := hk0.size
 go_enter Tryz.func107, Tryz.ntmps107
 go_upto_region 1 with fail
 generalize hG : w.alloc zN = w1 at *
 obtain ⟨hb1, hxR_1, _⟩ := nb hG
 clear hG
 obtain ⟨hk1, _, _⟩ := kd hk0 hb1
 have hP1 := hP0.later hb1
 have n1 := Rs.ne_of hR hne
 go_wp2_with fail
 go_at_call 101
 refine (HA.pblock X _ _ hP1 n1).mono ?_
 rintro E w2 hE
 rcases hE with ⟨cc, aa, hv, rfl, hq⟩ | ⟨T9, l9, A9, c9, K9, d9, hv, rfl, hP2, hF9_2, hq⟩
 ·exact lv61
 rw [hv] at hR
 simp only [yO, yA] at hR
 clear hv n1
 have hF9_2 := hF9_2.intoN (P := Nn) (lo := w1.heap.size) (x := X) lq17 lq17
 obtain ⟨hk2, _, _⟩ := kc hk1 hq
 have hxR_2 := kx hq hxR_1
 unfold ndV
 have hro := row_made (P := Nn) (lo := w1.heap.size) (x := X) (X := X) w2 [⟨T9, A9, c9, K9, d9⟩] #[.int .i64 T9.kind, .int .i64 T9.pos, .string T9.text, .bool T9.neg, .slice A9 T9.mag.length c9, .slice K9 T9.kids.length d9] 1 rfl rfl lq17 lq17 lq16 (Old.nn X _) (by
  intro q hq; simp only [List.mem_cons, List.not_mem_nil, or_false] at hq
  rcases hq with rfl <;> assumption)
 go_upto_region 2 with fail
 generalize hG : w2.alloc (oN T9 A9 c9 K9 d9) = w3 at *
 obtain ⟨hb3, _, _⟩ := nb hG
 clear hG
 obtain ⟨hk3, _, _⟩ := kd hk2 hb3
 have hP3 := hP2.later hb3
 have hxR_3 := kb hb3 hxR_2
 have hF9_3 := hF9_2.later hb3 (Old.nn X _)
 have hRq_3 := hro
 clear hro hF9_3
 go_wp2_with fail
 go_at_call 176
 refine (is1W_ok hD hC.w_except hP3).mono ?_
 rintro E w4 ⟨hE, hP4, hq⟩
 rcases hE with ⟨hv, rfl⟩ | ⟨hv, rfl⟩
 ·simp only [hv, if_true, yO, yA] at hR; obtain ⟨hk4, hs4, hz4⟩ := kc hk3 hq; have hxR_4 := kx hq hxR_3; have hRq_4 := hRq_3.kp hq (Old.nn X _) lq17; have hln := hP4.ln; go_wp2_with fail
  go_loopg [5, 6] D (fun k v vb wr => ∃ (ks : List Nd) (l' : List Tok) (A : Option Addr) (c : Nat) (b : Bool), v = .slice A ks.length c ∧ vb = .bool b ∧ Hid (Pz e wr X l' ∧ RowS Nn w1.heap.size X wr A c ks ∧ Kp w.heap.size X w wr ∧ ((Pp nB gB nO e k).qexcepts b ks l').bind (fun ks r => .ok (Nd.mk 21 at_ ⟨#[]⟩ false [] ks) r) = R ∧ ks.length + l'.length ≤ 1000001 ∧ k ≤ D ∧ wr.heap[w.heap.size]? = some (.cells #[.int .i64 0, .int .i64 0, .string ⟨#[]⟩, .bool false, .slice none 0 0, .slice none 0 0] 29) ∧ w1.heap.size ≤ wr.heap.size))
  case atStart => exact ⟨[T9], l9, _, 1, false, rfl, rfl, Lh ⟨hP4, hRq_4, hk4, hR, by simp only [length_cons, length_nil]; omega, Nat.le_refl _, hxR_4, by omega⟩⟩
  case round =>
   obtain ⟨ks, l0, A0, c0, b, rfl, rfl, hH⟩ := hrel; obtain ⟨hP20, hR0_20, hk20w, hRk, hN, hgk, hxR_20, hw1r⟩ := hH.out; clear hH hP4 hRq_4 hR HA hxR_4
   cases gk with
   | zero => exact absurd hRk.symm hne
   | succ gk =>
    have hR : (s_excepts nB e (Pp nB gB nO e gk) b ks l0).bind (fun ks r => .ok (Nd.mk 21 at_ ⟨#[]⟩ false [] ks) r) = R := hRk; clear hRk; unfold s_excepts at hR; have HA := HAs.out gk lq17; have hzw := hk20w.size; have hk20 : Kp wr.heap.size X wr wr := Kp.refl _ _ _; have hz20 := hk20.size; have hEF := ef_all nB gB nO e gk; have hRow := hR0_20; go_wp2_with fail
    go_at_call 176
    refine (is1W_ok hD hC.w_except hP20).mono ?_
    rintro E w21 ⟨hE, hP21, hq⟩
    rcases hE with ⟨hv, rfl⟩ | ⟨hv, rfl⟩
    ·have hexc := hv; simp only [hv, if_true, yO, yA] at hR; obtain ⟨hk21, hs21, hz21⟩ := kc hk20 hq; have hxR_21 := kx hq hxR_20; have hR0_21 := hR0_20.kp hq (Old.nn X _) lq17
     cases b with
     | true =>
      simp only [if_true] at hR; simp only [Rs.bind_bad] at hR; go_wp2_with fail
      go_at_call 182
      refine (wrong_ok hP21).mono ?_
      rintro E w22 ⟨rfl, hq⟩; go_wp2_with fail; exact ⟨rfl, retBadT hk20w (hk21.below (Nat.le_refl _) hq) hR.symm⟩
     | false =>
      simp only [Bool.false_eq_true, if_false] at hR; have hpos := hP21.hd.2.1; go_wp2_with fail
      go_at_call 177
      refine (pass_ok hP21).mono ?_
      rintro E w22 ⟨rfl, hP22, hq⟩; obtain ⟨hk22, hs22, hz22⟩ := kc hk21 hq; have hxR_22 := kx hq hxR_21; have hR0_22 := hR0_21.kp hq (Old.nn X _) lq17; have F2_22 := tfield2 (hd e l0).kind (hd e l0).text (hd e l0).pos; unfold tokA; have hFz_22 := (RowS.nil Nn (w1.heap.size) X w22).node (k := 22) (p := (hd e l0).pos) (t := ⟨#[]⟩) ⟨by decide, by decide⟩ hpos lq16 false; go_wp2_with fail
      go_at_call 54
      refine (node_okA _ _ _ _ _ _ _).mono ?_
      rintro E w23 ⟨rfl, hq⟩; obtain ⟨hk23, _, _⟩ := kd hk22 hq; have hP23 := hP22.later hq; have hxR_23 := kb hq hxR_22; have hFz_23 := hFz_22.later hq (Old.nn X _); have hR0_23 := hR0_22.later hq (Old.nn X _)
      go_upto_region 9 with fail
      have hb24 := (Below.refl w23.heap.size w23).alloc (Nat.le_refl _) (.cells #[.int .i64 22, .int .i64 ((hd e l0).pos), .string (⟨#[]⟩), .bool false, .slice none 0 0, .slice none 0 0] 29); have hxm_24 := heap_alloc_new w23 (.cells #[.int .i64 22, .int .i64 ((hd e l0).pos), .string (⟨#[]⟩), .bool false, .slice none 0 0, .slice none 0 0] 29); have hse24 : w23.heap.size + 1 ≤ (w23.alloc (.cells #[.int .i64 22, .int .i64 ((hd e l0).pos), .string (⟨#[]⟩), .bool false, .slice none 0 0, .slice none 0 0] 29)).heap.size := by simp
      have hszE24 := Lh (show (w23.alloc (.cells #[.int .i64 22, .int .i64 ((hd e l0).pos), .string (⟨#[]⟩), .bool false, .slice none 0 0, .slice none 0 0] 29)).heap.size = w23.heap.size + 1 by simp)
      generalize w23.alloc (.cells #[.int .i64 22, .int .i64 ((hd e l0).pos), .string (⟨#[]⟩), .bool false, .slice none 0 0, .slice none 0 0] 29) = w24 at *
      obtain ⟨hk24, _, _⟩ := kd hk23 hb24; have hP24 := hP23.later hb24; have hxR_24 := kb hb24 hxR_23; have hR0_24 := hR0_23.later hb24 (Old.nn X _); obtain ⟨mm0, mm1, mm2, mm3, mm4, mm5⟩ := bx_cells hxm_24; go_wp2_with fail
      go_at_call 178
      refine (none_okA _ _).mono ?_
      rintro E w25 ⟨rfl, hq⟩; obtain ⟨hk25, _, _⟩ := kd hk24 hq; have hP25 := hP24.later hq; have hxR_25 := kb hq hxR_24; have hxm_25 := kb hq hxm_24; have hR0_25 := hR0_24.later hq (Old.nn X _)
      go_upto_region 10 with fail
      clear mm0 mm1 mm2 mm3 mm4 mm5
      generalize hG : w25.alloc (.cells #[.int .i64 0, .int .i64 ((hd e l0).pos), .string ⟨#[]⟩, .bool false, .slice none 0 0, .slice none 0 0] 29) = w26 at *
      obtain ⟨hb26, hxc_26, _⟩ := nb hG; clear hG; obtain ⟨hk26, _, _⟩ := kd hk25 hb26; have hP26 := hP25.later hb26; have hxR_26 := kb hb26 hxR_25; have hxm_26 := kb hb26 hxm_25; have hR0_26 := hR0_25.later hb26 (Old.nn X _); go_wp2_with fail
      go_at_call 186
      refine (begins_ok hD hC hP26).mono ?_
      rintro E w27 ⟨hE, hP27, hq⟩
      rcases hE with ⟨hv, rfl⟩ | ⟨hv, rfl⟩
      ·simp only [hv, if_true, yO, yA] at hR; obtain ⟨hk27, hs27, hz27⟩ := kc hk26 hq; have hxR_27 := kx hq hxR_26; have hxm_27 := kx hq hxm_26; have hxc_27 := kx hq hxc_26; have n1 := Rs.ne_of hR hne; go_wp2_with fail
       go_at_call 100
       refine (HA.pexpr X _ _ hP27 n1).mono ?_
       rintro E w28 hE
       rcases hE with ⟨cc, aa, hv, rfl, hq⟩ | ⟨T1, l1, A1, c1, K1, d1, hv, rfl, hP28, hF1_28, hq⟩
       ·rw [hv] at hR; go_wp2_with fail; exact ⟨rfl, retBadT hk20w (hk27.call (Nat.le_refl _) hq) hR.symm⟩
       rw [hv] at hR; simp only [yO, yA] at hR; have hle1 := hEF.eexpr _ _ _ hv; clear hv n1; have hF1_28 := hF1_28.intoN (P := Nn) (lo := w26.heap.size) (x := X) lq17 lq17; obtain ⟨hk28, hs28, hz28⟩ := kc hk27 hq; have hxR_28 := kx hq hxR_27; have hxm_28 := kx hq hxm_27; have hxc_28 := kx hq hxc_27; unfold ndV; obtain ⟨k0, k1, k2, k3, k4, k5⟩ := bx_cells hxc_28; have z := Lib.frozen_of_heap hxc_28
       go_upto_region 13 with fail
       clear k0 k1 k2 k3 k4 k5 z; have hxc_29 := bx_put hxc_28 (u0 := .int .i64 T1.kind) (u1 := .int .i64 T1.pos) (u2 := .string T1.text) (u3 := .bool T1.neg) (u4 := .slice A1 T1.mag.length c1) (u5 := .slice K1 T1.kids.length d1); have hxR_29 := (bx_off (b := w25.heap.size) (u0 := .int .i64 T1.kind) (u1 := .int .i64 T1.pos) (u2 := .string T1.text) (u3 := .bool T1.neg) (u4 := .slice A1 T1.mag.length c1) (u5 := .slice K1 T1.kids.length d1) lq17).trans hxR_28
       have hxm_29 := (bx_off (b := w25.heap.size) (u0 := .int .i64 T1.kind) (u1 := .int .i64 T1.pos) (u2 := .string T1.text) (u3 := .bool T1.neg) (u4 := .slice A1 T1.mag.length c1) (u5 := .slice K1 T1.kids.length d1) lq17).trans hxm_28; have hF1_29 := hF1_28.put6 (b := w25.heap.size) (u0 := .int .i64 T1.kind) (u1 := .int .i64 T1.pos) (u2 := .string T1.text) (u3 := .bool T1.neg) (u4 := .slice A1 T1.mag.length c1) (u5 := .slice K1 T1.kids.length d1) lq17 (fun h => h.elim)
       have hk29 := bx_kp hk28 (b := w25.heap.size) (u0 := .int .i64 T1.kind) (u1 := .int .i64 T1.pos) (u2 := .string T1.text) (u3 := .bool T1.neg) (u4 := .slice A1 T1.mag.length c1) (u5 := .slice K1 T1.kids.length d1) lq17; have hP29 := hP28.blocks (fun k hk => bx_off (b := w25.heap.size) (u0 := .int .i64 T1.kind) (u1 := .int .i64 T1.pos) (u2 := .string T1.text) (u3 := .bool T1.neg) (u4 := .slice A1 T1.mag.length c1) (u5 := .slice K1 T1.kids.length d1) lq17)
       have hs29 : w28.heap.size ≤ ((((((w28.setCell ⟨w25.heap.size, 0, none⟩ (.int .i64 T1.kind)).setCell ⟨w25.heap.size, 1, none⟩ (.int .i64 T1.pos)).setCell ⟨w25.heap.size, 2, none⟩ (.string T1.text)).setCell ⟨w25.heap.size, 3, none⟩ (.bool T1.neg)).setCell ⟨w25.heap.size, 4, none⟩ (.slice A1 T1.mag.length c1)).setCell ⟨w25.heap.size, 5, none⟩ (.slice K1 T1.kids.length d1)).heap.size := Nat.le_of_eq bx_size.symm
       have hss29 : ((((((w28.setCell ⟨w25.heap.size, 0, none⟩ (.int .i64 T1.kind)).setCell ⟨w25.heap.size, 1, none⟩ (.int .i64 T1.pos)).setCell ⟨w25.heap.size, 2, none⟩ (.string T1.text)).setCell ⟨w25.heap.size, 3, none⟩ (.bool T1.neg)).setCell ⟨w25.heap.size, 4, none⟩ (.slice A1 T1.mag.length c1)).setCell ⟨w25.heap.size, 5, none⟩ (.slice K1 T1.kids.length d1)).heap.size ≤ w28.heap.size := Nat.le_of_eq bx_size; have hz29 := hk29.size
       generalize ((((((w28.setCell ⟨w25.heap.size, 0, none⟩ (.int .i64 T1.kind)).setCell ⟨w25.heap.size, 1, none⟩ (.int .i64 T1.pos)).setCell ⟨w25.heap.size, 2, none⟩ (.string T1.text)).setCell ⟨w25.heap.size, 3, none⟩ (.bool T1.neg)).setCell ⟨w25.heap.size, 4, none⟩ (.slice A1 T1.mag.length c1)).setCell ⟨w25.heap.size, 5, none⟩ (.slice K1 T1.kids.length d1)) = w29 at *
       go_wp2_with fail
       go_at_call 98
       refine (takeW_ok hD hC.w_as hP29).mono ?_
       rintro E w30 hE
       rcases hE with ⟨hv, rfl, hP30, hq⟩ | ⟨hv, rfl, hP30, hq⟩
       ·simp only [hv, if_true, yO, yA] at hR; obtain ⟨hk30, hs30, hz30⟩ := kc hk29 hq; have hxR_30 := kx hq hxR_29; have hxm_30 := kx hq hxm_29; have hxc_30 := kx hq hxc_29; have hF1_30 := hF1_29.kp hq (Old.nn X _) lq17; go_wp2_with fail
        go_at_call 184
        have hnt := hP30.hd.2.2
        refine (name_ok hD hP30).mono ?_
        rintro E w31 hE
        rcases hE with ⟨hv, rfl, hP31, hq⟩ | ⟨hv, rfl, hq⟩
        rotate_left 1
        ·rw [hv] at hR; simp only [Rs.bind_bad] at hR; go_wp2_with fail; exact ⟨rfl, retBadT hk20w (hk30.call (Nat.le_refl _) hq) hR.symm⟩
        have hle3 := Lf.tokN (e := e) (nameB := nB) _ _ hv; rw [hv] at hR; simp only [yO, yA] at hR; clear hv; obtain ⟨hk31, hs31, hz31⟩ := kc hk30 hq; have hxR_31 := kx hq hxR_30; have hxm_31 := kx hq hxm_30; have hxc_31 := kx hq hxc_30; have hF1_31 := hF1_30.kp hq (Old.nn X _) lq17; have F1_31 := tfield1 (hd e l1.tail).kind (hd e l1.tail).text (hd e l1.tail).pos; unfold tokA; have hts : (hd e l1.tail).text.size ≤ maxLen := by unfold maxLen; omega
        have hle2 := tlWf ‹isW e _ l1 = true›; obtain ⟨k0, k1, k2, k3, k4, k5⟩ := bx_cells hxm_31; have z := Lib.frozen_of_heap hxm_31
        go_upto_region 15 with fail
        clear k0 k1 k2 k3 k4 k5 z; have hxm_32 := bx_put2 hxm_31 (u := .string (hd e l1.tail).text); have hxR_32 := (bx_off1 (b := w23.heap.size) (i := 2) (u := .string (hd e l1.tail).text) lq17).trans hxR_31; have hxc_32 := (bx_off1 (b := w23.heap.size) (i := 2) (u := .string (hd e l1.tail).text) lq17).trans hxc_31; have hF1_32 := hF1_31.put1 (b := w23.heap.size) (i := 2) (u := .string (hd e l1.tail).text) lq17 (fun h => h.elim); have hk32 := hk31.set (w23.heap.size) 2 (.string (hd e l1.tail).text) (.inl lq17)
        have hP32 := hP31.blocks (fun k hk => bx_off1 (b := w23.heap.size) (i := 2) (u := .string (hd e l1.tail).text) lq17); have hs32 : w31.heap.size ≤ (w31.setCell ⟨w23.heap.size, 2, none⟩ (.string (hd e l1.tail).text)).heap.size := by simp [World.setCell]
        have hss32 : (w31.setCell ⟨w23.heap.size, 2, none⟩ (.string (hd e l1.tail).text)).heap.size ≤ w31.heap.size := by simp [World.setCell]
        have hz32 := hk32.size
        generalize w31.setCell ⟨w23.heap.size, 2, none⟩ (.string (hd e l1.tail).text) = w32 at *
        have n1 := Rs.ne_of hR hne
        go_upto_region 15 with fail
        refine region_anyZ (fun W => W.heap[w25.heap.size]? = some (.cells #[.int .i64 T1.kind, .int .i64 T1.pos, .string T1.text, .bool T1.neg, .slice A1 T1.mag.length c1, .slice K1 T1.kids.length d1] 29)) 5 lq15 ?_
        refine zt 0 (.agg #[.int .i64 T1.kind, .int .i64 T1.pos, .string T1.text, .bool T1.neg, .slice A1 T1.mag.length c1, .slice K1 T1.kids.length d1]) rfl (Or.inl ⟨by rfl, ?_⟩) hxc_32 ?_
        ·exact lv56
        try simp only [Act.put, xA, xB, xC]
        refine zt 1 (.pointer (some ⟨X, 0, none⟩)) rfl (Or.inl ⟨by rfl, ?_⟩) hxc_32 ?_
        ·exact lv56
        try simp only [Act.put, xA, xB, xC]
        refine zo 2 rfl fun K hK => ?_
        go_simp
        go_at_call 101
        refine (HA.pblock X _ _ (hP32.later (bl_drew (Below.refl _ _))) n1).mono ?_
        rintro E w33 hE
        rcases hE with ⟨cc, aa, hv, rfl, hq⟩ | ⟨T2, l2, A2, c2, K2, d2, hv, rfl, hP33, hF2_33, hq⟩
        ·rw [hv] at hR; exact ⟨rfl, retBadT hk20w (hk32.call (Nat.le_refl _) (kp_undrew hq)) hR.symm⟩
        rw [hv] at hR; simp only [yO, yA] at hR; have hle := hEF.eblock _ _ _ hv; clear hv n1; have hq := kp_undrew hq; have hdr33 : w32.drew.heap.size = w32.heap.size := rfl; have hF2_33 := hF2_33.intoN (P := Nn) (lo := w26.heap.size) (x := X) lq17 lq17; obtain ⟨hk33, hs33, hz33⟩ := kc hk32 hq; have hxR_33 := kx hq hxR_32; have hxm_33 := kx hq hxm_32; have hxc_33 := kx hq hxc_32; have hF1_33 := hF1_32.kp hq (Old.nn X _) lq17; unfold ndV
        refine hK.out _ _ (fun _ => hxc_33) ?_
        clear hK K
        try simp only [Act.put, xA, xB, xC]
        refine zo 3 rfl fun K hK => ?_
        go_simp
        have hro := row_made (P := Nn) (lo := w26.heap.size) (x := X) (X := X) w33 [⟨T1, A1, c1, K1, d1⟩, ⟨T2, A2, c2, K2, d2⟩] #[.int .i64 T1.kind, .int .i64 T1.pos, .string T1.text, .bool T1.neg, .slice A1 T1.mag.length c1, .slice K1 T1.kids.length d1, .int .i64 T2.kind, .int .i64 T2.pos, .string T2.text, .bool T2.neg, .slice A2 T2.mag.length c2, .slice K2 T2.kids.length d2] 2 rfl rfl lq17 lq17 lq16 (Old.nn X _) (by
         intro q hq; simp only [List.mem_cons, List.not_mem_nil, or_false] at hq
         rcases hq with rfl | rfl <;> assumption)
        generalize hG : w33.alloc (.cells #[.int .i64 T1.kind, .int .i64 T1.pos, .string T1.text, .bool T1.neg, .slice A1 T1.mag.length c1, .slice K1 T1.kids.length d1, .int .i64 T2.kind, .int .i64 T2.pos, .string T2.text, .bool T2.neg, .slice A2 T2.mag.length c2, .slice K2 T2.kids.length d2] 29) = w34 at *
        obtain ⟨hb34, _, hse34⟩ := nb hG; clear hG; obtain ⟨hk34, hs34, hz34⟩ := kd hk33 hb34; have hP34 := hP33.later hb34; have hxR_34 := kb hb34 hxR_33; have hxm_34 := kb hb34 hxm_33; have hxc_34 := kb hb34 hxc_33; have hF1_34 := hF1_33.later hb34 (Old.nn X _); have hF2_34 := hF2_33.later hb34 (Old.nn X _)
        refine hK.out _ _ (fun _ => hxc_34) ?_
        clear hK K
        try simp only [Act.put, xA, xB, xC]
        have hFz_34 := hro.node (k := 22) (p := (hd e l0).pos) (t := (hd e l1.tail).text) ⟨by decide, by decide⟩ hpos hts false; clear hro hF1_34 hF2_34
        refine zt 4 (.pointer (some ⟨w23.heap.size, 5, none⟩)) rfl (Or.inl ⟨by rfl, ?_⟩) hxc_34 ?_
        ·exact lv56
        try simp only [Act.put, xA, xB, xC]
        obtain ⟨k0, k1, k2, k3, k4, k5⟩ := bx_cells hxm_34; have z := Lib.frozen_of_heap hxm_34
        refine zo 5 rfl fun K hK => ?_
        go_simp
        refine hK.out _ _ (fun h => absurd rfl h) ?_
        clear hK K k0 k1 k2 k3 k4 k5 z
        try simp only [Act.put, xA, xB, xC]
        refine anyZ_end lq15 ?_ _
        have hxm_35 := bx_put5 hxm_34 (u := .slice (some ⟨w33.heap.size, 0, none⟩) 2 2); have hxR_35 := (bx_off1 (b := w23.heap.size) (i := 5) (u := .slice (some ⟨w33.heap.size, 0, none⟩) 2 2) lq17).trans hxR_34; have hxc_35 := (bx_off1 (b := w23.heap.size) (i := 5) (u := .slice (some ⟨w33.heap.size, 0, none⟩) 2 2) lq17).trans hxc_34; have hFz_35 := hFz_34.put1 (b := w23.heap.size) (i := 5) (u := .slice (some ⟨w33.heap.size, 0, none⟩) 2 2) lq17 (fun h => h.elim); have hk35 := hk34.set (w23.heap.size) 5 (.slice (some ⟨w33.heap.size, 0, none⟩) 2 2) (.inl lq17)
        have hP35 := hP34.blocks (fun k hk => bx_off1 (b := w23.heap.size) (i := 5) (u := .slice (some ⟨w33.heap.size, 0, none⟩) 2 2) lq17); have hs35 : w34.heap.size ≤ (w34.setCell ⟨w23.heap.size, 5, none⟩ (.slice (some ⟨w33.heap.size, 0, none⟩) 2 2)).heap.size := by simp [World.setCell]
        have hss35 : (w34.setCell ⟨w23.heap.size, 5, none⟩ (.slice (some ⟨w33.heap.size, 0, none⟩) 2 2)).heap.size ≤ w34.heap.size := by simp [World.setCell]
        have hz35 := hk35.size
        generalize w34.setCell ⟨w23.heap.size, 5, none⟩ (.slice (some ⟨w33.heap.size, 0, none⟩) 2 2) = w35 at *
        have hR0_35 := hRow.kp hk35 (Old.nn X _) lq17; have hlt := hRow.lt; have hA := hFz_35.away (P := Nn) (lo := w1.heap.size) (x := X) (own := (Value.slice A0 ks.length c0).ownBlock) (fun _ h => h.elim) lq17 lq17 (fun g e => by have := (hlt g e).2; omega); clear hFz_35 hlt; obtain ⟨mm0, mm1, mm2, mm3, mm4, mm5⟩ := bx_cells hxm_35; have hb36 := (Below.refl w35.heap.size w35).alloc (Nat.le_refl _) (.cells #[.int .i64 22, .int .i64 ((hd e l0).pos), .string (hd e l1.tail).text, .bool false, .slice none 0 0, .slice (some ⟨w33.heap.size, 0, none⟩) 2 2] 29)
        have hbq := heap_alloc_new w35 (.cells #[.int .i64 22, .int .i64 ((hd e l0).pos), .string (hd e l1.tail).text, .bool false, .slice none 0 0, .slice (some ⟨w33.heap.size, 0, none⟩) 2 2] 29); have hse36 : w35.heap.size + 1 ≤ (w35.alloc (.cells #[.int .i64 22, .int .i64 ((hd e l0).pos), .string (hd e l1.tail).text, .bool false, .slice none 0 0, .slice (some ⟨w33.heap.size, 0, none⟩) 2 2] 29)).heap.size := by simp
        have hA := hA.laterA hb36 (Old.nn X _); obtain ⟨hk36, _, _⟩ := kd hk35 hb36; have hP36 := hP35.later hb36; have hxR_36 := kb hb36 hxR_35; have hxm_36 := kb hb36 hxm_35; have hxc_36 := kb hb36 hxc_35; have hR0_36 := hR0_35.later hb36 (Old.nn X _); go_wp2_with (at_builtin; refine wp_append_row (t := (Nd.mk 22 (hd e l0).pos (hd e l1.tail).text false [] [T1, T2])) rfl _ _ rfl hR0_36 rfl hA w35.heap.size rfl hbq lq17 lq17 lq17 (Old.nn X _) ?_; intro g37 cap37 w37 hRn hq hgl hgr); clear mm0 mm1 mm2 mm3 mm4 mm5; have hkT := (hk20w.trans (hk36.mono hzw)).trans ((Kp.of_below hq X).mono lq17)
        have hPT := hP36.blocks (fun k hk => hq.5 k lq17); have hxT := kb hq hxR_36; have hsT := hq.size; have HE := Lh (show _ ∧ _ ∧ _ ∧ _ from ⟨hPT, hRn, hkT, hxT⟩); clear hPT hRn hkT hxT hA hbq hgr hRow hq hxR_36 hxm_36 hxc_36 hR0_36 hP36 hk36; go_wp2_with fail
        go_roundg gk
        case measure => omega
        case rel => exact ⟨ks ++ [(Nd.mk 22 (hd e l0).pos (hd e l1.tail).text false [] [T1, T2])], l2, some ⟨g37, 0, none⟩, cap37, false, by simp, rfl, Lh ⟨HE.out.1, HE.out.2.1, HE.out.2.2.1, hR, by have := tlWf ‹isW e _ l0 = true›; simp only [length_append, length_cons, length_nil]; omega, by omega, HE.out.2.2.2, by omega⟩⟩
       ·simp only [hv, yF, if_false, yO, yA] at hR; obtain ⟨hk30, hs30, hz30⟩ := kc hk29 hq; have hxR_30 := kx hq hxR_29; have hxm_30 := kx hq hxm_29; have hxc_30 := kx hq hxc_29; have hF1_30 := hF1_29.kp hq (Old.nn X _) lq17; have n1 := Rs.ne_of hR hne
        go_upto_region 15 with fail
        refine region_anyZ (fun W => W.heap[w25.heap.size]? = some (.cells #[.int .i64 T1.kind, .int .i64 T1.pos, .string T1.text, .bool T1.neg, .slice A1 T1.mag.length c1, .slice K1 T1.kids.length d1] 29)) 5 lq15 ?_
        refine zt 0 (.agg #[.int .i64 T1.kind, .int .i64 T1.pos, .string T1.text, .bool T1.neg, .slice A1 T1.mag.length c1, .slice K1 T1.kids.length d1]) rfl (Or.inl ⟨by rfl, ?_⟩) hxc_30 ?_
        ·exact lv56
        try simp only [Act.put, xA, xB, xC]
        refine zt 1 (.pointer (some ⟨X, 0, none⟩)) rfl (Or.inl ⟨by rfl, ?_⟩) hxc_30 ?_
        ·exact lv56
        try simp only [Act.put, xA, xB, xC]
        refine zo 2 rfl fun K hK => ?_
        go_simp
        go_at_call 101
        refine (HA.pblock X _ _ (hP30.later (bl_drew (Below.refl _ _))) n1).mono ?_
        rintro E w31 hE
        rcases hE with ⟨cc, aa, hv, rfl, hq⟩ | ⟨T2, l2, A2, c2, K2, d2, hv, rfl, hP31, hF2_31, hq⟩
        ·rw [hv] at hR; exact ⟨rfl, retBadT hk20w (hk30.call (Nat.le_refl _) (kp_undrew hq)) hR.symm⟩
        rw [hv] at hR; simp only [yO, yA] at hR; have hle := hEF.eblock _ _ _ hv; clear hv n1; have hq := kp_undrew hq; have hdr31 : w30.drew.heap.size = w30.heap.size := rfl; have hF2_31 := hF2_31.intoN (P := Nn) (lo := w26.heap.size) (x := X) lq17 lq17; obtain ⟨hk31, hs31, hz31⟩ := kc hk30 hq; have hxR_31 := kx hq hxR_30; have hxm_31 := kx hq hxm_30; have hxc_31 := kx hq hxc_30; have hF1_31 := hF1_30.kp hq (Old.nn X _) lq17; unfold ndV
        refine hK.out _ _ (fun _ => hxc_31) ?_
        clear hK K
        try simp only [Act.put, xA, xB, xC]
        refine zo 3 rfl fun K hK => ?_
        go_simp
        have hro := row_made (P := Nn) (lo := w26.heap.size) (x := X) (X := X) w31 [⟨T1, A1, c1, K1, d1⟩, ⟨T2, A2, c2, K2, d2⟩] #[.int .i64 T1.kind, .int .i64 T1.pos, .string T1.text, .bool T1.neg, .slice A1 T1.mag.length c1, .slice K1 T1.kids.length d1, .int .i64 T2.kind, .int .i64 T2.pos, .string T2.text, .bool T2.neg, .slice A2 T2.mag.length c2, .slice K2 T2.kids.length d2] 2 rfl rfl lq17 lq17 lq16 (Old.nn X _) (by
         intro q hq; simp only [List.mem_cons, List.not_mem_nil, or_false] at hq
         rcases hq with rfl | rfl <;> assumption)
        generalize hG : w31.alloc (.cells #[.int .i64 T1.kind, .int .i64 T1.pos, .string T1.text, .bool T1.neg, .slice A1 T1.mag.length c1, .slice K1 T1.kids.length d1, .int .i64 T2.kind, .int .i64 T2.pos, .string T2.text, .bool T2.neg, .slice A2 T2.mag.length c2, .slice K2 T2.kids.length d2] 29) = w32 at *
        obtain ⟨hb32, _, _⟩ := nb hG; clear hG; obtain ⟨hk32, hs32, hz32⟩ := kd hk31 hb32; have hP32 := hP31.later hb32; have hxR_32 := kb hb32 hxR_31; have hxm_32 := kb hb32 hxm_31; have hxc_32 := kb hb32 hxc_31; have hF1_32 := hF1_31.later hb32 (Old.nn X _); have hF2_32 := hF2_31.later hb32 (Old.nn X _)
        refine hK.out _ _ (fun _ => hxc_32) ?_
        clear hK K
        try simp only [Act.put, xA, xB, xC]
        have hFz_32 := hro.node (k := 22) (p := (hd e l0).pos) (t := ⟨#[]⟩) ⟨by decide, by decide⟩ hpos lq16 false; clear hro hF1_32 hF2_32
        refine zt 4 (.pointer (some ⟨w23.heap.size, 5, none⟩)) rfl (Or.inl ⟨by rfl, ?_⟩) hxc_32 ?_
        ·exact lv56
        try simp only [Act.put, xA, xB, xC]
        obtain ⟨k0, k1, k2, k3, k4, k5⟩ := bx_cells hxm_32; have z := Lib.frozen_of_heap hxm_32
        refine zo 5 rfl fun K hK => ?_
        go_simp
        refine hK.out _ _ (fun h => absurd rfl h) ?_
        clear hK K k0 k1 k2 k3 k4 k5 z
        try simp only [Act.put, xA, xB, xC]
        refine anyZ_end lq15 ?_ _
        have hxm_33 := bx_put5 hxm_32 (u := .slice (some ⟨w31.heap.size, 0, none⟩) 2 2); have hxR_33 := (bx_off1 (b := w23.heap.size) (i := 5) (u := .slice (some ⟨w31.heap.size, 0, none⟩) 2 2) lq17).trans hxR_32; have hxc_33 := (bx_off1 (b := w23.heap.size) (i := 5) (u := .slice (some ⟨w31.heap.size, 0, none⟩) 2 2) lq17).trans hxc_32; have hFz_33 := hFz_32.put1 (b := w23.heap.size) (i := 5) (u := .slice (some ⟨w31.heap.size, 0, none⟩) 2 2) lq17 (fun h => h.elim); have hk33 := hk32.set (w23.heap.size) 5 (.slice (some ⟨w31.heap.size, 0, none⟩) 2 2) (.inl lq17)
        have hP33 := hP32.blocks (fun k hk => bx_off1 (b := w23.heap.size) (i := 5) (u := .slice (some ⟨w31.heap.size, 0, none⟩) 2 2) lq17); have hs33 : w32.heap.size ≤ (w32.setCell ⟨w23.heap.size, 5, none⟩ (.slice (some ⟨w31.heap.size, 0, none⟩) 2 2)).heap.size := by simp [World.setCell]
        have hss33 : (w32.setCell ⟨w23.heap.size, 5, none⟩ (.slice (some ⟨w31.heap.size, 0, none⟩) 2 2)).heap.size ≤ w32.heap.size := by simp [World.setCell]
        have hz33 := hk33.size
        generalize w32.setCell ⟨w23.heap.size, 5, none⟩ (.slice (some ⟨w31.heap.size, 0, none⟩) 2 2) = w33 at *
        have hR0_33 := hRow.kp hk33 (Old.nn X _) lq17; have hlt := hRow.lt; have hA := hFz_33.away (P := Nn) (lo := w1.heap.size) (x := X) (own := (Value.slice A0 ks.length c0).ownBlock) (fun _ h => h.elim) lq17 lq17 (fun g e => by have := (hlt g e).2; omega); clear hFz_33 hlt; obtain ⟨mm0, mm1, mm2, mm3, mm4, mm5⟩ := bx_cells hxm_33; have hb34 := (Below.refl w33.heap.size w33).alloc (Nat.le_refl _) (.cells #[.int .i64 22, .int .i64 ((hd e l0).pos), .string (⟨#[]⟩), .bool false, .slice none 0 0, .slice (some ⟨w31.heap.size, 0, none⟩) 2 2] 29)
        have hbq := heap_alloc_new w33 (.cells #[.int .i64 22, .int .i64 ((hd e l0).pos), .string (⟨#[]⟩), .bool false, .slice none 0 0, .slice (some ⟨w31.heap.size, 0, none⟩) 2 2] 29); have hse34 : w33.heap.size + 1 ≤ (w33.alloc (.cells #[.int .i64 22, .int .i64 ((hd e l0).pos), .string (⟨#[]⟩), .bool false, .slice none 0 0, .slice (some ⟨w31.heap.size, 0, none⟩) 2 2] 29)).heap.size := by simp
        have hA := hA.laterA hb34 (Old.nn X _); obtain ⟨hk34, hs34, hz34⟩ := kd hk33 hb34; have hP34 := hP33.later hb34; have hxR_34 := kb hb34 hxR_33; have hxm_34 := kb hb34 hxm_33; have hxc_34 := kb hb34 hxc_33; have hR0_34 := hR0_33.later hb34 (Old.nn X _); go_wp2_with (at_builtin; refine wp_append_row (t := (Nd.mk 22 (hd e l0).pos ⟨#[]⟩ false [] [T1, T2])) rfl _ _ rfl hR0_34 rfl hA w33.heap.size rfl hbq lq17 lq17 lq17 (Old.nn X _) ?_; intro g35 cap35 w35 hRn hq hgl hgr); clear mm0 mm1 mm2 mm3 mm4 mm5; have hkT := (hk20w.trans (hk34.mono hzw)).trans ((Kp.of_below hq X).mono lq17)
        have hPT := hP34.blocks (fun k hk => hq.5 k lq17); have hxT := kb hq hxR_34; have hsT := hq.size; have HE := Lh (show _ ∧ _ ∧ _ ∧ _ from ⟨hPT, hRn, hkT, hxT⟩); clear hPT hRn hkT hxT hA hbq hgr hRow hq hxR_34 hxm_34 hxc_34 hR0_34 hP34 hk34; go_wp2_with fail
        go_roundg gk
        case measure => omega
        case rel => exact ⟨ks ++ [(Nd.mk 22 (hd e l0).pos ⟨#[]⟩ false [] [T1, T2])], l2, some ⟨g35, 0, none⟩, cap35, false, by simp, rfl, Lh ⟨HE.out.1, HE.out.2.1, HE.out.2.2.1, hR, by have := tlWf ‹isW e _ l0 = true›; simp only [length_append, length_cons, length_nil]; omega, by omega, HE.out.2.2.2, by omega⟩⟩
      ·simp only [hv, yF, if_false, yO, yA] at hR; obtain ⟨hk27, hs27, hz27⟩ := kc hk26 hq; have hxR_27 := kx hq hxR_26; have hxm_27 := kx hq hxm_26; have hxc_27 := kx hq hxc_26; have hFy_27 := (RowS.nil Nn (w26.heap.size) X w27).node (k := 0) (p := (hd e l0).pos) (t := ⟨#[]⟩) ⟨by decide, by decide⟩ hpos lq16 false; have n1 := Rs.ne_of hR hne
       go_upto_region 15 with fail
       refine region_anyZ (fun W => W.heap[w25.heap.size]? = some (.cells #[.int .i64 0, .int .i64 ((hd e l0).pos), .string ⟨#[]⟩, .bool false, .slice none 0 0, .slice none 0 0] 29)) 5 lq15 ?_
       refine zt 0 (.agg #[.int .i64 0, .int .i64 ((hd e l0).pos), .string ⟨#[]⟩, .bool false, .slice none 0 0, .slice none 0 0]) rfl (Or.inl ⟨by rfl, ?_⟩) hxc_27 ?_
       ·exact lv56
       try simp only [Act.put, xA, xB, xC]
       refine zt 1 (.pointer (some ⟨X, 0, none⟩)) rfl (Or.inl ⟨by rfl, ?_⟩) hxc_27 ?_
       ·exact lv56
       try simp only [Act.put, xA, xB, xC]
       refine zo 2 rfl fun K hK => ?_
       go_simp
       go_at_call 101
       refine (HA.pblock X _ _ (hP27.later (bl_drew (Below.refl _ _))) n1).mono ?_
       rintro E w28 hE
       rcases hE with ⟨cc, aa, hv, rfl, hq⟩ | ⟨T2, l2, A2, c2, K2, d2, hv, rfl, hP28, hF2_28, hq⟩
       ·rw [hv] at hR; exact ⟨rfl, retBadT hk20w (hk27.call (Nat.le_refl _) (kp_undrew hq)) hR.symm⟩
       rw [hv] at hR; simp only [yO, yA] at hR; have hle := hEF.eblock _ _ _ hv; clear hv n1; have hq := kp_undrew hq; have hdr28 : w27.drew.heap.size = w27.heap.size := rfl; have hF2_28 := hF2_28.intoN (P := Nn) (lo := w26.heap.size) (x := X) lq17 lq17; obtain ⟨hk28, hs28, hz28⟩ := kc hk27 hq; have hxR_28 := kx hq hxR_27; have hxm_28 := kx hq hxm_27; have hxc_28 := kx hq hxc_27; have hFy_28 := hFy_27.kp hq (Old.nn X _) lq17; unfold ndV
       refine hK.out _ _ (fun _ => hxc_28) ?_
       clear hK K
       try simp only [Act.put, xA, xB, xC]
       refine zo 3 rfl fun K hK => ?_
       go_simp
       have hro := row_made (P := Nn) (lo := w26.heap.size) (x := X) (X := X) w28 [⟨Nd.mk 0 (hd e l0).pos ⟨#[]⟩ false [] [], none, 0, none, 0⟩, ⟨T2, A2, c2, K2, d2⟩] #[.int .i64 0, .int .i64 ((hd e l0).pos), .string ⟨#[]⟩, .bool false, .slice none 0 0, .slice none 0 0, .int .i64 T2.kind, .int .i64 T2.pos, .string T2.text, .bool T2.neg, .slice A2 T2.mag.length c2, .slice K2 T2.kids.length d2] 2 rfl rfl lq17 lq17 lq16 (Old.nn X _) (by
        intro q hq; simp only [List.mem_cons, List.not_mem_nil, or_false] at hq
        rcases hq with rfl | rfl <;> assumption)
       generalize hG : w28.alloc (.cells #[.int .i64 0, .int .i64 ((hd e l0).pos), .string ⟨#[]⟩, .bool false, .slice none 0 0, .slice none 0 0, .int .i64 T2.kind, .int .i64 T2.pos, .string T2.text, .bool T2.neg, .slice A2 T2.mag.length c2, .slice K2 T2.kids.length d2] 29) = w29 at *
       obtain ⟨hb29, _, _⟩ := nb hG; clear hG; obtain ⟨hk29, hs29, hz29⟩ := kd hk28 hb29; have hP29 := hP28.later hb29; have hxR_29 := kb hb29 hxR_28; have hxm_29 := kb hb29 hxm_28; have hxc_29 := kb hb29 hxc_28; have hFy_29 := hFy_28.later hb29 (Old.nn X _); have hF2_29 := hF2_28.later hb29 (Old.nn X _)
       refine hK.out _ _ (fun _ => hxc_29) ?_
       clear hK K
       try simp only [Act.put, xA, xB, xC]
       have hFz_29 := hro.node (k := 22) (p := (hd e l0).pos) (t := ⟨#[]⟩) ⟨by decide, by decide⟩ hpos lq16 false; clear hro hFy_29 hF2_29
       refine zt 4 (.pointer (some ⟨w23.heap.size, 5, none⟩)) rfl (Or.inl ⟨by rfl, ?_⟩) hxc_29 ?_
       ·exact lv56
       try simp only [Act.put, xA, xB, xC]
       obtain ⟨k0, k1, k2, k3, k4, k5⟩ := bx_cells hxm_29; have z := Lib.frozen_of_heap hxm_29
       refine zo 5 rfl fun K hK => ?_
       go_simp
       refine hK.out _ _ (fun h => absurd rfl h) ?_
       clear hK K k0 k1 k2 k3 k4 k5 z
       try simp only [Act.put, xA, xB, xC]
       refine anyZ_end lq15 ?_ _
       have hxm_30 := bx_put5 hxm_29 (u := .slice (some ⟨w28.heap.size, 0, none⟩) 2 2); have hxR_30 := (bx_off1 (b := w23.heap.size) (i := 5) (u := .slice (some ⟨w28.heap.size, 0, none⟩) 2 2) lq17).trans hxR_29; have hxc_30 := (bx_off1 (b := w23.heap.size) (i := 5) (u := .slice (some ⟨w28.heap.size, 0, none⟩) 2 2) lq17).trans hxc_29; have hFz_30 := hFz_29.put1 (b := w23.heap.size) (i := 5) (u := .slice (some ⟨w28.heap.size, 0, none⟩) 2 2) lq17 (fun h => h.elim); have hk30 := hk29.set (w23.heap.size) 5 (.slice (some ⟨w28.heap.size, 0, none⟩) 2 2) (.inl lq17)
       have hP30 := hP29.blocks (fun k hk => bx_off1 (b := w23.heap.size) (i := 5) (u := .slice (some ⟨w28.heap.size, 0, none⟩) 2 2) lq17); have hs30 : w29.heap.size ≤ (w29.setCell ⟨w23.heap.size, 5, none⟩ (.slice (some ⟨w28.heap.size, 0, none⟩) 2 2)).heap.size := by simp [World.setCell]
       have hss30 : (w29.setCell ⟨w23.heap.size, 5, none⟩ (.slice (some ⟨w28.heap.size, 0, none⟩) 2 2)).heap.size ≤ w29.heap.size := by simp [World.setCell]
       have hz30 := hk30.size
       generalize w29.setCell ⟨w23.heap.size, 5, none⟩ (.slice (some ⟨w28.heap.size, 0, none⟩) 2 2) = w30 at *
       have hR0_30 := hRow.kp hk30 (Old.nn X _) lq17; have hlt := hRow.lt; have hA := hFz_30.away (P := Nn) (lo := w1.heap.size) (x := X) (own := (Value.slice A0 ks.length c0).ownBlock) (fun _ h => h.elim) lq17 lq17 (fun g e => by have := (hlt g e).2; omega); clear hFz_30 hlt; obtain ⟨mm0, mm1, mm2, mm3, mm4, mm5⟩ := bx_cells hxm_30; have hb31 := (Below.refl w30.heap.size w30).alloc (Nat.le_refl _) (.cells #[.int .i64 22, .int .i64 ((hd e l0).pos), .string (⟨#[]⟩), .bool false, .slice none 0 0, .slice (some ⟨w28.heap.size, 0, none⟩) 2 2] 29)
       have hbq := heap_alloc_new w30 (.cells #[.int .i64 22, .int .i64 ((hd e l0).pos), .string (⟨#[]⟩), .bool false, .slice none 0 0, .slice (some ⟨w28.heap.size, 0, none⟩) 2 2] 29); have hse31 : w30.heap.size + 1 ≤ (w30.alloc (.cells #[.int .i64 22, .int .i64 ((hd e l0).pos), .string (⟨#[]⟩), .bool false, .slice none 0 0, .slice (some ⟨w28.heap.size, 0, none⟩) 2 2] 29)).heap.size := by simp
       have hA := hA.laterA hb31 (Old.nn X _); obtain ⟨hk31, hs31, hz31⟩ := kd hk30 hb31; have hP31 := hP30.later hb31; have hxR_31 := kb hb31 hxR_30; have hxm_31 := kb hb31 hxm_30; have hxc_31 := kb hb31 hxc_30; have hR0_31 := hR0_30.later hb31 (Old.nn X _); go_wp2_with (at_builtin; refine wp_append_row (t := (Nd.mk 22 (hd e l0).pos ⟨#[]⟩ false [] [(Nd.mk 0 (hd e l0).pos ⟨#[]⟩ false [] []), T2])) rfl _ _ rfl hR0_31 rfl hA w30.heap.size rfl hbq lq17 lq17 lq17 (Old.nn X _) ?_; intro g32 cap32 w32 hRn hq hgl hgr); clear mm0 mm1 mm2 mm3 mm4 mm5
       have hkT := (hk20w.trans (hk31.mono hzw)).trans ((Kp.of_below hq X).mono lq17); have hPT := hP31.blocks (fun k hk => hq.5 k lq17); have hxT := kb hq hxR_31; have hsT := hq.size; have HE := Lh (show _ ∧ _ ∧ _ ∧ _ from ⟨hPT, hRn, hkT, hxT⟩); clear hPT hRn hkT hxT hA hbq hgr hRow hq hxR_31 hxm_31 hxc_31 hR0_31 hP31 hk31; go_wp2_with fail
       go_roundg gk
       case measure => omega
       case rel => exact ⟨ks ++ [(Nd.mk 22 (hd e l0).pos ⟨#[]⟩ false [] [(Nd.mk 0 (hd e l0).pos ⟨#[]⟩ false [] []), T2])], l2, some ⟨g32, 0, none⟩, cap32, true, by simp, rfl, Lh ⟨HE.out.1, HE.out.2.1, HE.out.2.2.1, hR, by have := tlWf ‹isW e _ l0 = true›; simp only [length_append, length_cons, length_nil]; omega, by omega, HE.out.2.2.2, by omega⟩⟩
    ·have hexc := hv; simp only [hv, yF, if_false, yO, yA] at hR; obtain ⟨hk21, hs21, hz21⟩ := kc hk20 hq; have hxR_21 := kx hq hxR_20; have hR0_21 := hR0_20.kp hq (Old.nn X _) lq17; have hFz_21 := hR0_21.node (k := 21) (p := at_) (t := ⟨#[]⟩) ⟨by decide, by decide⟩ hat lq16 false; go_wp2_with fail
     go_at_call 54
     refine (node_okA _ _ _ _ _ _ _).mono ?_
     rintro E w22 ⟨rfl, hq⟩; obtain ⟨hk22, hs22, hz22⟩ := kd hk21 hq; have hP22 := hP21.later hq; have hxR_22 := kb hq hxR_21; have hFz_22 := hFz_21.later hq (Old.nn X _); have hR0_22 := hR0_21.later hq (Old.nn X _); have hk22w := hk20w.trans (hk22.mono hzw); clear hk22; have hk22 := hk22w; obtain ⟨k0, k1, k2, k3, k4, k5⟩ := bx_cells hxR_22; have z := Lib.frozen_of_heap hxR_22; have HE := Lh (show _ ∧ _ ∧ _ from ⟨hk22, hP22, hFz_22⟩); obtain ⟨r0, r1, r2, r3, r4, r5⟩ := bp hxR_22 (.int .i64 21) (.int .i64 at_) (.string (⟨#[]⟩)) (.bool false) (.slice none 0 0) (.slice A0 ks.length c0)
     clear hxR_22 hFz_22 hR0_22 hk22 hP22; go_wp2_with fail
     refine bodyPost_ret (v := .agg #[.int .i64 21, .int .i64 at_, .string (⟨#[]⟩), .bool false, .slice none 0 0, .slice A0 ks.length c0]) (by simp [results, Tryz.results107, go_sem, r0, r1, r2, r3, r4, r5, ndV]) rfl ?_
     exact lv74
 ·simp only [hv, yF, if_false, yO, yA] at hR; obtain ⟨hk4, hs4, hz4⟩ := kc hk3 hq; have hxR_4 := kx hq hxR_3; have hRq_4 := hRq_3.kp hq (Old.nn X _) lq17; simp only [Rs.bind_bad] at hR; go_wp2_with fail
  go_at_call 182
  refine (wrong_ok hP4).mono ?_
  rintro E w5 ⟨rfl, hq⟩; go_wp2_with fail; exact ⟨rfl, retBad (hk4.below (Nat.le_refl _) hq) hR.symm⟩
end
end
end Go.Proofs.YtjndbcnmmnkilaaGreatDoor
