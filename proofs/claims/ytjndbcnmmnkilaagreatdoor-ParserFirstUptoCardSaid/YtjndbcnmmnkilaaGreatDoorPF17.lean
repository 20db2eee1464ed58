/- Joined by a program: Pe9. -/
import Derived.Test.YtjndbcnmmnkilaaGreatDoorPF14
namespace Go.Proofs.YtjndbcnmmnkilaaGreatDoor
set_option linter.unusedVariables false
set_option linter.unusedSimpArgs false
set_option maxRecDepth 1000000
set_option maxHeartbeats 16000000
section
open Go.RowKit
open List (length_append length_cons length_nil length_singleton)
section
variable {wB nB gB : ByteArray → Bool} {nO : ByteArray → Option (List Int)} {e : Int} 
theorem pPostfix_ok (hD : Deps wB nB gB nO) (hC : Cst wB) (D : Nat) (HAs' : ∀ k, k ≤ D → PA e (Pp nB gB nO e k)) : CN e 180 (fun l => s_postfix (Pp nB gB nO e D) l) := by
 intro X l w hP0 hne
 obtain ⟨R, hR⟩ : ∃ R, s_postfix (Pp nB gB nO e D) l = R := ⟨_, rfl⟩
 simp only [hR] at hne ⊢
 unfold s_postfix at hR
 have HAs := Lh HAs'
 clear HAs'
 have HA := HAs.out D (Nat.le_refl _)
 have hXl := hP0.lt
 have hk0 : Kp w.heap.size X w w := Kp.refl _ _ _
 have hz0 := hk0.size
 go_enter Tryz.func180, Tryz.ntmps180
 go_upto_region 1 with fail
 generalize hG : w.alloc zN = w1 at *
 obtain ⟨hb1, hxR_1, _⟩ := nb hG
 clear hG
 obtain ⟨hk1, _, _⟩ := kd hk0 hb1
 have hP1 := hP0.later hb1
 have n1 := Rs.ne_of hR hne
 go_wp2_with fail
 go_at_call 243
 refine (HA.patom X _ _ hP1 n1).mono ?_
 rintro E w2 hE
 rcases hE with ⟨cc, aa, hv, rfl, hq⟩ | ⟨T1, l1, A1, c1, K1, d1, hv, rfl, hP2, hF1_2, hq⟩
 ·exact lv61
 rw [hv] at hR
 simp only [yO, yA] at hR
 clear hv n1
 have hF1_2 := hF1_2.intoN (P := Nn) (lo := w.heap.size + 1) (x := X) lq17 lq17
 obtain ⟨hk2, _, _⟩ := kc hk1 hq
 have hxR_2 := kx hq hxR_1
 unfold ndV
 have hF1_2 := hF1_2.setx (x' := w2.heap.size) lq17
 go_wp2_with fail
 generalize hG : w2.alloc (oN T1 A1 c1 K1 d1) = w3 at *
 obtain ⟨hb3, hxn_3, _⟩ := nb hG
 clear hG
 obtain ⟨hk3, _, _⟩ := kd hk2 hb3
 have hP3 := hP2.later hb3
 have hxR_3 := kb hb3 hxR_2
 have hF1_3 := hF1_2.later hb3 (Old.nn X _)
 go_loopg [] D (fun k wr => ∃ (T : Nd) (l' : List Tok) (A : Option Addr) (c : Nat) (K : Option Addr) (d : Nat), Hid (Pz e wr X l' ∧ wr.heap[w2.heap.size]? = some (.cells #[.int .i64 T.kind, .int .i64 T.pos, .string T.text, .bool T.neg, .slice A T.mag.length c, .slice K T.kids.length d] 29) ∧ wr.heap[w.heap.size]? = some (.cells #[.int .i64 0, .int .i64 0, .string ⟨#[]⟩, .bool false, .slice none 0 0, .slice none 0 0] 29) ∧ St (Pt Nn (w.heap.size + 1) w2.heap.size wr.heap.size) wr T A c K d ∧ Kp w.heap.size X w wr ∧ (Pp nB gB nO e k).qpostL T l' = R ∧ k ≤ D ∧ w2.heap.size < wr.heap.size))
 case atStart => exact ⟨T1, l1, A1, c1, K1, d1, Lh ⟨hP3, hxn_3, hxR_3, hF1_3, hk3, hR, Nat.le_refl _, by omega⟩⟩
 case round =>
  obtain ⟨T2, l2, A2, c2, K2, d2, hH⟩ := hrel; obtain ⟨hP10, hxn_10, hxR_10, hF2_10, hk10, hRk, hgk, hwn⟩ := hH.out; clear hH hP3 hxn_3 hxR_3 hF1_3 hk3 hR HA
  cases gk with
  | zero => exact absurd hRk.symm hne
  | succ gk =>
   have hR : s_postL nB e (Pp nB gB nO e gk) T2 l2 = R := hRk; unfold s_postL at hR; clear hRk; have hz10 := hk10.size; have HA := HAs.out gk lq17; go_wp2_with fail
   go_at_call 98
   refine (takeS_ok hD hC.s_28 hP10).mono ?_
   rintro E w11 hE
   rcases hE with ⟨hv, rfl, hP11, hq⟩ | ⟨hv, rfl, hP11, hq⟩
   ·simp only [hv, if_true, yO, yA] at hR; obtain ⟨hk11, hs11, hz11⟩ := kc hk10 hq; have hxR_11 := kx hq hxR_10; have hxn_11 := kx hq hxn_10; have hF2_11 := hF2_10.kp hq (Old.nn X _) lq17; obtain ⟨mn0, mn1, mn2, mn3, mn4, mn5⟩ := bx_cells hxn_11
    have hro := row_made (P := Nn) (lo := w.heap.size + 1) (x := w2.heap.size) (X := X) w11 [⟨T2, A2, c2, K2, d2⟩] #[.int .i64 T2.kind, .int .i64 T2.pos, .string T2.text, .bool T2.neg, .slice A2 T2.mag.length c2, .slice K2 T2.kids.length d2] 1 rfl rfl lq17 lq17 lq16 (Old.nn X _) (by
     intro q hq; simp only [List.mem_cons, List.not_mem_nil, or_false] at hq
     rcases hq with rfl <;> assumption)
    go_upto_region 5 with fail
    clear mn0 mn1 mn2 mn3 mn4 mn5
    generalize hG : w11.alloc (oN T2 A2 c2 K2 d2) = w12 at *
    obtain ⟨hb12, _, _⟩ := nb hG; clear hG; obtain ⟨hk12, hs12, hz12⟩ := kd hk11 hb12; have hP12 := hP11.later hb12; have hxR_12 := kb hb12 hxR_11; have hxn_12 := kb hb12 hxn_11; have hF2_12 := hF2_11.later hb12 (Old.nn X _); have hRr_12 := hro; clear hro; go_wp2_with fail
    go_at_call 176
    refine (is1S_ok hD hC.s_29 hP12).mono ?_
    rintro E w13 ⟨hE, hP13, hq⟩
    rcases hE with ⟨hv, rfl⟩ | ⟨hv, rfl⟩
    ·simp only [hv, if_true, yO, yA] at hR; obtain ⟨hk13, hs13, hz13⟩ := kc hk12 hq; have hxR_13 := kx hq hxR_12; have hxn_13 := kx hq hxn_12; have hF2_13 := hF2_12.kp hq (Old.nn X _) lq17; have hRr_13 := hRr_12.kp hq (Old.nn X _) lq17; go_wp2_with fail
     go_at_call 103
     refine (needS_ok hD hC.s_29 hP13).mono ?_
     rintro E w14 hE
     rcases hE with ⟨hv, rfl, hP14, hq⟩ | ⟨hv, rfl, hq⟩
     rotate_left 1
     ·simp only [needS, hv, Bool.false_eq_true, if_false, Rs.bind_bad] at hR; go_wp2_with fail; exact ⟨rfl, retBad (hk13.call (Nat.le_refl _) hq) hR.symm⟩
     simp only [needS, hv, if_true, Rs.bind_ok, Rs.bind_assoc] at hR; obtain ⟨hk14, hs14, hz14⟩ := kc hk13 hq; have hxR_14 := kx hq hxR_13; have hxn_14 := kx hq hxn_13; have hF2_14 := hF2_13.kp hq (Old.nn X _) lq17; have hRr_14 := hRr_13.kp hq (Old.nn X _) lq17; obtain ⟨mn0, mn1, mn2, mn3, mn4, mn5⟩ := bx_cells hxn_14; have hFz_14 := hRr_14.node (k := 51) (p := T2.pos) (t := ⟨#[]⟩) ⟨by decide, by decide⟩ hF2_14.now.parts.2.2.2.2.2.2.2.1 lq16 false; go_wp2_with fail
     go_at_call 54
     refine (node_okA _ _ _ _ _ _ _).mono ?_
     rintro E w15 ⟨rfl, hq⟩; obtain ⟨hk15, hs15, hz15⟩ := kd hk14 hq; have hP15 := hP14.later hq; have hxR_15 := kb hq hxR_14; have hxn_15 := kb hq hxn_14; have hF2_15 := hF2_14.later hq (Old.nn X _); have hFz_15 := hFz_14.later hq (Old.nn X _); have hRr_15 := hRr_14.later hq (Old.nn X _); clear mn0 mn1 mn2 mn3 mn4 mn5; obtain ⟨k0, k1, k2, k3, k4, k5⟩ := bx_cells hxn_15; have z := Lib.frozen_of_heap hxn_15
     have hxR_16 := (bx_off (w := w15) (b := w2.heap.size) (u0 := .int .i64 51) (u1 := .int .i64 (T2.pos)) (u2 := .string (⟨#[]⟩)) (u3 := .bool false) (u4 := .slice none 0 0) (u5 := .slice (some ⟨w11.heap.size, 0, none⟩) 1 1) lq17).trans hxR_15; have hFz_16 := hFz_15.put6 (b := w2.heap.size) (u0 := .int .i64 51) (u1 := .int .i64 (T2.pos)) (u2 := .string (⟨#[]⟩)) (u3 := .bool false) (u4 := .slice none 0 0) (u5 := .slice (some ⟨w11.heap.size, 0, none⟩) 1 1) (.inl rfl) (fun h => h.elim)
     have hxn_16 := bx_put hxn_15 (u0 := .int .i64 51) (u1 := .int .i64 (T2.pos)) (u2 := .string (⟨#[]⟩)) (u3 := .bool false) (u4 := .slice none 0 0) (u5 := .slice (some ⟨w11.heap.size, 0, none⟩) 1 1); have hk16 := bx_kp hk15 (b := w2.heap.size) (u0 := .int .i64 51) (u1 := .int .i64 (T2.pos)) (u2 := .string (⟨#[]⟩)) (u3 := .bool false) (u4 := .slice none 0 0) (u5 := .slice (some ⟨w11.heap.size, 0, none⟩) 1 1) lq17
     have hP16 := hP15.blocks (fun k hk => bx_off (w := w15) (b := w2.heap.size) (u0 := .int .i64 51) (u1 := .int .i64 (T2.pos)) (u2 := .string (⟨#[]⟩)) (u3 := .bool false) (u4 := .slice none 0 0) (u5 := .slice (some ⟨w11.heap.size, 0, none⟩) 1 1) lq17); have hsF := bx_size (w := w15) (b := w2.heap.size) (u0 := .int .i64 51) (u1 := .int .i64 (T2.pos)) (u2 := .string (⟨#[]⟩)) (u3 := .bool false) (u4 := .slice none 0 0) (u5 := .slice (some ⟨w11.heap.size, 0, none⟩) 1 1); have HE := Lh (show _ ∧ _ ∧ _ ∧ _ ∧ _ ∧ _ from ⟨hP16, hxn_16, hxR_16, hFz_16, hk16, hsF⟩)
     clear hsF hxR_15 hxn_15 hF2_15 hFz_15 hRr_15 hP15 hk15 hP16 hxn_16 hxR_16 hFz_16 hk16; go_wp2_with fail
     go_roundg gk
     case measure => omega
     case rel => exact ⟨Nd.mk 51 (T2.pos) (⟨#[]⟩) false [] [T2], _, none, 0, (some ⟨w11.heap.size, 0, none⟩), 1, Lh ⟨HE.out.1, HE.out.2.1, HE.out.2.2.1, HE.out.2.2.2.1, HE.out.2.2.2.2.1, hR, by omega, Nat.lt_of_lt_of_le (show w2.heap.size < w15.heap.size by omega) (Nat.le_of_eq HE.out.2.2.2.2.2.symm)⟩⟩
    ·simp only [hv, yF, if_false, yO, yA] at hR; obtain ⟨hk13, hs13, hz13⟩ := kc hk12 hq; have hxR_13 := kx hq hxR_12; have hxn_13 := kx hq hxn_12; have hF2_13 := hF2_12.kp hq (Old.nn X _) lq17; have hRr_13 := hRr_12.kp hq (Old.nn X _) lq17; rw [show [T2] = [T2] ++ [] from rfl, args_pre] at hR; simp only [Rs.bind_assoc, Rs.bind_ok] at hR; have n1 := Rs.ne_of hR hne; go_wp2_with fail
     go_at_call 244
     refine (HA.pargs X _ _ hP13 n1).mono ?_
     rintro E w14 hE
     rcases hE with ⟨cc, aa, hv, rfl, hq⟩ | ⟨ks3, l3, A3, c3, hv, rfl, hP14, hR3, hq⟩
     ·rw [hv] at hR; go_wp2_with fail; exact ⟨rfl, retBad (hk13.call (Nat.le_refl _) hq) hR.symm⟩
     rw [hv] at hR; simp only [yO, yA] at hR; have hsome := args_some nB gB nO e gk _ _ _ _ _ hv; have hlen3 := args_len nB gB nO e gk 0 [] _ _ _ hv; have hlnP := hP13.ln; have hlt2 : l2.tail.length ≤ l2.length := by rw [List.length_tail]; omega
     obtain ⟨N, hN⟩ : ∃ N, [T2].length + ks3.length = N := ⟨_, rfl⟩; have hNN : N = ([T2] ++ ks3).length := by rw [← hN, length_append]
     have hbig : [T2].length + ks3.length ≤ 1000000000 := by simp only [length_cons, length_nil] at hlen3 ⊢; omega
     clear hv n1; obtain ⟨hk14, hs14, hz14⟩ := kc hk13 hq; have hxR_14 := kx hq hxR_13; have hxn_14 := kx hq hxn_13; have hF2_14 := hF2_13.kp hq (Old.nn X _) lq17; have hRr_14 := hRr_13.kp hq (Old.nn X _) lq17; have hks3 := hlen3; go_wp2_with (at_builtin; refine wp_append_rows (ks := [T2]) rfl _ _ rfl hRr_14 rfl hR3 rfl (fun k q => q.elim (fun q => q.elim) fun ⟨a, b, _⟩ => ⟨.inr ⟨by omega, b, by omega⟩, by intro e2; simp only [Value.ownBlock, Option.some.injEq] at e2; omega⟩) hsome hbig lq17 lq17 (Old.nn X _) ?_; intro g15 cap15 w15 hRn hq hgl hgr; rw [hN])
     have hk15 := hk14.trans ((Kp.of_below hq X).mono lq17); have hs15 := hq.size; have hz15 := hk15.size; have hP15 := hP14.blocks (fun k hk => hq.5 k lq17); have hown : ∀ q, q ≠ w11.heap.size → q < w14.heap.size → w15.heap[q]? = w14.heap[q]? := fun q h1 h2 => hgr.block q h2 (by simp only [Value.ownBlock, ne_eq, Option.some.injEq]; exact h1)
     have hxR_15 := (hown w.heap.size lq17 lq17).trans hxR_14; have hxn_15 := (hown w2.heap.size lq17 lq17).trans hxn_14; have hRr_15 := hRn; have hNh := Lh hNN; clear hNN hN; have hpos2 := hF2_14.now.parts.2.2.2.2.2.2.2.1; clear hRn hgr hown hR3 hP14 hxR_14 hxn_14 hF2_14 hRr_14; go_wp2_with fail
     go_at_call 103
     refine (needS_ok hD hC.s_29 hP15).mono ?_
     rintro E w16 hE
     rcases hE with ⟨hv, rfl, hP16, hq⟩ | ⟨hv, rfl, hq⟩
     rotate_left 1
     ·simp only [needS, hv, Bool.false_eq_true, if_false, Rs.bind_bad] at hR; go_wp2_with fail; exact ⟨rfl, retBad (hk15.call (Nat.le_refl _) hq) hR.symm⟩
     simp only [needS, hv, if_true, Rs.bind_ok, Rs.bind_assoc] at hR; obtain ⟨hk16, hs16, hz16⟩ := kc hk15 hq; have hxR_16 := kx hq hxR_15; have hxn_16 := kx hq hxn_15; have hRr_16 := hRr_15.kp hq (Old.nn X _) lq17; obtain ⟨mn0, mn1, mn2, mn3, mn4, mn5⟩ := bx_cells hxn_16; have hFz_16 := hRr_16.node (k := 51) (p := T2.pos) (t := ⟨#[]⟩) ⟨by decide, by decide⟩ hpos2 lq16 false; go_wp2_with fail
     go_at_call 54
     refine (node_okA _ _ _ _ _ _ _).mono ?_
     rintro E w17 ⟨rfl, hq⟩; obtain ⟨hk17, _, hz17⟩ := kd hk16 hq; have hP17 := hP16.later hq; have hxR_17 := kb hq hxR_16; have hxn_17 := kb hq hxn_16; have hFz_17 := hFz_16.later hq (Old.nn X _); have hRr_17 := hRr_16.later hq (Old.nn X _); clear mn0 mn1 mn2 mn3 mn4 mn5; obtain ⟨k0, k1, k2, k3, k4, k5⟩ := bx_cells hxn_17; have z := Lib.frozen_of_heap hxn_17; have hxR_18 := (bx_off (w := w17) (b := w2.heap.size) (u0 := .int .i64 51) (u1 := .int .i64 (T2.pos)) (u2 := .string (⟨#[]⟩)) (u3 := .bool false) (u4 := .slice none 0 0) (u5 := .slice (some ⟨g15, 0, none⟩) N cap15) lq17).trans hxR_17
     have hFz_18 := hFz_17.put6 (b := w2.heap.size) (u0 := .int .i64 51) (u1 := .int .i64 (T2.pos)) (u2 := .string (⟨#[]⟩)) (u3 := .bool false) (u4 := .slice none 0 0) (u5 := .slice (some ⟨g15, 0, none⟩) N cap15) (.inl rfl) (fun h => h.elim); have hxn_18 := bx_put hxn_17 (u0 := .int .i64 51) (u1 := .int .i64 (T2.pos)) (u2 := .string (⟨#[]⟩)) (u3 := .bool false) (u4 := .slice none 0 0) (u5 := .slice (some ⟨g15, 0, none⟩) N cap15)
     have hk18 := bx_kp hk17 (b := w2.heap.size) (u0 := .int .i64 51) (u1 := .int .i64 (T2.pos)) (u2 := .string (⟨#[]⟩)) (u3 := .bool false) (u4 := .slice none 0 0) (u5 := .slice (some ⟨g15, 0, none⟩) N cap15) lq17; have hP18 := hP17.blocks (fun k hk => bx_off (w := w17) (b := w2.heap.size) (u0 := .int .i64 51) (u1 := .int .i64 (T2.pos)) (u2 := .string (⟨#[]⟩)) (u3 := .bool false) (u4 := .slice none 0 0) (u5 := .slice (some ⟨g15, 0, none⟩) N cap15) lq17)
     have hsF := bx_size (w := w17) (b := w2.heap.size) (u0 := .int .i64 51) (u1 := .int .i64 (T2.pos)) (u2 := .string (⟨#[]⟩)) (u3 := .bool false) (u4 := .slice none 0 0) (u5 := .slice (some ⟨g15, 0, none⟩) N cap15); have HE := Lh (show _ ∧ _ ∧ _ ∧ _ ∧ _ ∧ _ from ⟨hP18, hxn_18, hxR_18, hFz_18, hk18, hsF⟩); clear hsF hxR_17 hxn_17 hFz_17 hRr_17 hP17 hk17 hP18 hxn_18 hxR_18 hFz_18 hk18; go_wp2_with fail
     go_roundg gk
     case measure => omega
     case rel => have hNN := hNh.out; subst hNN; exact ⟨Nd.mk 51 (T2.pos) (⟨#[]⟩) false [] ([T2] ++ ks3), _, none, 0, (some ⟨g15, 0, none⟩), cap15, Lh ⟨HE.out.1, HE.out.2.1, HE.out.2.2.1, HE.out.2.2.2.1, HE.out.2.2.2.2.1, hR, by omega, Nat.lt_of_lt_of_le (show w2.heap.size < w17.heap.size by omega) (Nat.le_of_eq HE.out.2.2.2.2.2.symm)⟩⟩
   ·simp only [hv, yF, if_false, yO, yA] at hR; obtain ⟨hk11, hs11, hz11⟩ := kc hk10 hq; have hxR_11 := kx hq hxR_10; have hxn_11 := kx hq hxn_10; have hF2_11 := hF2_10.kp hq (Old.nn X _) lq17; go_wp2_with fail
    go_at_call 98
    refine (takeS_ok hD hC.s_2e hP11).mono ?_
    rintro E w12 hE
    rcases hE with ⟨hv, rfl, hP12, hq⟩ | ⟨hv, rfl, hP12, hq⟩
    ·simp only [hv, if_true, yO, yA] at hR; obtain ⟨hk12, hs12, hz12⟩ := kc hk11 hq; have hxR_12 := kx hq hxR_11; have hxn_12 := kx hq hxn_11; have hF2_12 := hF2_11.kp hq (Old.nn X _) lq17
     go_upto_region 10 with fail
     refine region_anyZ (fun W => W.heap[w2.heap.size]? = some (.cells #[.int .i64 T2.kind, .int .i64 T2.pos, .string T2.text, .bool T2.neg, .slice A2 T2.mag.length c2, .slice K2 T2.kids.length d2] 29)) 8 lq15 ?_
     refine zt 0 (.pointer (some ⟨w2.heap.size, 1, none⟩)) rfl (Or.inl ⟨by rfl, ?_⟩) hxn_12 ?_
     ·exact lv56
     try simp only [Act.put, xA, xB, xC]
     refine zt 1 (.int .i64 T2.pos) rfl (Or.inl ⟨by rfl, ?_⟩) hxn_12 ?_
     ·exact lv56
     try simp only [Act.put, xA, xB, xC]
     refine zt 2 (.pointer (some ⟨X, 0, none⟩)) rfl (Or.inl ⟨by rfl, ?_⟩) hxn_12 ?_
     ·exact lv56
     try simp only [Act.put, xA, xB, xC]
     refine zt 5 (.agg #[.int .i64 T2.kind, .int .i64 T2.pos, .string T2.text, .bool T2.neg, .slice A2 T2.mag.length c2, .slice K2 T2.kids.length d2]) rfl (Or.inl ⟨by rfl, ?_⟩) hxn_12 ?_
     ·exact lv56
     try simp only [Act.put, xA, xB, xC]
     have htok := hP12.hd; have hts : (hd e l2.tail).text.size ≤ maxLen := by have := htok.2.2; unfold maxLen; omega
     have F1x := tfield1 (hd e l2.tail).kind (hd e l2.tail).text (hd e l2.tail).pos
     refine anyZ_two (k := 3) (k' := 6) (o := _) (o' := _) lq15 rfl rfl (fun K hK => ?_) (fun K hK => ?_)
     ·go_simp
      go_at_call 184
      refine (name_ok hD (hP12.later (bl_drew (Below.refl _ _)))).mono ?_
      rintro E w13 hE
      rcases hE with ⟨hv, rfl, hP13, hq⟩ | ⟨hv, rfl, hq⟩
      rotate_left 1
      ·rw [hv] at hR; exact ⟨rfl, retBad (hk12.call (Nat.le_refl _) (kp_undrew hq)) hR.symm⟩
      rw [hv] at hR; simp only [yO, yA] at hR; clear hv; have hq := kp_undrew hq; have hdr13 : w12.drew.heap.size = w12.heap.size := rfl; obtain ⟨hk13, hs13, hz13⟩ := kc hk12 hq; have hxR_13 := kx hq hxR_12; have hxn_13 := kx hq hxn_12; have hF2_13 := hF2_12.kp hq (Old.nn X _) lq17; unfold tokA
      refine hK.out _ _ (fun _ => hxn_13) ?_
      clear hK K
      try simp only [Act.put, xA, xB, xC]
      refine zt 4 (.string (hd e l2.tail).text) rfl (Or.inl ⟨by rfl, ?_⟩) hxn_13 ?_
      ·exact lv56
      try simp only [Act.put, xA, xB, xC]
      refine zo 6 rfl fun K hK => ?_
      go_simp
      have hro := row_made (P := Nn) (lo := w.heap.size + 1) (x := w2.heap.size) (X := X) w13 [⟨T2, A2, c2, K2, d2⟩] #[.int .i64 T2.kind, .int .i64 T2.pos, .string T2.text, .bool T2.neg, .slice A2 T2.mag.length c2, .slice K2 T2.kids.length d2] 1 rfl rfl lq17 lq17 lq16 (Old.nn X _) (by
       intro q hq; simp only [List.mem_cons, List.not_mem_nil, or_false] at hq
       rcases hq with rfl <;> assumption)
      generalize hG : w13.alloc (oN T2 A2 c2 K2 d2) = w14 at *
      obtain ⟨hb14, _, _⟩ := nb hG; clear hG; obtain ⟨hk14, hs14, hz14⟩ := kd hk13 hb14; have hP14 := hP13.later hb14; have hxR_14 := kb hb14 hxR_13; have hxn_14 := kb hb14 hxn_13; have hF2_14 := hF2_13.later hb14 (Old.nn X _)
      refine hK.out _ _ (fun _ => hxn_14) ?_
      clear hK K
      try simp only [Act.put, xA, xB, xC]
      have hFz_14 := hro.node (k := 53) (p := T2.pos) (t := (hd e l2.tail).text) ⟨by decide, by decide⟩ hF2_14.now.parts.2.2.2.2.2.2.2.1 hts false; clear hro
      refine zo 7 rfl fun K hK => ?_
      go_simp
      go_at_call 54
      refine (node_okA _ _ _ _ _ _ _).mono ?_
      rintro E w15 ⟨rfl, hq⟩; obtain ⟨hk15, hs15, hz15⟩ := kd hk14 hq; have hP15 := hP14.later hq; have hxR_15 := kb hq hxR_14; have hxn_15 := kb hq hxn_14; have hF2_15 := hF2_14.later hq (Old.nn X _); have hFz_15 := hFz_14.later hq (Old.nn X _)
      refine hK.out _ _ (fun _ => hxn_15) ?_
      clear hK K
      try simp only [Act.put, xA, xB, xC]
      obtain ⟨k0, k1, k2, k3, k4, k5⟩ := bx_cells hxn_15; have z := Lib.frozen_of_heap hxn_15
      refine zo 8 rfl fun K hK => ?_
      go_simp
      refine hK.out _ _ (fun h => absurd rfl h) ?_
      clear hK K k0 k1 k2 k3 k4 k5 z
      try simp only [Act.put, xA, xB, xC]
      refine anyZ_end lq15 ?_ _
      have hxR_16 := (bx_off (w := w15) (b := w2.heap.size) (u0 := .int .i64 53) (u1 := .int .i64 (T2.pos)) (u2 := .string (hd e l2.tail).text) (u3 := .bool false) (u4 := .slice none 0 0) (u5 := .slice (some ⟨w13.heap.size, 0, none⟩) 1 1) lq17).trans hxR_15; have hFz_16 := hFz_15.put6 (b := w2.heap.size) (u0 := .int .i64 53) (u1 := .int .i64 (T2.pos)) (u2 := .string (hd e l2.tail).text) (u3 := .bool false) (u4 := .slice none 0 0) (u5 := .slice (some ⟨w13.heap.size, 0, none⟩) 1 1) (.inl rfl) (fun h => h.elim)
      have hxn_16 := bx_put hxn_15 (u0 := .int .i64 53) (u1 := .int .i64 (T2.pos)) (u2 := .string (hd e l2.tail).text) (u3 := .bool false) (u4 := .slice none 0 0) (u5 := .slice (some ⟨w13.heap.size, 0, none⟩) 1 1); have hk16 := bx_kp hk15 (b := w2.heap.size) (u0 := .int .i64 53) (u1 := .int .i64 (T2.pos)) (u2 := .string (hd e l2.tail).text) (u3 := .bool false) (u4 := .slice none 0 0) (u5 := .slice (some ⟨w13.heap.size, 0, none⟩) 1 1) lq17
      have hP16 := hP15.blocks (fun k hk => bx_off (w := w15) (b := w2.heap.size) (u0 := .int .i64 53) (u1 := .int .i64 (T2.pos)) (u2 := .string (hd e l2.tail).text) (u3 := .bool false) (u4 := .slice none 0 0) (u5 := .slice (some ⟨w13.heap.size, 0, none⟩) 1 1) lq17); have hsF := bx_size (w := w15) (b := w2.heap.size) (u0 := .int .i64 53) (u1 := .int .i64 (T2.pos)) (u2 := .string (hd e l2.tail).text) (u3 := .bool false) (u4 := .slice none 0 0) (u5 := .slice (some ⟨w13.heap.size, 0, none⟩) 1 1); have HE := Lh (show _ ∧ _ ∧ _ ∧ _ ∧ _ ∧ _ from ⟨hP16, hxn_16, hxR_16, hFz_16, hk16, hsF⟩)
      clear hsF hxR_15 hxn_15 hF2_15 hFz_15 hP15 hk15 hP16 hxn_16 hxR_16 hFz_16 hk16; go_wp2_with fail
      go_roundg gk
      case measure => omega
      case rel => exact ⟨Nd.mk 53 T2.pos (hd e l2.tail).text false [] [T2], _, none, 0, (some ⟨w13.heap.size, 0, none⟩), 1, Lh ⟨HE.out.1, HE.out.2.1, HE.out.2.2.1, HE.out.2.2.2.1, HE.out.2.2.2.2.1, hR, by omega, Nat.lt_of_lt_of_le (show w2.heap.size < w15.heap.size by omega) (Nat.le_of_eq HE.out.2.2.2.2.2.symm)⟩⟩
     ·go_simp
      have hro := row_made (P := Nn) (lo := w.heap.size + 1) (x := w2.heap.size) (X := X) w12 [⟨T2, A2, c2, K2, d2⟩] #[.int .i64 T2.kind, .int .i64 T2.pos, .string T2.text, .bool T2.neg, .slice A2 T2.mag.length c2, .slice K2 T2.kids.length d2] 1 rfl rfl lq17 lq17 lq16 (Old.nn X _) (by
       intro q hq; simp only [List.mem_cons, List.not_mem_nil, or_false] at hq
       rcases hq with rfl <;> assumption)
      have hro := hro.move (w' := (w12.alloc (.cells #[.int .i64 T2.kind, .int .i64 T2.pos, .string T2.text, .bool T2.neg, .slice A2 T2.mag.length c2, .slice K2 T2.kids.length d2] 29)).drew) (fun _ _ => rfl) (Nat.le_refl _); have hb13 := bl_drew ((Below.refl w12.heap.size w12).alloc (Nat.le_refl _) (.cells #[.int .i64 T2.kind, .int .i64 T2.pos, .string T2.text, .bool T2.neg, .slice A2 T2.mag.length c2, .slice K2 T2.kids.length d2] 29))
      have hse13 : w12.heap.size + 1 ≤ ((w12.alloc (.cells #[.int .i64 T2.kind, .int .i64 T2.pos, .string T2.text, .bool T2.neg, .slice A2 T2.mag.length c2, .slice K2 T2.kids.length d2] 29)).drew).heap.size := (show w12.heap.size + 1 ≤ (w12.alloc (.cells #[.int .i64 T2.kind, .int .i64 T2.pos, .string T2.text, .bool T2.neg, .slice A2 T2.mag.length c2, .slice K2 T2.kids.length d2] 29)).heap.size by simp)
      generalize (w12.alloc (.cells #[.int .i64 T2.kind, .int .i64 T2.pos, .string T2.text, .bool T2.neg, .slice A2 T2.mag.length c2, .slice K2 T2.kids.length d2] 29)).drew = w13 at *
      obtain ⟨hk13, hs13, hz13⟩ := kd hk12 hb13; have hP13 := hP12.later hb13; have hxR_13 := kb hb13 hxR_12; have hxn_13 := kb hb13 hxn_12; have hF2_13 := hF2_12.later hb13 (Old.nn X _)
      refine hK.out _ _ (fun _ => hxn_13) ?_
      clear hK K
      try simp only [Act.put, xA, xB, xC]
      have hRr_13 := hro; clear hro
      refine zo 3 rfl fun K hK => ?_
      go_simp
      go_at_call 184
      refine (name_ok hD hP13).mono ?_
      rintro E w14 hE
      rcases hE with ⟨hv, rfl, hP14, hq⟩ | ⟨hv, rfl, hq⟩
      rotate_left 1
      ·rw [hv] at hR; exact ⟨rfl, retBad (hk13.call (Nat.le_refl _) hq) hR.symm⟩
      rw [hv] at hR; simp only [yO, yA] at hR; clear hv; obtain ⟨hk14, hs14, hz14⟩ := kc hk13 hq; have hxR_14 := kx hq hxR_13; have hxn_14 := kx hq hxn_13; have hF2_14 := hF2_13.kp hq (Old.nn X _) lq17; have hRr_14 := hRr_13.kp hq (Old.nn X _) lq17; unfold tokA
      refine hK.out _ _ (fun _ => hxn_14) ?_
      clear hK K
      try simp only [Act.put, xA, xB, xC]
      refine zt 4 (.string (hd e l2.tail).text) rfl (Or.inl ⟨by rfl, ?_⟩) hxn_14 ?_
      ·exact lv56
      try simp only [Act.put, xA, xB, xC]
      have hFz_14 := hRr_14.node (k := 53) (p := T2.pos) (t := (hd e l2.tail).text) ⟨by decide, by decide⟩ hF2_14.now.parts.2.2.2.2.2.2.2.1 hts false
      refine zo 7 rfl fun K hK => ?_
      go_simp
      go_at_call 54
      refine (node_okA _ _ _ _ _ _ _).mono ?_
      rintro E w15 ⟨rfl, hq⟩; obtain ⟨hk15, hs15, hz15⟩ := kd hk14 hq; have hP15 := hP14.later hq; have hxR_15 := kb hq hxR_14; have hxn_15 := kb hq hxn_14; have hF2_15 := hF2_14.later hq (Old.nn X _); have hFz_15 := hFz_14.later hq (Old.nn X _); have hRr_15 := hRr_14.later hq (Old.nn X _)
      refine hK.out _ _ (fun _ => hxn_15) ?_
      clear hK K
      try simp only [Act.put, xA, xB, xC]
      obtain ⟨k0, k1, k2, k3, k4, k5⟩ := bx_cells hxn_15; have z := Lib.frozen_of_heap hxn_15
      refine zo 8 rfl fun K hK => ?_
      go_simp
      refine hK.out _ _ (fun h => absurd rfl h) ?_
      clear hK K k0 k1 k2 k3 k4 k5 z
      try simp only [Act.put, xA, xB, xC]
      refine anyZ_end lq15 ?_ _
      have hxR_16 := (bx_off (w := w15) (b := w2.heap.size) (u0 := .int .i64 53) (u1 := .int .i64 (T2.pos)) (u2 := .string ((hd e l2.tail).text)) (u3 := .bool false) (u4 := .slice none 0 0) (u5 := .slice (some ⟨w12.heap.size, 0, none⟩) 1 1) lq17).trans hxR_15; have hFz_16 := hFz_15.put6 (b := w2.heap.size) (u0 := .int .i64 53) (u1 := .int .i64 (T2.pos)) (u2 := .string ((hd e l2.tail).text)) (u3 := .bool false) (u4 := .slice none 0 0) (u5 := .slice (some ⟨w12.heap.size, 0, none⟩) 1 1) (.inl rfl) (fun h => h.elim)
      have hxn_16 := bx_put hxn_15 (u0 := .int .i64 53) (u1 := .int .i64 (T2.pos)) (u2 := .string ((hd e l2.tail).text)) (u3 := .bool false) (u4 := .slice none 0 0) (u5 := .slice (some ⟨w12.heap.size, 0, none⟩) 1 1); have hk16 := bx_kp hk15 (b := w2.heap.size) (u0 := .int .i64 53) (u1 := .int .i64 (T2.pos)) (u2 := .string ((hd e l2.tail).text)) (u3 := .bool false) (u4 := .slice none 0 0) (u5 := .slice (some ⟨w12.heap.size, 0, none⟩) 1 1) lq17
      have hP16 := hP15.blocks (fun k hk => bx_off (w := w15) (b := w2.heap.size) (u0 := .int .i64 53) (u1 := .int .i64 (T2.pos)) (u2 := .string ((hd e l2.tail).text)) (u3 := .bool false) (u4 := .slice none 0 0) (u5 := .slice (some ⟨w12.heap.size, 0, none⟩) 1 1) lq17); have hsF := bx_size (w := w15) (b := w2.heap.size) (u0 := .int .i64 53) (u1 := .int .i64 (T2.pos)) (u2 := .string ((hd e l2.tail).text)) (u3 := .bool false) (u4 := .slice none 0 0) (u5 := .slice (some ⟨w12.heap.size, 0, none⟩) 1 1); have HE := Lh (show _ ∧ _ ∧ _ ∧ _ ∧ _ ∧ _ from ⟨hP16, hxn_16, hxR_16, hFz_16, hk16, hsF⟩)
      clear hsF hxR_15 hxn_15 hF2_15 hFz_15 hRr_15 hP15 hk15 hP16 hxn_16 hxR_16 hFz_16 hk16; go_wp2_with fail
      go_roundg gk
      case measure => omega
      case rel => exact ⟨Nd.mk 53 (T2.pos) ((hd e l2.tail).text) false [] [T2], _, none, 0, (some ⟨w12.heap.size, 0, none⟩), 1, Lh ⟨HE.out.1, HE.out.2.1, HE.out.2.2.1, HE.out.2.2.2.1, HE.out.2.2.2.2.1, hR, by omega, Nat.lt_of_lt_of_le (show w2.heap.size < w15.heap.size by omega) (Nat.le_of_eq HE.out.2.2.2.2.2.symm)⟩⟩
    ·simp only [hv, yF, if_false, yO, yA] at hR; obtain ⟨hk12, hs12, hz12⟩ := kc hk11 hq; have hxR_12 := kx hq hxR_11; have hxn_12 := kx hq hxn_11; have hF2_12 := hF2_11.kp hq (Old.nn X _) lq17; go_wp2_with fail
     go_at_call 98
     refine (takeS_ok hD hC.s_5b hP12).mono ?_
     rintro E w13 hE
     rcases hE with ⟨hv, rfl, hP13, hq⟩ | ⟨hv, rfl, hP13, hq⟩
     ·simp only [hv, if_true, yO, yA] at hR; obtain ⟨hk13, hs13, hz13⟩ := kc hk12 hq; have hxR_13 := kx hq hxR_12; have hxn_13 := kx hq hxn_12; have hF2_13 := hF2_12.kp hq (Old.nn X _) lq17; have n1 := Rs.ne_of hR hne
      go_upto_region 12 with fail
      refine region_anyZ (fun W => W.heap[w2.heap.size]? = some (.cells #[.int .i64 T2.kind, .int .i64 T2.pos, .string T2.text, .bool T2.neg, .slice A2 T2.mag.length c2, .slice K2 T2.kids.length d2] 29)) 7 lq15 ?_
      refine zt 0 (.pointer (some ⟨w2.heap.size, 1, none⟩)) rfl (Or.inl ⟨by rfl, ?_⟩) hxn_13 ?_
      ·exact lv56
      try simp only [Act.put, xA, xB, xC]
      refine zt 1 (.int .i64 T2.pos) rfl (Or.inl ⟨by rfl, ?_⟩) hxn_13 ?_
      ·exact lv56
      try simp only [Act.put, xA, xB, xC]
      refine zt 2 (.agg #[.int .i64 T2.kind, .int .i64 T2.pos, .string T2.text, .bool T2.neg, .slice A2 T2.mag.length c2, .slice K2 T2.kids.length d2]) rfl (Or.inl ⟨by rfl, ?_⟩) hxn_13 ?_
      ·exact lv56
      try simp only [Act.put, xA, xB, xC]
      refine zt 3 (.pointer (some ⟨X, 0, none⟩)) rfl (Or.inl ⟨by rfl, ?_⟩) hxn_13 ?_
      ·exact lv56
      try simp only [Act.put, xA, xB, xC]
      refine zo 4 rfl fun K hK => ?_
      go_simp
      go_at_call 104
      refine (HA.pexprs X _ _ (hP13.later (bl_drew (Below.refl _ _))) n1).mono ?_
      rintro E w14 hE
      rcases hE with ⟨cc, aa, hv, rfl, hq⟩ | ⟨T3, l3, A3, c3, K3, d3, hv, rfl, hP14, hF3_14, hq⟩
      ·rw [hv] at hR; exact ⟨rfl, retBad (hk13.call (Nat.le_refl _) (kp_undrew hq)) hR.symm⟩
      rw [hv] at hR; simp only [yO, yA] at hR; clear hv n1; have hq := kp_undrew hq; have hdr14 : w13.drew.heap.size = w13.heap.size := rfl; have hF3_14 := hF3_14.intoN (P := Nn) (lo := w.heap.size + 1) (x := w2.heap.size) lq17 lq17; obtain ⟨hk14, hs14, hz14⟩ := kc hk13 hq; have hxR_14 := kx hq hxR_13; have hxn_14 := kx hq hxn_13; have hF2_14 := hF2_13.kp hq (Old.nn X _) lq17; unfold ndV
      refine hK.out _ _ (fun _ => hxn_14) ?_
      clear hK K
      try simp only [Act.put, xA, xB, xC]
      refine zo 5 rfl fun K hK => ?_
      go_simp
      have hro := row_made (P := Nn) (lo := w.heap.size + 1) (x := w2.heap.size) (X := X) w14 [⟨T2, A2, c2, K2, d2⟩, ⟨T3, A3, c3, K3, d3⟩] #[.int .i64 T2.kind, .int .i64 T2.pos, .string T2.text, .bool T2.neg, .slice A2 T2.mag.length c2, .slice K2 T2.kids.length d2, .int .i64 T3.kind, .int .i64 T3.pos, .string T3.text, .bool T3.neg, .slice A3 T3.mag.length c3, .slice K3 T3.kids.length d3] 2 rfl rfl lq17 lq17 lq16 (Old.nn X _) (by
       intro q hq; simp only [List.mem_cons, List.not_mem_nil, or_false] at hq
       rcases hq with rfl | rfl <;> assumption)
      generalize hG : w14.alloc (.cells #[.int .i64 T2.kind, .int .i64 T2.pos, .string T2.text, .bool T2.neg, .slice A2 T2.mag.length c2, .slice K2 T2.kids.length d2, .int .i64 T3.kind, .int .i64 T3.pos, .string T3.text, .bool T3.neg, .slice A3 T3.mag.length c3, .slice K3 T3.kids.length d3] 29) = w15 at *
      obtain ⟨hb15, _, _⟩ := nb hG; clear hG; obtain ⟨hk15, hs15, hz15⟩ := kd hk14 hb15; have hP15 := hP14.later hb15; have hxR_15 := kb hb15 hxR_14; have hxn_15 := kb hb15 hxn_14; have hF2_15 := hF2_14.later hb15 (Old.nn X _); have hF3_15 := hF3_14.later hb15 (Old.nn X _)
      refine hK.out _ _ (fun _ => hxn_15) ?_
      clear hK K
      try simp only [Act.put, xA, xB, xC]
      have hFz_15 := hro.node (k := 54) (p := T2.pos) (t := ⟨#[]⟩) ⟨by decide, by decide⟩ hF2_15.now.parts.2.2.2.2.2.2.2.1 lq16 false; clear hro
      refine zo 6 rfl fun K hK => ?_
      go_simp
      go_at_call 54
      refine (node_okA _ _ _ _ _ _ _).mono ?_
      rintro E w16 ⟨rfl, hq⟩; obtain ⟨hk16, hs16, hz16⟩ := kd hk15 hq; have hP16 := hP15.later hq; have hxR_16 := kb hq hxR_15; have hxn_16 := kb hq hxn_15; have hF2_16 := hF2_15.later hq (Old.nn X _); have hF3_16 := hF3_15.later hq (Old.nn X _); have hFz_16 := hFz_15.later hq (Old.nn X _)
      refine hK.out _ _ (fun _ => hxn_16) ?_
      clear hK K
      try simp only [Act.put, xA, xB, xC]
      obtain ⟨k0, k1, k2, k3, k4, k5⟩ := bx_cells hxn_16; have z := Lib.frozen_of_heap hxn_16
      refine zo 7 rfl fun K hK => ?_
      go_simp
      refine hK.out _ _ (fun h => absurd rfl h) ?_
      clear hK K k0 k1 k2 k3 k4 k5 z
      try simp only [Act.put, xA, xB, xC]
      refine anyZ_end lq15 ?_ _
      have hxR_17 := (bx_off (w := w16) (b := w2.heap.size) (u0 := .int .i64 54) (u1 := .int .i64 (T2.pos)) (u2 := .string ⟨#[]⟩) (u3 := .bool false) (u4 := .slice none 0 0) (u5 := .slice (some ⟨w14.heap.size, 0, none⟩) 2 2) lq17).trans hxR_16; have hFz_17 := hFz_16.put6 (b := w2.heap.size) (u0 := .int .i64 54) (u1 := .int .i64 (T2.pos)) (u2 := .string ⟨#[]⟩) (u3 := .bool false) (u4 := .slice none 0 0) (u5 := .slice (some ⟨w14.heap.size, 0, none⟩) 2 2) (.inl rfl) (fun h => h.elim)
      have hxn_17 := bx_put hxn_16 (u0 := .int .i64 54) (u1 := .int .i64 (T2.pos)) (u2 := .string ⟨#[]⟩) (u3 := .bool false) (u4 := .slice none 0 0) (u5 := .slice (some ⟨w14.heap.size, 0, none⟩) 2 2); have hk17 := bx_kp hk16 (b := w2.heap.size) (u0 := .int .i64 54) (u1 := .int .i64 (T2.pos)) (u2 := .string ⟨#[]⟩) (u3 := .bool false) (u4 := .slice none 0 0) (u5 := .slice (some ⟨w14.heap.size, 0, none⟩) 2 2) lq17
      have hP17 := hP16.blocks (fun k hk => bx_off (w := w16) (b := w2.heap.size) (u0 := .int .i64 54) (u1 := .int .i64 (T2.pos)) (u2 := .string ⟨#[]⟩) (u3 := .bool false) (u4 := .slice none 0 0) (u5 := .slice (some ⟨w14.heap.size, 0, none⟩) 2 2) lq17)
      have hsF : w16.heap.size ≤ ((((((w16.setCell ⟨w2.heap.size, 0, none⟩ (.int .i64 54)).setCell ⟨w2.heap.size, 1, none⟩ (.int .i64 (T2.pos))).setCell ⟨w2.heap.size, 2, none⟩ (.string ⟨#[]⟩)).setCell ⟨w2.heap.size, 3, none⟩ (.bool false)).setCell ⟨w2.heap.size, 4, none⟩ (.slice none 0 0)).setCell ⟨w2.heap.size, 5, none⟩ (.slice (some ⟨w14.heap.size, 0, none⟩) 2 2)).heap.size := Nat.le_of_eq bx_size.symm
      generalize ((((((w16.setCell ⟨w2.heap.size, 0, none⟩ (.int .i64 54)).setCell ⟨w2.heap.size, 1, none⟩ (.int .i64 (T2.pos))).setCell ⟨w2.heap.size, 2, none⟩ (.string ⟨#[]⟩)).setCell ⟨w2.heap.size, 3, none⟩ (.bool false)).setCell ⟨w2.heap.size, 4, none⟩ (.slice none 0 0)).setCell ⟨w2.heap.size, 5, none⟩ (.slice (some ⟨w14.heap.size, 0, none⟩) 2 2)) = w17 at *
      have hz17 := hk17.size; go_wp2_with fail
      go_at_call 103
      refine (needS_ok hD hC.s_5d hP17).mono ?_
      rintro E w18 hE
      rcases hE with ⟨hv, rfl, hP18, hq⟩ | ⟨hv, rfl, hq⟩
      rotate_left 1
      ·simp only [needS, hv, Bool.false_eq_true, if_false, Rs.bind_bad] at hR; go_wp2_with fail; exact ⟨rfl, retBad (hk17.call (Nat.le_refl _) hq) hR.symm⟩
      simp only [needS, hv, if_true, Rs.bind_ok, Rs.bind_assoc] at hR; obtain ⟨hk18, hs18, _⟩ := kc hk17 hq; have hxR_18 := kx hq hxR_17; have hxn_18 := kx hq hxn_17; have hFz_18 := hFz_17.kp hq (Old.nn X _) lq17; have HE := Lh (show _ ∧ _ ∧ _ ∧ _ ∧ _ ∧ _ from ⟨hP18, hxn_18, hxR_18, hFz_18, hk18, hs18⟩); clear hP18 hxn_18 hxR_18 hFz_18 hk18; go_wp2_with fail
      go_roundg gk
      case measure => omega
      case rel => exact ⟨Nd.mk 54 T2.pos ⟨#[]⟩ false [] [T2, T3], _, none, 0, (some ⟨w14.heap.size, 0, none⟩), 2, Lh ⟨HE.out.1, HE.out.2.1, HE.out.2.2.1, HE.out.2.2.2.1, HE.out.2.2.2.2.1, hR, by omega, by omega⟩⟩
     ·simp only [hv, yF, if_false, yO, yA] at hR; obtain ⟨hk13, hs13, hz13⟩ := kc hk12 hq; have hxR_13 := kx hq hxR_12; have hxn_13 := kx hq hxn_12; have hF2_13 := hF2_12.kp hq (Old.nn X _) lq17; have HE := Lh (show _ ∧ _ ∧ _ from ⟨hk13, hP13, hF2_13⟩); obtain ⟨k0, k1, k2, k3, k4, k5⟩ := bx_cells hxR_13; have z := Lib.frozen_of_heap hxR_13; obtain ⟨mn0, mn1, mn2, mn3, mn4, mn5⟩ := bx_cells hxn_13; obtain ⟨r0, r1, r2, r3, r4, r5⟩ := bp hxR_13 (.int .i64 T2.kind) (.int .i64 T2.pos) (.string T2.text) (.bool T2.neg) (.slice A2 T2.mag.length c2) (.slice K2 T2.kids.length d2)
      clear hxR_13 hxn_13 hF2_13 hk13 hP13; go_wp2_with fail
      refine bodyPost_ret (v := ndV T2 A2 c2 K2 d2) (by simp [results, Tryz.results180, go_sem, r0, r1, r2, r3, r4, r5, ndV]) rfl ?_
      exact lv74
end
end
end Go.Proofs.YtjndbcnmmnkilaaGreatDoor
