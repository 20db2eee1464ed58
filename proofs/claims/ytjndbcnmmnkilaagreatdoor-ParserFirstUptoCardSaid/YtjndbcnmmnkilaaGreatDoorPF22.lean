/- Joined by a program: Pe16, Pe19. -/
import Derived.Test.YtjndbcnmmnkilaaGreatDoorPF14
namespace Go.Proofs.YtjndbcnmmnkilaaGreatDoor
set_option linter.unusedVariables false
set_option linter.unusedSimpArgs false
set_option maxRecDepth 1000000
set_option maxHeartbeats 16000000
section
open Go.RowKit
open List (length_append length_cons length_nil length_singleton)
section
variable {wB nB gB : ByteArray → Bool} {nO : ByteArray → Option (List Int)} {e : Int} 
theorem RowS.first6 {P : Nat → Prop} {lo x g c : Nat} {w : World} {ks : List Nd} {t : Nd} (hr : RowS P lo x w (some ⟨g, 0, none⟩) c ks) (h0 : ks[0]? = some t) : ∃ A' c' K' d', CellsN w g 0 t A' c' K' d' ∧ St (Pt P lo x w.heap.size) w t A' c' K' d' := by
 obtain ⟨xs, h1, h2, h3⟩ := hr
 obtain ⟨A', c', K', d', k1, k2⟩ := h3 0 t h0
 have hc : ∀ j u, xs[j]? = some u → w.cell? ⟨g, j, none⟩ = some u := fun j u hj => by
  have := h1.cells (g := g) rfl j u hj; rw [Addr.add_lit, Nat.zero_add] at this; exact this
 simp only [Nat.zero_mul, Nat.zero_add] at k1
 exact ⟨A', c', K', d', ⟨hc _ _ (k1 0 lq16), hc _ _ (k1 1 lq16), hc _ _ (k1 2 lq16), hc _ _ (k1 3 lq16), hc _ _ (k1 4 lq16), hc _ _ (k1 5 lq16)⟩, k2.mono fun k q => q.1⟩
theorem badT_drop {ks : List Nd} {k : Nat} {t : Nd} (ht : ks[k]? = some t) (hi : isT t = true) : badT (ks.drop k) = badT (ks.drop (k + 1)) := by
 have hl := (List.getElem?_eq_some_iff.1 ht).1
 rw [List.drop_eq_getElem_cons hl, show ks[k] = t from (List.getElem?_eq_some_iff.1 ht).2, badT, if_pos hi]
theorem badT_here {ks : List Nd} {k : Nat} {t : Nd} (ht : ks[k]? = some t) (hi : isT t = false) : badT (ks.drop k) = some t.pos := by
 have hl := (List.getElem?_eq_some_iff.1 ht).1
 rw [List.drop_eq_getElem_cons hl, show ks[k] = t from (List.getElem?_eq_some_iff.1 ht).2, badT, if_neg (by rw [hi]; decide)]
theorem pTargets_ok (hD : Deps wB nB gB nO) (hC : Cst wB) (D : Nat) (HAs' : ∀ k, k ≤ D → PA e (Pp nB gB nO e k)) : CN e 102 (fun l => s_targets (Pp nB gB nO e D) l) := by
 intro X l w hP0 hne
 obtain ⟨R, hR⟩ : ∃ R, s_targets (Pp nB gB nO e D) l = R := ⟨_, rfl⟩
 simp only [hR] at hne ⊢
 unfold s_targets at hR
 have HAs := Lh HAs'
 clear HAs'
 have HA := HAs.out D (Nat.le_refl _)
 have hXl := hP0.lt
 have hk0 : Kp w.heap.size X w w := Kp.refl _ _ _
 have hz0 := hk0.size
 go_enter Tryz.func102, Tryz.ntmps102
 go_upto_region 1 with fail
 generalize hG : w.alloc zN = w1 at *
 obtain ⟨hb1, hxR_1, _⟩ := nb hG
 clear hG
 obtain ⟨hk1, _, _⟩ := kd hk0 hb1
 have hP1 := hP0.later hb1
 have n1 := Rs.ne_of hR hne
 go_wp2_with fail
 go_at_call 180
 refine (HA.ppostfix X _ _ hP1 n1).mono ?_
 rintro E w2 hE
 rcases hE with ⟨cc, aa, hv, rfl, hq⟩ | ⟨T9, l9, A9, c9, K9, d9, hv, rfl, hP2, hF9_2, hq⟩
 ·exact lv61
 rw [hv] at hR
 simp only [yO, yA] at hR
 clear hv n1
 have hF9_2 := hF9_2.intoN (P := Nn) (lo := w1.heap.size) (x := X) lq17 lq17
 obtain ⟨hk2, _, _⟩ := kc hk1 hq
 have hxR_2 := kx hq hxR_1
 unfold ndV
 have hro := row_made (P := Nn) (lo := w1.heap.size) (x := X) (X := X) w2 [⟨T9, A9, c9, K9, d9⟩] #[.int .i64 T9.kind, .int .i64 T9.pos, .string T9.text, .bool T9.neg, .slice A9 T9.mag.length c9, .slice K9 T9.kids.length d9] 1 rfl rfl lq17 lq17 lq16 (Old.nn X _) (by
  intro q hq; simp only [List.mem_cons, List.not_mem_nil, or_false] at hq
  rcases hq with rfl <;> assumption)
 go_upto_region 2 with fail
 generalize hG : w2.alloc (oN T9 A9 c9 K9 d9) = w3 at *
 obtain ⟨hb3, _, _⟩ := nb hG
 clear hG
 obtain ⟨hk3, _, _⟩ := kd hk2 hb3
 have hP3 := hP2.later hb3
 have hxR_3 := kb hb3 hxR_2
 have hF9_3 := hF9_2.later hb3 (Old.nn X _)
 have hln := hP3.ln
 have hpos9 := hF9_3.now.parts.2.2.2.2.2.2.2.1
 go_loopg [3] D (fun k v wr => ∃ (ks : List Nd) (l' : List Tok) (A : Option Addr) (c : Nat), v = .slice A ks.length c ∧ Hid (Pz e wr X l' ∧ RowS Nn w1.heap.size X wr A c ks ∧ Kp w.heap.size X w wr ∧ ((Pp nB gB nO e k).qtargL ks l').bind (fun ks r => match badT ks with | some a => .bad 108 a | none => .ok (match ks with | [x] => x | _ => Nd.mk 23 T9.pos ⟨#[]⟩ false [] ks) r) = R ∧ ks.length + l'.length ≤ 1000001 ∧ k ≤ D ∧ ks[0]? = some T9 ∧ wr.heap[w.heap.size]? = some (.cells #[.int .i64 0, .int .i64 0, .string ⟨#[]⟩, .bool false, .slice none 0 0, .slice none 0 0] 29) ∧ w1.heap.size ≤ wr.heap.size))
 case atStart => exact ⟨[T9], l9, _, 1, rfl, Lh ⟨hP3, hro, hk3, hR, by simp only [length_cons, length_nil]; omega, Nat.le_refl _, rfl, hxR_3, by omega⟩⟩
 case round =>
  obtain ⟨ks, l0, A0, c0, rfl, hH⟩ := hrel; obtain ⟨hP20, hR0_20, hk20, hRk, hN, hgk, hfst, hxR_20, hw1r⟩ := hH.out; clear hH hP3 hro hk3 hR HA hxR_3 hF9_3
  cases gk with
  | zero => exact absurd hRk.symm hne
  | succ gk =>
   have hR : (s_targL e (Pp nB gB nO e gk) ks l0).bind (fun ks r => match badT ks with | some a => .bad 108 a | none => .ok (match ks with | [x] => x | _ => Nd.mk 23 T9.pos ⟨#[]⟩ false [] ks) r) = R := hRk; clear hRk; unfold s_targL at hR; have HA := HAs.out gk lq17; have hz20 := hk20.size; have hEF := ef_all nB gB nO e gk; go_wp2_with fail
   go_at_call 98
   refine (takeS_ok hD hC.s_2c hP20).mono ?_
   rintro E w21 hE
   rcases hE with ⟨hv, rfl, hP21, hq⟩ | ⟨hv, rfl, hP21, hq⟩
   ·simp only [hv, if_true, yO, yA] at hR; obtain ⟨hk21, hs21, hz21⟩ := kc hk20 hq; have hxR_21 := kx hq hxR_20; have hR0_21 := hR0_20.kp hq (Old.nn X _) lq17; have hcm := ‹isS e _ l0 = true›; have hlt := hR0_21.lt; have n1 := Rs.ne_of hR hne; go_wp2_with fail
    go_at_call 180
    refine (HA.ppostfix X _ _ hP21 n1).mono ?_
    rintro E w22 hE
    rcases hE with ⟨cc, aa, hv, rfl, hq⟩ | ⟨T1, l1, A1, c1, K1, d1, hv, rfl, hP22, hF1, hq⟩
    ·rw [hv] at hR; go_wp2_with fail; exact ⟨rfl, retBad (hk21.call (Nat.le_refl _) hq) hR.symm⟩
    rw [hv] at hR; simp only [yO, yA] at hR; have hle := hEF.epostfix _ _ _ hv; clear hv n1; have hA := hF1.away (P := Nn) (lo := w1.heap.size) (x := X) (own := (Value.slice A0 ks.length c0).ownBlock) (fun _ h => h.elim) lq17 lq17 (fun g e => (hlt g e).2); clear hF1 hlt; obtain ⟨hk22, _, _⟩ := kc hk21 hq; have hxR_22 := kx hq hxR_21; have hR0_22 := hR0_21.kp hq (Old.nn X _) lq17; unfold ndV; have hb23 := (Below.refl w22.heap.size w22).alloc (Nat.le_refl _) (.cells #[.int .i64 T1.kind, .int .i64 T1.pos, .string T1.text, .bool T1.neg, .slice A1 T1.mag.length c1, .slice K1 T1.kids.length d1] 29)
    have hbq := heap_alloc_new w22 (.cells #[.int .i64 T1.kind, .int .i64 T1.pos, .string T1.text, .bool T1.neg, .slice A1 T1.mag.length c1, .slice K1 T1.kids.length d1] 29); have hse23 : w22.heap.size + 1 ≤ (w22.alloc (.cells #[.int .i64 T1.kind, .int .i64 T1.pos, .string T1.text, .bool T1.neg, .slice A1 T1.mag.length c1, .slice K1 T1.kids.length d1] 29)).heap.size := by simp
    have hA := hA.laterA hb23 (Old.nn X _); obtain ⟨hk23, _, _⟩ := kd hk22 hb23; have hP23 := hP22.later hb23; have hxR_23 := kb hb23 hxR_22; have hR0_23 := hR0_22.later hb23 (Old.nn X _); go_wp2_with (at_builtin; refine wp_append_row rfl _ _ rfl hR0_23 rfl hA w22.heap.size rfl hbq lq17 lq17 lq17 (Old.nn X _) ?_; intro g24 cap24 w24 hRn hq hgl hgr); have hk24 := hk23.trans ((Kp.of_below hq X).mono lq17); have hs24 := hq.size; have hz24 := hk24.size; have hP24 := hP23.blocks (fun k hk => hq.5 k lq17); have hxR_24 := kb hq hxR_23; have hR0_24 := hRn; clear hRn hA hbq hgr hxR_23 hR0_23 hP23
    have HE := Lh (show _ ∧ _ ∧ _ ∧ _ from ⟨hP24, hR0_24, hk24, hxR_24⟩); clear hP24 hR0_24 hk24 hxR_24; go_wp2_with fail
    go_roundg gk
    case measure => omega
    case rel => exact ⟨ks ++ [T1], l1, some ⟨g24, 0, none⟩, cap24, by simp, Lh ⟨HE.out.1, HE.out.2.1, HE.out.2.2.1, hR, by have := tlSf hcm; simp only [length_append, length_cons, length_nil]; omega, by omega, by rw [List.getElem?_append_left (List.getElem?_eq_some_iff.1 hfst).1]; exact hfst, HE.out.2.2.2, by omega⟩⟩
   ·simp only [hv, yF, if_false, yO, yA] at hR; obtain ⟨hk21, hs21, hz21⟩ := kc hk20 hq; have hxR_21 := kx hq hxR_20; have hR0_21 := hR0_20.kp hq (Old.nn X _) lq17; obtain ⟨g0, hA0, _, _, hp0, hl0⟩ := hR0_21.first hfst; subst hA0; have hform := hR0_21.form; obtain ⟨hf1, hf2⟩ := hform; unfold maxLen at hf2; have i1 : (0 : Int) < (ks.length : Int) := by omega
    have hnk : ks.length ≤ 1000001 := by omega
    have HR0 := Lh (fun V (hb : Below w21.heap.size w21 V) => hR0_21.later hb (Old.nn X _)); have HP0 := Lh (fun V (hb : Below w21.heap.size w21 V) => hP21.later hb); have HX0 := Lh (fun V (hb : Below w21.heap.size w21 V) => (hb.5 w.heap.size lq17).trans hxR_21); have HR := Lh hR; have HK0 := Lh hk21; clear hP21 hR0_21 hxR_21 hR hN hgk; obtain ⟨wb, hwb⟩ : ∃ V, V = w21 := ⟨_, rfl⟩; have hwb' := Lh hwb; clear hwb; go_wp2_with fail
    go_loopw [18] (fun iv wr => ∃ k : Nat, iv = .int .i64 k ∧ k ≤ ks.length ∧ Hid (badT ks = badT (ks.drop k)) ∧ Below w21.heap.size w21 wr) (fun iv _ => ks.length - (intOf iv).toNat)
    case atStart => exact ⟨0, rfl, Nat.zero_le _, Lh rfl, Below.refl _ _⟩
    case round =>
     obtain ⟨k, rfl, hk, hbt, hbr⟩ := hrel
     by_cases hkl : k < ks.length
     ·have o1 : decide ((k : Int) < (ks.length : Int)) = true := dTo; have o2 : decide (k < ks.length) = true := dTr hkl; obtain ⟨t, ht⟩ : ∃ t, ks[k]? = some t := ⟨_, List.getElem?_eq_getElem hkl⟩; obtain ⟨b, off, A1, c1, K1, d1, hKe, hC, hNt⟩ := ((HR0.out wr hbr).kids (W := wr) fun _ _ => rfl).kid ht; injection hKe with hKe
      injection hKe with e1 e2
      subst e1 e2; rw [Nat.zero_add, Nat.zero_add] at hC; obtain ⟨n0, n1, n2, n3, n4, n5⟩ := hC; have hb1 := (Below.refl wr.heap.size wr).alloc (Nat.le_refl _) (.cells #[.int .i64 t.kind, .int .i64 t.pos, .string t.text, .bool t.neg, .slice A1 t.mag.length c1, .slice K1 t.kids.length d1] 29); have hx1 := heap_alloc_new wr (.cells #[.int .i64 t.kind, .int .i64 t.pos, .string t.text, .bool t.neg, .slice A1 t.mag.length c1, .slice K1 t.kids.length d1] 29); have hk64 := hNt.parts.2.2.2.2.2.2.1
      go_upto_region 7 with fail
      generalize wr.alloc (oN t A1 c1 K1 d1) = w40 at *
      obtain ⟨j0, j1, j2, j3, j4, j5⟩ := bx_cells hx1; have hbw := hbr.trans (hb1.mono hbr.size); clear n0 n1 n2 n3 n4 n5 hx1; go_wp2_with fail
      go_at_call 181
      refine (target_ok t _ _ _ _ _ hk64).mono ?_
      rintro E w41 ⟨hE, hq⟩; have hbq := hbw.trans (hq.mono hbw.size)
      rcases hE with ⟨hv, rfl⟩ | ⟨hv, rfl⟩
      ·go_wp2_with fail
       go_roundw
       case rel => exact ⟨k + 1, by go_num, by omega, Lh (hbt.out.trans (badT_drop ht hv)), hbq⟩
       case measure => simp [intOf]; omega
      ·have hbad := hbt.out.trans (badT_here ht hv); have hR := HR.out; simp only [Rs.bind_ok, hbad] at hR; go_wp2_with fail; exact ⟨rfl, retBad (HK0.out.below (Nat.le_refl _) hbq) hR.symm⟩
     ·have o1 : decide ((k : Int) < (ks.length : Int)) = false := dFo; have o2 : decide (k < ks.length) = false := dFa hkl; have hnone : badT ks = none := by rw [hbt.out, List.drop_eq_nil_of_le lq17]; rfl
      have hR := HR.out; simp only [Rs.bind_ok, hnone] at hR; have hP50 := HP0.out wr hbr; have hR0_50 := HR0.out wr hbr; have hxR_50 := HX0.out wr hbr; have hk50 := HK0.out.below (Nat.le_refl _) hbr; have hz50 := hk50.size; have hs50 := hbr.size; clear HR HP0 HR0 HX0 HK0 hbt
      by_cases hl1 : ks.length = 1
      ·have hR : Rs.ok T9 l0 = R := by
        obtain ⟨x, hx⟩ := List.length_eq_one_iff.1 hl1; have hf := hfst; rw [hx] at hf; have hf : x = T9 := by simpa using hf
        rw [← hR, hx, ← hf]
       have o5 : ((ks.length : Int) == 1) = true := by rw [hl1]; rfl
       clear hl1; obtain ⟨Av, cv, Kv, dv, hC, hFx_50⟩ := hR0_50.first6 hfst; obtain ⟨n0, n1, n2, n3, n4, n5⟩ := hC.box; clear hR0_50 hC hnone hfst; have HE := Lh (show _ ∧ _ ∧ _ from ⟨hk50, hP50, hFx_50⟩); obtain ⟨k0, k1, k2, k3, k4, k5⟩ := bx_cells hxR_50; have z := Lib.frozen_of_heap hxR_50; obtain ⟨r0, r1, r2, r3, r4, r5⟩ := bp hxR_50 (.int .i64 T9.kind) (.int .i64 T9.pos) (.string T9.text) (.bool T9.neg) (.slice Av T9.mag.length cv) (.slice Kv T9.kids.length dv); clear hxR_50 hFx_50 hk50 hP50; go_wp2_with fail
       refine bodyPost_ret (v := .agg #[.int .i64 T9.kind, .int .i64 T9.pos, .string T9.text, .bool T9.neg, .slice Av T9.mag.length cv, .slice Kv T9.kids.length dv]) (by simp [results, Tryz.results102, go_sem, r0, r1, r2, r3, r4, r5, ndV]) rfl ?_
       exact lv74
      ·have hR : Rs.ok (Nd.mk 23 T9.pos ⟨#[]⟩ false [] ks) l0 = R := by
        rw [← hR]
        rcases ks with _ | ⟨x, _ | ⟨y, r⟩⟩
        ·exact absurd hl0 (Nat.lt_irrefl _)
        ·exact absurd rfl hl1
        ·rfl
       have o5 : ((ks.length : Int) == 1) = false := bFo; obtain ⟨_, hgg, k0, k1, _, _⟩ := hR0_50.first hfst; injection hgg with hgg
       injection hgg with hgg
       subst hgg; have hFz_50 := hR0_50.node (k := 23) (p := T9.pos) (t := ⟨#[]⟩) ⟨by decide, by decide⟩ hp0 lq16 false; go_wp2_with fail
       go_at_call 54
       refine (node_okA _ _ _ _ _ _ _).mono ?_
       rintro E w51 ⟨rfl, hq⟩; obtain ⟨hk51, _, _⟩ := kd hk50 hq; have hP51 := hP50.later hq; have hxR_51 := kb hq hxR_50; have hFz_51 := hFz_50.later hq (Old.nn X _); have hR0_51 := hR0_50.later hq (Old.nn X _); clear k0 k1; obtain ⟨k0, k1, k2, k3, k4, k5⟩ := bx_cells hxR_51; have z := Lib.frozen_of_heap hxR_51; have HE := Lh (show _ ∧ _ ∧ _ from ⟨hk51, hP51, hFz_51⟩); obtain ⟨r0, r1, r2, r3, r4, r5⟩ := bp hxR_51 (.int .i64 23) (.int .i64 (T9.pos)) (.string (⟨#[]⟩)) (.bool false) (.slice none 0 0) (.slice (some ⟨g0, 0, none⟩) ks.length c0); clear hxR_51 hFz_51 hR0_51 hk51 hP51
       go_wp2_with fail
       refine bodyPost_ret (v := .agg #[.int .i64 23, .int .i64 (T9.pos), .string (⟨#[]⟩), .bool false, .slice none 0 0, .slice (some ⟨g0, 0, none⟩) ks.length c0]) (by simp [results, Tryz.results102, go_sem, r0, r1, r2, r3, r4, r5, ndV]) rfl ?_
       exact lv74
end
theorem notT_ok (T : Nd) (A : Option Addr) (c : Nat) (K : Option Addr) (d : Nat) (w : World) (hk : I64 T.kind) :
  Calls Tryz.prog 250 #[.agg #[.int .i64 T.kind, .int .i64 T.pos, .string T.text, .bool T.neg, .slice A T.mag.length c, .slice K T.kids.length d]] w fun E w' => E = .returned (.bool (!isT T)) ∧ Below w.heap.size w w' := by
 have hb1 := (Below.refl w.heap.size w).alloc (Nat.le_refl _) (.cells #[.int .i64 T.kind, .int .i64 T.pos, .string T.text, .bool T.neg, .slice A T.mag.length c, .slice K T.kids.length d] 29)
 have hx1 := heap_alloc_new w (.cells #[.int .i64 T.kind, .int .i64 T.pos, .string T.text, .bool T.neg, .slice A T.mag.length c, .slice K T.kids.length d] 29)
 go_enter Tryz.func250, Tryz.ntmps250
 go_upto_region 1 with fail
 generalize w.alloc (oN T A c K d) = w1 at *
 obtain ⟨k0, k1, k2, k3, k4, k5⟩ := bx_cells hx1
 clear hx1
 go_wp2_with fail
 go_at_call 213
 refine (target_is T A c K d w1 hk).mono ?_
 rintro E w2 ⟨rfl, hb2⟩
 go_wp2_with fail
 go_ret
 exact ⟨rfl, hb1.trans (hb2.mono hb1.size)⟩
theorem anyN_take {ks : List Nd} {k : Nat} {t : Nd} (h : ks[k]? = some t) : (ks.take (k + 1)).any (fun t => !isT t) = ((ks.take k).any (fun t => !isT t) || !isT t) := by
 rw [List.take_succ_eq_append_getElem (List.getElem?_eq_some_iff.1 h).1, List.any_append]
 simp [(List.getElem?_eq_some_iff.1 h).2]
theorem anyN_le {ks : List Nd} {k : Nat} (h : (ks.take k).any (fun t => !isT t) = true) : ks.any (fun t => !isT t) = true := by
 rw [List.any_eq_true] at h ⊢
 obtain ⟨q, hp, h⟩ := h
 exact ⟨q, List.mem_of_mem_take hp, h⟩
section
variable (ks : List Nd) (m c : Nat) (K : Option Addr) (w : World) (hm : ks.length = m) (hmc : m ≤ c) (hc : c ≤ maxLen) (hK : KidsAt w ks K 0)
include ks m c K w hm hmc hc hK
theorem idxN_ok :
  Calls Tryz.prog 290 #[.slice K m c, .func (.func 250) #[] #[]] w fun E w' => (∃ r : Int, E = .returned (.int .i64 r) ∧ ((0 ≤ r ∧ ks.any (fun t => !isT t) = true) ∨ (r = -1 ∧ ks.any (fun t => !isT t) = false))) ∧ Below w.heap.size w w' := by
 have _ := hmc
 unfold maxLen at hc
 have HK := Lh (fun W (hb : Below w.heap.size w W) => hK.later hb)
 have HM := Lh hm
 clear hK hm
 go_enter Tryz.func290, Tryz.ntmps290
 go_wp2_with fail
 go_loopw [8] (fun iv wr => ∃ k : Nat, iv = .int .i64 k ∧ k ≤ m ∧ Hid ((ks.take k).any (fun t => !isT t) = false) ∧ Below w.heap.size w wr) (fun iv _ => m - (intOf iv).toNat)
 case atStart => exact ⟨0, rfl, Nat.zero_le _, Lh rfl, Below.refl _ _⟩
 case round =>
  obtain ⟨k, rfl, hk, hR, hbr⟩ := hrel
  by_cases hkl : k < m
  ·have o1 : decide ((k : Int) < (m : Int)) = true := dTo; have o2 : decide (k < m) = true := dTr hkl; obtain ⟨t, ht⟩ : ∃ t, ks[k]? = some t := ⟨_, List.getElem?_eq_getElem (by rw [HM.out]; exact hkl)⟩; obtain ⟨b, off, A1, c1, K1, d1, hKe, hC, hNt⟩ := (HK.out wr hbr).kid ht; subst hKe; rw [Nat.zero_add] at hC; obtain ⟨n0, n1, n2, n3, n4, n5⟩ := hC; have hT1 := anyN_take ht; have HI := Lh (notT_ok t A1 c1 K1 d1 wr hNt.parts.2.2.2.2.2.2.1); have HT1 := Lh hT1; clear hT1 hNt ht
   cases hpt : isT t with
   | false =>
    rw [hpt] at HI HT1; go_wp2_with fail
    go_at_call 250
    refine HI.out.mono ?_
    rintro E w3 ⟨rfl, hb3⟩; go_wp2_with fail; go_ret; exact ⟨⟨k, rfl, .inl ⟨by omega, anyN_le (HT1.out.trans lq18)⟩⟩, hbr.trans (hb3.mono hbr.size)⟩
   | true =>
    rw [hpt] at HI HT1; go_wp2_with fail
    go_at_call 250
    refine HI.out.mono ?_
    exact lv37
  ·exact lv34
theorem hasN_ok :
  Calls Tryz.prog 249 #[.slice K m c, .func (.func 250) #[] #[]] w fun E w' => E = .returned (.bool (ks.any fun t => !isT t)) ∧ Below w.heap.size w w' := by
 have HI := Lh (idxN_ok ks m c K w hm hmc hc hK)
 clear hK hm
 go_enter Tryz.func249, Tryz.ntmps249
 go_wp2_with fail
 go_at_call 290
 refine HI.out.mono ?_
 rintro E w3 ⟨⟨r, rfl, hr⟩, hb3⟩
 go_wp2_with fail
 go_ret
 refine ⟨?_, hb3⟩
 show Ending.returned (.bool (decide (0 ≤ r))) = _
 rcases hr with ⟨h1, h2⟩ | ⟨h1, h2⟩
 ·rw [h2, dTr h1]
 ·rw [h2, h1]; rfl
end

end
end Go.Proofs.YtjndbcnmmnkilaaGreatDoor
