/- Joined by a program: Pf1, Pd7, Pe17, Pe18, Pz0, Pd8. -/
import Derived.Test.YtjndbcnmmnkilaaGreatDoorPF08
namespace Go.Proofs.YtjndbcnmmnkilaaGreatDoor
set_option linter.unusedVariables false
set_option linter.unusedSimpArgs false
set_option maxRecDepth 1000000
set_option maxHeartbeats 16000000
section
open Go.RowKit
open List (length_append length_cons length_nil length_singleton)
theorem catchP_idle (np fp : Addr) (w : World) :
  CallsD Tryz.prog 29 #[.pointer (some np), .pointer (some fp)] .returning w fun e u' w' => e = .returned (.tuple #[]) ∧ u' = .returning ∧ w' = w := by
 refine callsD_of_wpS Tryz.func29 rfl fun c₀ cs hu => ?_
 simp only [Tryz.ntmps29, List.size_toArray, length_cons, length_nil, Nat.reduceAdd, Nat.reduceSub, Array.replicate_succ, Array.replicate_zero, List.push_toArray, List.append_toArray, List.nil_append, List.cons_append]
 apply wpS_seq
 apply wpS_region
 simp [wpOpsS, go_sem, recoverD, hu, Exit.thenS]
 apply wpS_seq
 apply wpS_region
 simp [wpOpsS, go_sem, recoverD, hu, Exit.thenS]
 refine wpS_cond (t := false) (by simp [Act.eval]) ?_
 simp only [Bool.false_eq_true, if_false]
 refine wpS_of_wp (wp_skip ?_)
 cases c₀
 simp_all [bodyPostS, results, Tryz.results29]
theorem bx_two2 {w : World} {b : Nat} {v0 v1 : Value} {t : TypeId} (h : w.heap[b]? = some (.cells #[v0, v1] t)) : w.cell? ⟨b, 0, none⟩ = some v0 ∧ w.cell? ⟨b, 1, none⟩ = some v1 :=
 ⟨cell_of_row _ _ 0 _ _ _ h, cell_of_row _ _ 1 _ _ _ h⟩
theorem bx_put02 {w : World} {b : Nat} {v0 v1 u0 u1 : Value} {t : TypeId} (h : w.heap[b]? = some (.cells #[v0, v1] t)) : ((w.setCell ⟨b, 0, none⟩ u0).setCell ⟨b, 1, none⟩ u1).heap[b]? = some (.cells #[u0, u1] t) := by
 simp [World.setCell, Array.getElem?_modify, h]
theorem bx_off2 {w : World} {b k : Nat} {u0 u1 : Value} (hk : k ≠ b) : ((w.setCell ⟨b, 0, none⟩ u0).setCell ⟨b, 1, none⟩ u1).heap[k]? = w.heap[k]? := by
 rw [bx_off1 hk, bx_off1 hk]
theorem catchP_stop (nb fb : Nat) (c a : Int) (older : List PanicEntry) (w : World) {v0 v1 v2 v3 v4 v5 x0 x1 : Value} (h0 : w.heap[nb]? = some (.cells #[v0, v1, v2, v3, v4, v5] 29)) (h1 : w.heap[fb]? = some (.cells #[x0, x1] 31)) (hne : nb ≠ fb) :
  CallsD Tryz.prog 29 #[.pointer (some ⟨nb, 0, none⟩), .pointer (some ⟨fb, 0, none⟩)] (.panicking ({ v := stopP c a, recovered := false } :: older)) w fun e u' w' => e = .returned (.tuple #[]) ∧ u' = .panicking ({ v := stopP c a, recovered := true } :: older) ∧
   w'.heap[nb]? = some (.cells #[.int .i64 0, .int .i64 0, .string ⟨#[]⟩, .bool false, .slice none 0 0, .slice none 0 0] 29) ∧ w'.heap[fb]? = some (.cells #[.int .i64 c, .int .i64 a] 31) ∧ ∀ B, B ≤ nb → B ≤ fb → Below B w w' := by
 have hl : nb < w.heap.size := (Array.getElem?_eq_some_iff.1 h0).1
 have hf : fb < w.heap.size := (Array.getElem?_eq_some_iff.1 h1).1
 obtain ⟨c0, c1, c2, c3, c4, c5⟩ := bx_cells h0
 obtain ⟨d0, d1⟩ := bx_two2 h1
 have f0 := Lib.frozen_of_heap h0
 have f1 := Lib.frozen_of_heap h1
 unfold stopP
 refine callsD_of_wpS Tryz.func29 rfl fun c₀ cs hu => ?_
 simp only [Tryz.ntmps29, List.size_toArray, length_cons, length_nil, Nat.reduceAdd, Nat.reduceSub, Array.replicate_succ, Array.replicate_zero, List.push_toArray, List.append_toArray, List.nil_append, List.cons_append]
 apply wpS_seq
 apply wpS_region
 simp [wpOpsS, go_sem, recoverD, hu, Exit.thenS]
 apply wpS_seq
 apply wpS_region
 simp [wpOpsS, go_sem, recoverD, hu, Exit.thenS]
 refine wpS_of_wp ?_
 have HU := Lh hu
 clear hu
 have hta : ∀ W : World, (Instr.typeAssert (Value.iface 54 (.agg #[.int .i64 c, .int .i64 a])) 20 54 true).run Tryz.prog W = .ok (.tuple #[.agg #[.int .i64 c, .int .i64 a], .bool true]) W := fun W => by rfl
 have n1 : fb ≠ w.heap.size := by omega
 have n2 : nb ≠ w.heap.size := by omega
 have n3 : fb ≠ nb := fun e => hne e.symm
 have hH := Lh (show _ ∧ _ from ⟨h0, h1⟩)
 clear h0 h1
 go_wp2_with fail
 go_region
 obtain ⟨h0, h1⟩ := hH.out
 have k0 := (bx_off2 (w := ((((((w.setCell ⟨nb, 0, none⟩ (.int .i64 0)).setCell ⟨nb, 1, none⟩ (.int .i64 0)).setCell ⟨nb, 2, none⟩ (.string ⟨#[]⟩)).setCell ⟨nb, 3, none⟩ (.bool false)).setCell ⟨nb, 4, none⟩ (.slice none 0 0)).setCell ⟨nb, 5, none⟩ (.slice none 0 0))) (b := fb) (u0 := .int .i64 c) (u1 := .int .i64 a) hne).trans (bx_put h0 (u0 := .int .i64 0) (u1 := .int .i64 0) (u2 := .string ⟨#[]⟩) (u3 := .bool false) (u4 := .slice none 0 0) (u5 := .slice none 0 0))
 have k1 := bx_put02 (u0 := .int .i64 c) (u1 := .int .i64 a) ((bx_off (w := w) (b := nb) (u0 := .int .i64 0) (u1 := .int .i64 0) (u2 := .string ⟨#[]⟩) (u3 := .bool false) (u4 := .slice none 0 0) (u5 := .slice none 0 0) n3).trans h1)
 have hz : ∀ B, B ≤ nb → B ≤ fb → Below B w ((((((((w.setCell ⟨nb, 0, none⟩ (.int .i64 0)).setCell ⟨nb, 1, none⟩ (.int .i64 0)).setCell ⟨nb, 2, none⟩ (.string ⟨#[]⟩)).setCell ⟨nb, 3, none⟩ (.bool false)).setCell ⟨nb, 4, none⟩ (.slice none 0 0)).setCell ⟨nb, 5, none⟩ (.slice none 0 0)).setCell ⟨fb, 0, none⟩ (.int .i64 c)).setCell ⟨fb, 1, none⟩ (.int .i64 a)) := fun B b1 b2 => (((((((((Below.refl B w).setCell (p := ⟨nb, 0, none⟩) b1 _).setCell (p := ⟨nb, 1, none⟩) b1 _).setCell (p := ⟨nb, 2, none⟩) b1 _).setCell (p := ⟨nb, 3, none⟩) b1 _).setCell (p := ⟨nb, 4, none⟩) b1 _).setCell (p := ⟨nb, 5, none⟩) b1 _).setCell (p := ⟨fb, 0, none⟩) b2 _).setCell (p := ⟨fb, 1, none⟩) b2 _)
 have hs : ((((((((w.setCell ⟨nb, 0, none⟩ (.int .i64 0)).setCell ⟨nb, 1, none⟩ (.int .i64 0)).setCell ⟨nb, 2, none⟩ (.string ⟨#[]⟩)).setCell ⟨nb, 3, none⟩ (.bool false)).setCell ⟨nb, 4, none⟩ (.slice none 0 0)).setCell ⟨nb, 5, none⟩ (.slice none 0 0)).setCell ⟨fb, 0, none⟩ (.int .i64 c)).setCell ⟨fb, 1, none⟩ (.int .i64 a)).heap.size = w.heap.size := by simp
 generalize ((((((((w.setCell ⟨nb, 0, none⟩ (.int .i64 0)).setCell ⟨nb, 1, none⟩ (.int .i64 0)).setCell ⟨nb, 2, none⟩ (.string ⟨#[]⟩)).setCell ⟨nb, 3, none⟩ (.bool false)).setCell ⟨nb, 4, none⟩ (.slice none 0 0)).setCell ⟨nb, 5, none⟩ (.slice none 0 0)).setCell ⟨fb, 0, none⟩ (.int .i64 c)).setCell ⟨fb, 1, none⟩ (.int .i64 a)) = W3 at *
 have hb : Below W3.heap.size W3 (W3.alloc (.cells #[.int .i64 c, .int .i64 a] 54)).drew := bl_drew ((Below.refl _ _).alloc (Nat.le_refl _) _)
 exact ⟨rfl, _, rfl, _, results_none rfl _ _ _, rfl, rfl, (hb.5 _ lq17).trans k0, (hb.5 _ lq17).trans k1, fun B b1 b2 => (hz B b1 b2).trans (hb.mono lq17)⟩
theorem leaf_st {P : Nat → Prop} {w : World} {k p : Int} {t : ByteArray} (hk : I64 k) (hp : I64 p) (ht : t.size ≤ maxLen) : St P w (.mk k p t false [] []) none 0 none 0 := fun W _ =>
 NodeAt.of ⟨Nat.le_refl _, Nat.zero_le _, RdI.nil _ _ _, (fun z hz => by cases hz), Nat.le_refl _, Nat.zero_le _, hk, hp, ht, by show KidsAt W [] none 0; rw [KidsAt]; trivial⟩
section
variable {e : Int} {X : Nat} {P : Nat → Prop} {w W : World} {f : List Nd → Nd} {R : Rs (List Nd)}
include e X P w W f R
theorem RetK.of {ks : List Nd} {l : List Tok} {E : Ending} (h : RetN e X P w (.ok (f ks) l) E W) (hR : R = .ok ks l) : RetK e X P w f R E W := by
 rcases h with ⟨c, a, h, _⟩ | ⟨t, l', A, c, K, d, h, r⟩
 ·cases h
 ·cases h; exact .inr ⟨ks, l, _, A, c, K, d, hR, rfl, r⟩
theorem retBadK {cc a : Int} (hk : Kp w.heap.size X w W) (hR : R = .bad cc a) : RetK e X P w f R (.panicked [{ v := stopP cc a, recovered := false }]) W := .inl ⟨cc, a, hR, rfl, hk⟩
end

section
variable {wB nB gB : ByteArray → Bool} {nO : ByteArray → Option (List Int)} {e : Int} 
def posOf : List Nd → Int
 | [] => 0
 | t :: _ => t.pos
def modQ (p : Ps) (l : List Tok) : Rs Nd := (p.qstmts 9 [] l).bind fun ks r => .ok (Nd.mk 1 0 ⟨#[]⟩ false [] [Nd.mk 2 (posOf ks) ⟨#[]⟩ false [] ks]) r
theorem bx_put1 {w : World} {b : Nat} {v0 v1 v2 v3 v4 v5 u : Value} {t : TypeId} (h : w.heap[b]? = some (.cells #[v0, v1, v2, v3, v4, v5] t)) : (w.setCell ⟨b, 1, none⟩ u).heap[b]? = some (.cells #[v0, u, v2, v3, v4, v5] t) := by
 simp [World.setCell, Array.getElem?_modify, h]
theorem pModule_ok (hD : Deps wB nB gB nO) (hC : Cst wB) (D : Nat) (HAs' : ∀ k, k ≤ D → PA e (Pp nB gB nO e k)) : CN e 30 (fun l => modQ (Pp nB gB nO e D) l) := by
 intro X l w hP0 hne
 obtain ⟨R, hR⟩ : ∃ R, modQ (Pp nB gB nO e D) l = R := ⟨_, rfl⟩
 simp only [hR] at hne ⊢
 unfold modQ at hR
 have HAs := Lh HAs'
 clear HAs'
 have hln := hP0.ln
 have hXl := hP0.lt
 have hk0 : Kp w.heap.size X w w := Kp.refl _ _ _
 have hz0 := hk0.size
 go_enter Tryz.func30, Tryz.ntmps30
 go_upto_region 1 with fail
 generalize hG : w.alloc zN = w1 at *
 obtain ⟨hb1, hxR_1, _⟩ := nb hG
 clear hG
 obtain ⟨hk1, _, _⟩ := kd hk0 hb1
 have hP1 := hP0.later hb1
 have hFz_1 := (RowS.nil Nn (w.heap.size + 1) X w1).node (k := 2) (p := 0) (t := ⟨#[]⟩) ⟨by decide, by decide⟩ ⟨by decide, by decide⟩ lq16 false
 go_wp2_with fail
 go_at_call 54
 refine (node_okA _ _ _ _ _ _ _).mono ?_
 rintro E w2 ⟨rfl, hq⟩
 obtain ⟨hk2, _, _⟩ := kd hk1 hq
 have hP2 := hP1.later hq
 have hxR_2 := kb hq hxR_1
 have hFz_2 := hFz_1.later hq (Old.nn X _)
 go_upto_region 2 with fail
 generalize hG : w2.alloc (.cells #[.int .i64 2, .int .i64 0, .string (⟨#[]⟩), .bool false, .slice none 0 0, .slice none 0 0] 29) = w3 at *
 obtain ⟨hb3, hxn_3, _⟩ := nb hG
 clear hG
 obtain ⟨hk3, _, _⟩ := kd hk2 hb3
 have hP3 := hP2.later hb3
 have hxR_3 := kb hb3 hxR_2
 go_loopg [] D (fun k wr => ∃ (ks : List Nd) (l' : List Tok) (A : Option Addr) (c : Nat), Hid (Pz e wr X l' ∧ wr.heap[w2.heap.size]? = some (.cells #[.int .i64 2, .int .i64 0, .string ⟨#[]⟩, .bool false, .slice none 0 0, .slice A ks.length c] 29) ∧ wr.heap[w.heap.size]? = some (.cells #[.int .i64 0, .int .i64 0, .string ⟨#[]⟩, .bool false, .slice none 0 0, .slice none 0 0] 29) ∧ RowS Nn w3.heap.size X wr A c ks ∧ Kp w.heap.size X w wr ∧ ((Pp nB gB nO e k).qstmts 9 ks l').bind (fun ks r => .ok (Nd.mk 1 0 ⟨#[]⟩ false [] [Nd.mk 2 (posOf ks) ⟨#[]⟩ false [] ks]) r) = R ∧ ks.length + l'.length ≤ 1000001 ∧ k ≤ D ∧ w3.heap.size ≤ wr.heap.size))
 case atStart => exact ⟨[], l, none, 0, Lh ⟨hP3, hxn_3, hxR_3, RowS.nil _ _ _ _, hk3, hR, by simp only [length_nil]; omega, Nat.le_refl _, Nat.le_refl _⟩⟩
 case round =>
  obtain ⟨ks, l0, A0, c0, hH⟩ := hrel; obtain ⟨hP20, hxn_20, hxR_20, hR0_20, hk20, hRk, hN, hgk, hlor⟩ := hH.out; clear hH hP3 hxn_3 hxR_3 hk3 hR
  cases gk with
  | zero => exact absurd hRk.symm hne
  | succ gk =>
   have hR : (s_stmts e (Pp nB gB nO e gk) 9 ks l0).bind (fun ks r => .ok (Nd.mk 1 0 ⟨#[]⟩ false [] [Nd.mk 2 (posOf ks) ⟨#[]⟩ false [] ks]) r) = R := hRk; clear hRk; unfold s_stmts at hR; have HA := HAs.out gk lq17; have hz20 := hk20.size; have hEF := ef_all nB gB nO e gk
   by_cases h9 : (hd e l0).kind = 9
   ·have o1 : ((hd e l0).kind != 9) = false := by simp [h9]
    rw [if_pos h9] at hR; simp only [Rs.bind_ok] at hR; clear h9; go_wp2_with fail
    go_at_call 55
    refine (next_ok hP20).mono ?_
    rintro E w21 ⟨rfl, hq⟩; obtain ⟨hk21, hs21, hz21⟩ := kd hk20 hq; have hP21 := hP20.later hq; have hxR_21 := kb hq hxR_20; have hxn_21 := kb hq hxn_20; have hR0_21 := hR0_20.later hq (Old.nn X _); have F0_21 := tfield0 (hd e l0).kind (hd e l0).text (hd e l0).pos; unfold tokA
    by_cases h0 : ks.length = 0
    ·have hks : ks = [] := List.length_eq_zero_iff.1 h0; subst hks; have o3 : decide ((0 : Int) < (([] : List Nd).length : Int)) = false := rfl; obtain ⟨mn0, mn1, mn2, mn3, mn4, mn5⟩ := bx_cells hxn_21; have hpb : I64 0 := ⟨by decide, by decide⟩; have hFb_21 := hR0_21.node (k := 2) (p := 0) (t := ⟨#[]⟩) ⟨by decide, by decide⟩ hpb lq16 false; go_wp2_with fail
     have hro := row_made (P := Nn) (lo := w3.heap.size) (x := X) (X := X) w21 [⟨Nd.mk 2 0 ⟨#[]⟩ false [] [], none, 0, A0, c0⟩] #[.int .i64 2, .int .i64 0, .string ⟨#[]⟩, .bool false, .slice none 0 0, .slice A0 0 c0] 1 rfl rfl lq17 lq17 lq16 (Old.nn X _) (by
      intro q hq; simp only [List.mem_cons, List.not_mem_nil, or_false] at hq
      rcases hq with rfl <;> assumption)
     generalize hG : w21.alloc (.cells #[.int .i64 2, .int .i64 0, .string ⟨#[]⟩, .bool false, .slice none 0 0, .slice A0 0 c0] 29) = w22 at *
     obtain ⟨hb22, _, _⟩ := nb hG; clear hG; obtain ⟨hk22, hs22, hz22⟩ := kd hk21 hb22; have hP22 := hP21.later hb22; have hxR_22 := kb hb22 hxR_21; have hxn_22 := kb hb22 hxn_21; have hFb_22 := hFb_21.later hb22 (Old.nn X _); have hR0_22 := hR0_21.later hb22 (Old.nn X _); have hFz_22 := hro.node (k := 1) (p := 0) (t := ⟨#[]⟩) ⟨by decide, by decide⟩ ⟨by decide, by decide⟩ lq16 false; clear hro; go_wp2_with fail
     go_at_call 54
     refine (node_okA _ _ _ _ _ _ _).mono ?_
     rintro E w23 ⟨rfl, hq⟩; obtain ⟨hk23, hs23, hz23⟩ := kd hk22 hq; have hP23 := hP22.later hq; have hxR_23 := kb hq hxR_22; have hxn_23 := kb hq hxn_22; have hFb_23 := hFb_22.later hq (Old.nn X _); have hFz_23 := hFz_22.later hq (Old.nn X _); have hR0_23 := hR0_22.later hq (Old.nn X _); obtain ⟨k0, k1, k2, k3, k4, k5⟩ := bx_cells hxR_23; have z := Lib.frozen_of_heap hxR_23; have HE := Lh (show _ ∧ _ ∧ _ from ⟨hk23, hP23, hFz_23⟩)
     obtain ⟨r0, r1, r2, r3, r4, r5⟩ := bp hxR_23 (.int .i64 1) (.int .i64 0) (.string ⟨#[]⟩) (.bool false) (.slice none 0 0) (.slice (some ⟨w21.heap.size, 0, none⟩) 1 1); clear hxR_23 hxn_23 hFb_23 hFz_23 hR0_23 hk23 hP23; go_wp2_with fail
     refine bodyPost_ret (v := .agg #[.int .i64 1, .int .i64 0, .string ⟨#[]⟩, .bool false, .slice none 0 0, .slice (some ⟨w21.heap.size, 0, none⟩) 1 1]) (by simp [results, Tryz.results30, go_sem, r0, r1, r2, r3, r4, r5, ndV]) rfl ?_
     exact lv74
    ·obtain ⟨t, ht⟩ : ∃ t, ks[0]? = some t := ⟨_, gEo⟩; obtain ⟨g0, hA0, k0, k1, hpb, hl0⟩ := hR0_21.first ht; subst hA0; have hform := hR0_21.form; obtain ⟨hf1, hf2⟩ := hform; unfold maxLen at hf2; have i1 : (0 : Int) < (ks.length : Int) := by omega
     have o3 : decide ((0 : Int) < (ks.length : Int)) = true := dTr i1; have o4 : decide (0 < ks.length) = true := dTr hl0; have hpos : posOf ks = t.pos := by cases ks with | nil => cases ht | cons a r => cases ht; rfl
     rw [hpos] at hR; clear hpos h0; obtain ⟨mn0, mn1, mn2, mn3, mn4, mn5⟩ := bx_cells hxn_21; have z := Lib.frozen_of_heap hxn_21
     go_upto_region 6 with fail
     have hxn_22 := bx_put1 hxn_21 (u := .int .i64 t.pos); have hxR_22 := (bx_off1 (b := w2.heap.size) (i := 1) (u := .int .i64 t.pos) lq17).trans hxR_21; have hR0_22 := hR0_21.put1 (b := w2.heap.size) (i := 1) (u := .int .i64 t.pos) lq17 (fun h => h.elim); have hk22 := hk21.set (w2.heap.size) 1 (.int .i64 t.pos) (.inl lq17); have hP22 := hP21.blocks (fun k hk => bx_off1 (b := w2.heap.size) (i := 1) (u := .int .i64 t.pos) lq17); have hs22 : w21.heap.size ≤ (w21.setCell ⟨w2.heap.size, 1, none⟩ (.int .i64 t.pos)).heap.size := by simp [World.setCell]
     have hz22 := hk22.size; clear mn0 mn1 mn2 mn3 mn4 mn5; clear k0 k1 z
     generalize w21.setCell ⟨w2.heap.size, 1, none⟩ (.int .i64 t.pos) = w22 at *
     obtain ⟨mn0, mn1, mn2, mn3, mn4, mn5⟩ := bx_cells hxn_22; have hFb_22 := hR0_22.node (k := 2) (p := t.pos) (t := ⟨#[]⟩) ⟨by decide, by decide⟩ hpb lq16 false; go_wp2_with fail
     have hro := row_made (P := Nn) (lo := w3.heap.size) (x := X) (X := X) w22 [⟨Nd.mk 2 (t.pos) ⟨#[]⟩ false [] ks, none, 0, (some ⟨g0, 0, none⟩), c0⟩] #[.int .i64 2, .int .i64 t.pos, .string ⟨#[]⟩, .bool false, .slice none 0 0, .slice (some ⟨g0, 0, none⟩) ks.length c0] 1 rfl rfl lq17 lq17 lq16 (Old.nn X _) (by
      intro q hq; simp only [List.mem_cons, List.not_mem_nil, or_false] at hq
      rcases hq with rfl <;> assumption)
     generalize hG : w22.alloc (.cells #[.int .i64 2, .int .i64 t.pos, .string ⟨#[]⟩, .bool false, .slice none 0 0, .slice (some ⟨g0, 0, none⟩) ks.length c0] 29) = w23 at *
     obtain ⟨hb23, _, hse23⟩ := nb hG; clear hG; obtain ⟨hk23, hs23, hz23⟩ := kd hk22 hb23; have hP23 := hP22.later hb23; have hxR_23 := kb hb23 hxR_22; have hxn_23 := kb hb23 hxn_22; have hFb_23 := hFb_22.later hb23 (Old.nn X _); have hR0_23 := hR0_22.later hb23 (Old.nn X _); have hFz_23 := hro.node (k := 1) (p := 0) (t := ⟨#[]⟩) ⟨by decide, by decide⟩ ⟨by decide, by decide⟩ lq16 false; clear hro; go_wp2_with fail
     go_at_call 54
     refine (node_okA _ _ _ _ _ _ _).mono ?_
     rintro E w24 ⟨rfl, hq⟩; obtain ⟨hk24, hs24, hz24⟩ := kd hk23 hq; have hP24 := hP23.later hq; have hxR_24 := kb hq hxR_23; have hxn_24 := kb hq hxn_23; have hFb_24 := hFb_23.later hq (Old.nn X _); have hFz_24 := hFz_23.later hq (Old.nn X _); have hR0_24 := hR0_23.later hq (Old.nn X _); obtain ⟨k0, k1, k2, k3, k4, k5⟩ := bx_cells hxR_24; have z := Lib.frozen_of_heap hxR_24; have HE := Lh (show _ ∧ _ ∧ _ from ⟨hk24, hP24, hFz_24⟩)
     obtain ⟨r0, r1, r2, r3, r4, r5⟩ := bp hxR_24 (.int .i64 1) (.int .i64 0) (.string ⟨#[]⟩) (.bool false) (.slice none 0 0) (.slice (some ⟨w22.heap.size, 0, none⟩) 1 1); clear hxR_24 hxn_24 hFb_24 hFz_24 hR0_24 hk24 hP24; go_wp2_with fail
     refine bodyPost_ret (v := .agg #[.int .i64 1, .int .i64 0, .string ⟨#[]⟩, .bool false, .slice none 0 0, .slice (some ⟨w22.heap.size, 0, none⟩) 1 1]) (by simp [results, Tryz.results30, go_sem, r0, r1, r2, r3, r4, r5, ndV]) rfl ?_
     exact lv74
   ·have o1 : ((hd e l0).kind != 9) = true := by simp [h9]
    rw [if_neg h9] at hR; simp only [Rs.bind_assoc] at hR; clear h9; go_wp2_with fail
    go_at_call 55
    refine (next_ok hP20).mono ?_
    rintro E w21 ⟨rfl, hq⟩; obtain ⟨hk21, hs21, hz21⟩ := kd hk20 hq; have hP21 := hP20.later hq; have hxR_21 := kb hq hxR_20; have hxn_21 := kb hq hxn_20; have hR0_21 := hR0_20.later hq (Old.nn X _); have F0_21 := tfield0 (hd e l0).kind (hd e l0).text (hd e l0).pos; unfold tokA; have n1 := Rs.ne_of hR hne
    go_upto_region 3 with fail
    refine region_anyZ (fun W => W.heap[w2.heap.size]? = some (.cells #[.int .i64 2, .int .i64 0, .string ⟨#[]⟩, .bool false, .slice none 0 0, .slice A0 ks.length c0] 29)) 7 lq15 ?_
    refine zt 0 (.pointer (some ⟨w2.heap.size, 5, none⟩)) rfl (Or.inl ⟨by rfl, ?_⟩) hxn_21 ?_
    ·exact lv56
    try simp only [Act.put, xA, xB, xC]
    refine zt 1 (.slice A0 ks.length c0) rfl (Or.inl ⟨by rfl, ?_⟩) hxn_21 ?_
    ·exact lv56
    try simp only [Act.put, xA, xB, xC]
    refine zt 2 (.pointer (some ⟨X, 0, none⟩)) rfl (Or.inl ⟨by rfl, ?_⟩) hxn_21 ?_
    ·exact lv56
    try simp only [Act.put, xA, xB, xC]
    have hlt := hR0_21.lt
    refine zo 3 rfl fun K hK => ?_
    go_simp
    go_at_call 56
    refine (HA.pstmt X _ _ (hP21.later (bl_drew (Below.refl _ _))) n1).mono ?_
    rintro E w22 hE
    rcases hE with ⟨cc, aa, hv, rfl, hq⟩ | ⟨T1, l1, A1, c1, K1, d1, hv, rfl, hP22, hF1, hq⟩
    ·rw [hv] at hR; exact ⟨rfl, retBad (hk21.call (Nat.le_refl _) (kp_undrew hq)) hR.symm⟩
    rw [hv] at hR; simp only [yO, yA] at hR; have hle := hEF.estmt _ _ _ hv; clear hv n1; have hq := kp_undrew hq; have hdr22 : w21.drew.heap.size = w21.heap.size := rfl; have hA := hF1.away (P := Nn) (lo := w3.heap.size) (x := X) (own := (Value.slice A0 ks.length c0).ownBlock) (fun _ h => h.elim) lq17 lq17 (fun g e => (hlt g e).2); clear hF1 hlt; obtain ⟨hk22, hs22, hz22⟩ := kc hk21 hq; have hxR_22 := kx hq hxR_21; have hxn_22 := kx hq hxn_21; have hR0_22 := hR0_21.kp hq (Old.nn X _) lq17; unfold ndV
    refine hK.out _ _ (fun _ => hxn_22) ?_
    clear hK K
    try simp only [Act.put, xA, xB, xC]
    refine zo 4 rfl fun K hK => ?_
    go_simp
    have hb23 := (Below.refl w22.heap.size w22).alloc (Nat.le_refl _) (.cells #[.int .i64 T1.kind, .int .i64 T1.pos, .string T1.text, .bool T1.neg, .slice A1 T1.mag.length c1, .slice K1 T1.kids.length d1] 29); have hbq := heap_alloc_new w22 (.cells #[.int .i64 T1.kind, .int .i64 T1.pos, .string T1.text, .bool T1.neg, .slice A1 T1.mag.length c1, .slice K1 T1.kids.length d1] 29); have hse23 : w22.heap.size + 1 ≤ (w22.alloc (.cells #[.int .i64 T1.kind, .int .i64 T1.pos, .string T1.text, .bool T1.neg, .slice A1 T1.mag.length c1, .slice K1 T1.kids.length d1] 29)).heap.size := by simp
    have hA := hA.laterA hb23 (Old.nn X _)
    generalize w22.alloc (oN T1 A1 c1 K1 d1) = w23 at *
    obtain ⟨hk23, hs23, hz23⟩ := kd hk22 hb23; have hP23 := hP22.later hb23; have hxR_23 := kb hb23 hxR_22; have hxn_23 := kb hb23 hxn_22; have hR0_23 := hR0_22.later hb23 (Old.nn X _)
    refine hK.out _ _ (fun _ => hxn_23) ?_
    clear hK K
    try simp only [Act.put, xA, xB, xC]
    refine zo 5 rfl fun K hK => ?_
    refine step_append_row rfl _ _ rfl hR0_23 rfl hA w22.heap.size rfl hbq lq17 lq17 lq17 (Old.nn X _) ?_
    intro g24 cap24 w24 hRn hq hgl hgr; have hk24 := hk23.trans ((Kp.of_below hq X).mono lq17); have hs24 := hq.size; have hz24 := hk24.size; have hP24 := hP23.blocks (fun k hk => hq.5 k lq17); have hxR_24 := kb hq hxR_23; have hxn_24 := kb hq hxn_23; have hR0_24 := hRn; clear hRn hA hbq hgr hxR_23 hxn_23 hR0_23 hP23
    refine hK.out _ _ (fun _ => hxn_24) ?_
    clear hK K
    try simp only [Act.put, xA, xB, xC]
    refine zt 6 (.pointer (some ⟨w2.heap.size, 5, none⟩)) rfl (Or.inl ⟨by rfl, ?_⟩) hxn_24 ?_
    ·exact lv56
    try simp only [Act.put, xA, xB, xC]
    obtain ⟨k0, k1, k2, k3, k4, k5⟩ := bx_cells hxn_24; have z := Lib.frozen_of_heap hxn_24
    refine zo 7 rfl fun K hK => ?_
    go_simp
    refine hK.out _ _ (fun h => absurd rfl h) ?_
    clear hK K k0 k1 k2 k3 k4 k5 z
    try simp only [Act.put, xA, xB, xC]
    refine anyZ_end lq15 ?_ _
    have hxn_25 := bx_put5 hxn_24 (u := .slice (some ⟨g24, 0, none⟩) (ks.length + 1) cap24); have hxR_25 := (bx_off1 (b := w2.heap.size) (i := 5) (u := .slice (some ⟨g24, 0, none⟩) (ks.length + 1) cap24) lq17).trans hxR_24; have hR0_25 := hR0_24.put1 (b := w2.heap.size) (i := 5) (u := .slice (some ⟨g24, 0, none⟩) (ks.length + 1) cap24) lq17 (fun h => h.elim); have hk25 := hk24.set (w2.heap.size) 5 (.slice (some ⟨g24, 0, none⟩) (ks.length + 1) cap24) (.inl lq17)
    have hP25 := hP24.blocks (fun k hk => bx_off1 (b := w2.heap.size) (i := 5) (u := .slice (some ⟨g24, 0, none⟩) (ks.length + 1) cap24) lq17); have hs25 : w24.heap.size ≤ (w24.setCell ⟨w2.heap.size, 5, none⟩ (.slice (some ⟨g24, 0, none⟩) (ks.length + 1) cap24)).heap.size := by simp [World.setCell]
    have hz25 := hk25.size
    generalize w24.setCell ⟨w2.heap.size, 5, none⟩ (.slice (some ⟨g24, 0, none⟩) (ks.length + 1) cap24) = w25 at *
    have HE := Lh (show _ ∧ _ ∧ _ ∧ _ ∧ _ from ⟨hP25, hxn_25, hxR_25, hR0_25, hk25⟩); clear hxR_25 hxn_25 hR0_25 hP25 hk25; go_wp2_with fail
    go_roundg gk
    case measure => omega
    case rel => exact ⟨ks ++ [T1], l1, (some ⟨g24, 0, none⟩), cap24, Lh ⟨HE.out.1, by rw [show (ks ++ [T1]).length = ks.length + 1 by simp]; exact HE.out.2.1, HE.out.2.2.1, HE.out.2.2.2.1, HE.out.2.2.2.2, hR, by simp only [length_append, length_cons, length_nil]; omega, by omega, by omega⟩⟩
end
mutual
def deepQ : Int → Nd → Option Int
 | z, .mk _ p _ _ _ ks => if 300 ≤ z then some p else deepsQ (z + 1) ks
def deepsQ : Int → List Nd → Option Int
 | _, [] => none
 | z, t :: r => match deepQ z t with
  | some a => some a
  | none => deepsQ z r
end
theorem deepQ_eq (z : Int) (T : Nd) : deepQ z T = if 300 ≤ z then some T.pos else deepsQ (z + 1) T.kids := by cases T; rw [deepQ]; rfl
theorem deeps_drop {z : Int} {ks : List Nd} {k : Nat} {t : Nd} (ht : ks[k]? = some t) (h : deepQ z t = none) : deepsQ z (ks.drop k) = deepsQ z (ks.drop (k + 1)) := by
 have hl := (List.getElem?_eq_some_iff.1 ht).1
 rw [List.drop_eq_getElem_cons hl, show ks[k] = t from (List.getElem?_eq_some_iff.1 ht).2, deepsQ, h]
theorem deeps_here {z : Int} {ks : List Nd} {k : Nat} {t : Nd} {a : Int} (ht : ks[k]? = some t) (h : deepQ z t = some a) : deepsQ z (ks.drop k) = some a := by
 have hl := (List.getElem?_eq_some_iff.1 ht).1
 rw [List.drop_eq_getElem_cons hl, show ks[k] = t from (List.getElem?_eq_some_iff.1 ht).2, deepsQ, h]
def DeepR (w : World) (R : Option Int) (E : Ending) (w' : World) : Prop :=
 ((∃ a, R = some a ∧ E = .panicked [{ v := stopP 107 a, recovered := false }]) ∨ (R = none ∧ E = .returned (.tuple #[]))) ∧ Below w.heap.size w w'
theorem deep_ok : ∀ (T : Nd) (z : Int) (A : Option Addr) (c : Nat) (K : Option Addr) (d : Nat) (w : World), 0 ≤ z → z ≤ 300 → NodeAt w T A c K d →
  Calls Tryz.prog 31 #[.int .i64 z, ndV T A c K d] w (DeepR w (deepQ z T)) := by
 intro T
 induction T using Nd.ind with
 | h T ih =>
  intro z A c K d w hz0 hz hN; obtain ⟨R, hR⟩ : ∃ R, deepQ z T = R := ⟨_, rfl⟩; rw [hR]; rw [deepQ_eq] at hR; obtain ⟨_, _, _, _, hkd, hdm, _, hp64, _, _⟩ := hN.parts; unfold maxLen at hdm; have HN := Lh (fun W (hb : Below w.heap.size w W) => hN.later hb); have hb1 := (Below.refl w.heap.size w).alloc (Nat.le_refl _) (.cells #[.int .i64 T.kind, .int .i64 T.pos, .string T.text, .bool T.neg, .slice A T.mag.length c, .slice K T.kids.length d] 29)
  have hx1 := heap_alloc_new w (.cells #[.int .i64 T.kind, .int .i64 T.pos, .string T.text, .bool T.neg, .slice A T.mag.length c, .slice K T.kids.length d] 29); have IH := Lh ih; unfold ndV; clear ih hN; go_enter Tryz.func31, Tryz.ntmps31
  go_upto_region 1 with fail
  generalize w.alloc (oN T A c K d) = w1 at *
  obtain ⟨k0, k1, k2, k3, k4, k5⟩ := bx_cells hx1; have hs1 := hb1.size
  by_cases h3 : 300 ≤ z
  ·have o1 : decide ((300 : Int) ≤ z) = true := dTr h3; rw [if_pos h3] at hR; have HR := Lh hR; clear hR; go_wp2_with fail
   go_at_call 57
   refine (fail_ok 107 T.pos w1).mono ?_
   rintro E w2 ⟨rfl, hb2⟩; go_wp2_with fail; exact ⟨rfl, .inl ⟨_, HR.out.symm, rfl⟩, hb1.trans (hb2.mono hs1)⟩
  ·have o1 : decide ((300 : Int) ≤ z) = false := dFa h3; rw [if_neg h3] at hR; have HR := Lh hR; clear hR; have hnk : T.kids.length ≤ 9223372036854775807 := by omega
   go_wp2_with fail
   go_loopw [14] (fun iv wr => ∃ k : Nat, iv = .int .i64 k ∧ k ≤ T.kids.length ∧ Hid (deepsQ (z + 1) T.kids = deepsQ (z + 1) (T.kids.drop k)) ∧ Below w.heap.size w wr) (fun iv _ => T.kids.length - (intOf iv).toNat)
   case atStart => exact ⟨0, rfl, Nat.zero_le _, Lh rfl, hb1⟩
   case round =>
    obtain ⟨k, rfl, hk, hbt, hbr⟩ := hrel
    by_cases hkl : k < T.kids.length
    ·have p1 : decide ((k : Int) < (T.kids.length : Int)) = true := dTo; have p2 : decide (k < T.kids.length) = true := dTr hkl; obtain ⟨t, ht⟩ : ∃ t, T.kids[k]? = some t := ⟨_, List.getElem?_eq_getElem hkl⟩; obtain ⟨b, off, A1, c1, K1, d1, hKe, hC, hNt⟩ := (HN.out wr hbr).kid ht; subst hKe; obtain ⟨n0, n1, n2, n3, n4, n5⟩ := hC; have hb2 := (Below.refl wr.heap.size wr).alloc (Nat.le_refl _) (.cells #[.int .i64 t.kind, .int .i64 t.pos, .string t.text, .bool t.neg, .slice A1 t.mag.length c1, .slice K1 t.kids.length d1] 29)
     have hx2 := heap_alloc_new wr (.cells #[.int .i64 t.kind, .int .i64 t.pos, .string t.text, .bool t.neg, .slice A1 t.mag.length c1, .slice K1 t.kids.length d1] 29)
     go_upto_region 6 with fail
     have hI := IH.out t (mog ht) (z + 1) A1 c1 K1 d1 _ lq17 lq17 (hNt.later hb2)
     generalize wr.alloc (oN t A1 c1 K1 d1) = w2 at *
     obtain ⟨j0, j1, j2, j3, j4, j5⟩ := bx_cells hx2; have hbw := hbr.trans (hb2.mono hbr.size); unfold ndV at hI; have HI := Lh hI; clear hI n0 n1 n2 n3 n4 n5 hNt hx2; go_wp2_with fail
     go_at_call 31
     refine HI.out.mono ?_
     rintro E w3 ⟨hE, hb3⟩; have hb4 := hbw.trans (hb3.mono hbw.size)
     rcases hE with ⟨a, hv, rfl⟩ | ⟨hv, rfl⟩
     ·go_wp2_with fail; exact ⟨rfl, .inl ⟨a, HR.out.symm.trans (hbt.out.trans (deeps_here ht hv)), rfl⟩, hb4⟩
     ·go_wp2_with fail
      go_roundw
      case rel => exact ⟨k + 1, by go_num, by omega, Lh (hbt.out.trans (deeps_drop ht hv)), hb4⟩
      case measure => simp [intOf]; omega
    ·have p1 : decide ((k : Int) < (T.kids.length : Int)) = false := dFo; have p2 : decide (k < T.kids.length) = false := dFa hkl; have hnone : R = none := by rw [← HR.out, hbt.out, List.drop_eq_nil_of_le lq17, deepsQ]
     have HRN := Lh hnone; clear hnone; go_wp2_with fail
     go_end0
     exact ⟨.inr ⟨HRN.out, rfl⟩, hbr⟩
theorem pa_zero (nB gB : ByteArray → Bool) (nO : ByteArray → Option (List Int)) (e : Int) : PA e (Pp nB gB nO e 0) := by
 constructor
 all_goals first
  | (intro X l w hP h; exact absurd rfl h)
  | (intro a X l w ha hP h; exact absurd rfl h)
  | (intro kd a X l w h1 h2 hP h; exact absurd rfl h)
  | (intro P X T A c K d l w h1 h2 hP h; exact absurd rfl h)
  | (intro P kd a X T A c K d l w h1 h2 h3 h4 hP h; exact absurd rfl h)
end
section
open List (length_append length_cons length_nil length_singleton)
theorem params_len (nB gB : ByteArray → Bool) (nO : ByteArray → Option (List Int)) (e : Int) : ∀ (D : Nat) (given : Bool) (ks : List Nd) (l : List Tok) (r : List Nd) (q : List Tok), (Pp nB gB nO e D).qparams given ks l = .ok r q → r.length ≤ ks.length + l.length + 1
 | 0, _, _, _, _, _, h => by cases h
 | D + 1, given, ks, l, r, q, h0 => by
  have h1 : s_params nB e (Pp nB gB nO e D) given ks l = .ok r q := h0; have h := ef_all nB gB nO e D; unfold s_params at h1
  split at h1
  ·generalize tokN nB e l.tail = z at h1
   cases z with
   | oof => cases h1
   | bad c a => cases h1
   | ok t r1 =>
    have h2 : Rs.ok (ks ++ [_]) _ = Rs.ok r q := h1
    cases h2
    simp only [length_append, length_cons, length_nil]; omega
  ·have hl := Lf.tokN (e := e) (nameB := nB) (l := l)
   generalize tokN nB e l = z at h1 hl
   cases z with
   | oof => cases h1
   | bad c a => cases h1
   | ok t r1 =>
    have hr1 := hl _ _ rfl; have h2 : (Rs.bind (if isS e _ r1 then _ else _ : Rs (Bool × Nd)) _) = Rs.ok r q := h1
    generalize hz : (if isS e _ r1 then _ else _ : Rs (Bool × Nd)) = z at h2
    have hlf : Lf r1.length 0 z := by
     rw [← hz]; exact eAf
    cases z with
    | oof => cases h2
    | bad c a => cases h2
    | ok a r2 =>
     have hr2 := hlf _ _ rfl; have h3 : (if isS e _ r2 then _ else _ : Rs (List Nd)) = Rs.ok r q := h2
     split at h3
     ·have ht := tlSf ‹isS e _ r2 = true›
      split at h3
      ·have := params_len nB gB nO e D _ _ _ _ _ h3; simp only [length_append, length_cons, length_nil] at this
       omega
      ·cases h3; simp only [length_append, length_cons, length_nil]; omega
     ·cases h3; simp only [length_append, length_cons, length_nil]; omega
end
end Go.Proofs.YtjndbcnmmnkilaaGreatDoor
