/- Joined by a program: FrmS4, FrmE1, FrmE2, FrmE3, FrmE4, FrmA. -/
import Derived.Test.YtjefhdlncikhmaaGreatDoorPT33
namespace Go.Proofs.YtjefhdlncikhmaaGreatDoor
set_option linter.unusedVariables false
set_option linter.unusedSimpArgs false
set_option maxRecDepth 1000000
set_option maxHeartbeats 16000000
section
open Go.RowKit
open List (length_append length_cons length_nil length_singleton)
section
variable (D : Nat) (hRi : RightOk D) (w0 w : World) (P : Nat) (hT : Lib.Utf8Tabs 0 1 w0) (h0 : Below w0.heap.size w0 w) (hp0 : w0.heap.size ≤ P) (hp1 : P ≤ w.heap.size)
include D hRi w0 w P hT h0 hp0 hp1
theorem fm19 :
  Calls Tryz.prog 44 #[.int .i64 19] w (FormR D .name .prm P w) := by
 have _ := w0
 have hU := Up.start h0 hp0 hp1
 go_enter Tryz.func44, Tryz.ntmps44
 go_wp2_with fail
 go_at_call 61
 refine (textQ_ok (w := w) (Q := (fun k => k = w.heap.size ∨ k = P)) (fun k hk => by have := hU.p1; omega) signsL 8 _ _ rfl lq28 lq28 rfl).mono ?_
 rintro e w0t ⟨⟨vt, rfl, hvt⟩, hbt⟩
 have hU := (hU.alloc _).call hbt
 obtain ⟨gt, cpt, hve, _⟩ := id hvt
 subst hve
 obtain ⟨_, _, _, _, hsz, r0, r1, z0, z1⟩ := id hU
 go_wp2
 exact bodyPost_ret (v := .agg #[.func (.func 73) #[] #[], .func (.func 75) #[] #[]]) lq15 rfl (FormR.put hU textQ_name (qParam hRi (hU.tabs hT)))
theorem fm20 :
  Calls Tryz.prog 44 #[.int .i64 20] w (FormR D .name (.row [(.or2 .none .expr), .block]) P w) := by
 have _ := w0
 have hU := Up.start h0 hp0 hp1
 go_enter Tryz.func44, Tryz.ntmps44
 go_wp2_with fail
 go_at_call 61
 refine (textQ_ok (w := w) (Q := (fun k => k = w.heap.size ∨ k = P)) (fun k hk => by have := hU.p1; omega) signsL 8 _ _ rfl lq28 lq28 rfl).mono ?_
 rintro e w0t ⟨⟨vt, rfl, hvt⟩, hbt⟩
 have hU := (hU.alloc _).call hbt
 obtain ⟨gt, cpt, hve, _⟩ := id hvt
 subst hve
 go_wp2_with fail
 have hS := shapesQ_two hU.q qNone (qExpr hRi (hU.tabs hT)) 69
 try rw [show (w.alloc (.cells #[.nilFunc, .nilFunc] 71)).heap.size = w.heap.size + 1 by simp] at hS
 have hvt := hvt.later ((Below.refl _ _).alloc (Nat.le_refl _) (.cells #[.func (.func 70) #[] #[], .func (.func 67) #[] #[]] 69))
 have hU := hU.alloc (.cells #[.func (.func 70) #[] #[], .func (.func 67) #[] #[]] 69)
 go_at_call 69
 refine (or2Q_ok (D := D) hU.q .none .expr _ hS).mono ?_
 rintro e w1 ⟨⟨v1, rfl, hv1⟩, hb1⟩
 have hvt := hvt.later hb1
 have hU := hU.call hb1
 obtain ⟨g1, cp1, hve, _⟩ := id hv1
 subst hve
 go_wp2_with fail
 have hS := shapesQ_two hU.q hv1 (qBlock hRi (hU.tabs hT)) 69
 try rw [show (w.alloc (.cells #[.nilFunc, .nilFunc] 71)).heap.size = w.heap.size + 1 by simp] at hS
 have hvt := hvt.later ((Below.refl _ _).alloc (Nat.le_refl _) (.cells #[.func (.func g1) #[] cp1, .func (.func 71) #[] #[]] 69))
 have hv1 := hv1.later ((Below.refl _ _).alloc (Nat.le_refl _) (.cells #[.func (.func g1) #[] cp1, .func (.func 71) #[] #[]] 69))
 have hU := hU.alloc (.cells #[.func (.func g1) #[] cp1, .func (.func 71) #[] #[]] 69)
 go_at_call 63
 refine (kidsQ_ok (D := D) hU.q [Sh.ev Nd.right (.or2 .none .expr), Sh.ev Nd.right .block] 2 _ rfl hS lq24).mono ?_
 rintro e w2 ⟨⟨v2, rfl, hv2⟩, hb2⟩
 have hvt := hvt.later hb2
 have hv1 := hv1.later hb2
 have hU := hU.call hb2
 obtain ⟨g2, cp2, hve, _⟩ := id hv2
 subst hve
 obtain ⟨_, _, _, _, hsz, r0, r1, z0, z1⟩ := id hU
 go_wp2
 exact bodyPost_ret (v := .agg #[.func (.func 73) #[] #[], .func (.func g2) #[] cp2]) lq15 rfl (FormR.put hU textQ_name hv2)
theorem fm21 :
  Calls Tryz.prog 44 #[.int .i64 21] w (FormR D .non .tri P w) := by
 have _ := w0
 have hU := Up.start h0 hp0 hp1
 go_enter Tryz.func44, Tryz.ntmps44
 go_wp2_with fail
 go_at_call 61
 refine (textQ_ok (w := w) (Q := (fun k => k = w.heap.size ∨ k = P)) (fun k hk => by have := hU.p1; omega) signsL 8 _ _ rfl lq28 lq28 rfl).mono ?_
 rintro e w0t ⟨⟨vt, rfl, hvt⟩, hbt⟩
 have hU := (hU.alloc _).call hbt
 obtain ⟨gt, cpt, hve, _⟩ := id hvt
 subst hve
 obtain ⟨_, _, _, _, hsz, r0, r1, z0, z1⟩ := id hU
 go_wp2
 exact bodyPost_ret (v := .agg #[.func (.func 62) #[] #[], .func (.func 76) #[] #[]]) lq15 rfl (FormR.put hU textQ_non (qTry hRi (hU.tabs hT)))
theorem fm22 :
  Calls Tryz.prog 44 #[.int .i64 22] w (FormR D .exc .exc P w) := by
 have _ := w0
 have hU := Up.start h0 hp0 hp1
 go_enter Tryz.func44, Tryz.ntmps44
 go_wp2_with fail
 go_at_call 61
 refine (textQ_ok (w := w) (Q := (fun k => k = w.heap.size ∨ k = P)) (fun k hk => by have := hU.p1; omega) signsL 8 _ _ rfl lq28 lq28 rfl).mono ?_
 rintro e w0t ⟨⟨vt, rfl, hvt⟩, hbt⟩
 have hU := (hU.alloc _).call hbt
 obtain ⟨gt, cpt, hve, _⟩ := id hvt
 subst hve
 obtain ⟨_, _, _, _, hsz, r0, r1, z0, z1⟩ := id hU
 go_wp2
 exact bodyPost_ret (v := .agg #[.func (.func 77) #[] #[], .func (.func 78) #[] #[]]) lq15 rfl (FormR.put hU textQ_exc (qExcept hRi (hU.tabs hT)))
theorem fm23 :
  Calls Tryz.prog 44 #[.int .i64 23] w (FormR D .non (.some 2 .target) P w) := by
 have _ := w0
 have hU := Up.start h0 hp0 hp1
 go_enter Tryz.func44, Tryz.ntmps44
 go_wp2_with fail
 go_at_call 61
 refine (textQ_ok (w := w) (Q := (fun k => k = w.heap.size ∨ k = P)) (fun k hk => by have := hU.p1; omega) signsL 8 _ _ rfl lq28 lq28 rfl).mono ?_
 rintro e w0t ⟨⟨vt, rfl, hvt⟩, hbt⟩
 have hU := (hU.alloc _).call hbt
 obtain ⟨gt, cpt, hve, _⟩ := id hvt
 subst hve
 go_wp2_with fail
 go_at_call 65
 refine (someQ_ok (D := D) hU.q _ _ 2 (qTarget hRi (hU.tabs hT)) lq28).mono ?_
 exact lv138
end

section
variable (D : Nat) (hRi : RightOk D) (w0 w : World) (P : Nat) (hT : Lib.Utf8Tabs 0 1 w0) (h0 : Below w0.heap.size w0 w) (hp0 : w0.heap.size ≤ P) (hp1 : P ≤ w.heap.size)
include D hRi w0 w P hT h0 hp0 hp1
theorem fm31 :
  Calls Tryz.prog 79 #[.int .i64 31] w (FormR D .name (.row []) P w) := by
 have _ := hRi
 have _ := w0
 have _ := hT
 have hU := Up.start h0 hp0 hp1
 go_enter Tryz.func79, Tryz.ntmps79
 go_wp2_with fail
 go_at_call 63
 refine (kidsQ_ok (D := D) hU.q [] 0 _ rfl (shapesQ_nil D _ none) lq24).mono ?_
 rintro e w1 ⟨⟨v1, rfl, hv1⟩, hb1⟩
 have hU := hU.call hb1
 obtain ⟨g1, cp1, hve, _⟩ := id hv1
 subst hve
 obtain ⟨_, _, _, _, hsz, r0, r1, z0, z1⟩ := id hU
 go_wp2
 exact bodyPost_ret (v := .agg #[.func (.func 73) #[] #[], .func (.func g1) #[] cp1]) lq16 rfl (FormR.put hU textQ_name hv1)
theorem fm32 :
  Calls Tryz.prog 79 #[.int .i64 32] w (FormR D .non (.row []) P w) := by
 have _ := hRi
 have _ := w0
 have _ := hT
 have hU := Up.start h0 hp0 hp1
 go_enter Tryz.func79, Tryz.ntmps79
 go_wp2_with fail
 go_at_call 63
 refine (kidsQ_ok (D := D) hU.q [] 0 _ rfl (shapesQ_nil D _ none) lq24).mono ?_
 exact lv145
theorem fm33 :
  Calls Tryz.prog 79 #[.int .i64 33] w (FormR D .good (.row []) P w) := by
 have _ := hRi
 have _ := w0
 have hU := Up.start h0 hp0 hp1
 go_enter Tryz.func79, Tryz.ntmps79
 go_wp2_with fail
 go_at_call 63
 refine (kidsQ_ok (D := D) hU.q [] 0 _ rfl (shapesQ_nil D _ none) lq24).mono ?_
 rintro e w1 ⟨⟨v1, rfl, hv1⟩, hb1⟩
 have hU := hU.call hb1
 obtain ⟨g1, cp1, hve, _⟩ := id hv1
 subst hve
 obtain ⟨_, _, _, _, hsz, r0, r1, z0, z1⟩ := id hU
 go_wp2
 exact bodyPost_ret (v := .agg #[.func (.func 137) #[] #[], .func (.func g1) #[] cp1]) lq16 rfl (FormR.put hU (textQ_good (hU.tabs hT)) hv1)
theorem fm34 :
  Calls Tryz.prog 79 #[.int .i64 34] w (FormR D (.words constsL) (.row []) P w) := by
 have _ := hRi
 have _ := w0
 have _ := hT
 have hU := Up.start h0 hp0 hp1
 go_enter Tryz.func79, Tryz.ntmps79
 go_wp2_with fail
 go_at_call 61
 refine (textQ_ok (w := w) (Q := (fun k => k = w.heap.size ∨ k = P)) (fun k hk => by have := hU.p1; omega) constsL 3 _ _ rfl lq28 lq28 rfl).mono ?_
 rintro e w0t ⟨⟨vt, rfl, hvt⟩, hbt⟩
 have hU := (hU.alloc _).call hbt
 obtain ⟨gt, cpt, hve, _⟩ := id hvt
 subst hve
 go_wp2_with fail
 go_at_call 63
 refine (kidsQ_ok (D := D) hU.q [] 0 _ rfl (shapesQ_nil D _ none) lq24).mono ?_
 rintro e w1 ⟨⟨v1, rfl, hv1⟩, hb1⟩
 have hvt := hvt.later hb1
 have hU := hU.call hb1
 obtain ⟨g1, cp1, hve, _⟩ := id hv1
 subst hve
 obtain ⟨_, _, _, _, hsz, r0, r1, z0, z1⟩ := id hU
 go_wp2
 exact bodyPost_ret (v := .agg #[.func (.func gt) #[] cpt, .func (.func g1) #[] cp1]) lq16 rfl (FormR.put hU hvt hv1)
theorem fm35 :
  Calls Tryz.prog 79 #[.int .i64 35] w (FormR D .non (.some 0 .expr) P w) := by
 have _ := hRi
 have _ := hT
 have _ := h0
 have _ := hp0
 have _ := hp1
 have _ := w0
 exact lv119
theorem fm36 :
  Calls Tryz.prog 79 #[.int .i64 36] w (FormR D .non (.some 0 .expr) P w) := by
 have _ := hRi
 have _ := hT
 have _ := h0
 have _ := hp0
 have _ := hp1
 have _ := w0
 exact lv119
end

section
variable (D : Nat) (hRi : RightOk D) (w0 w : World) (P : Nat) (hT : Lib.Utf8Tabs 0 1 w0) (h0 : Below w0.heap.size w0 w) (hp0 : w0.heap.size ≤ P) (hp1 : P ≤ w.heap.size)
include D hRi w0 w P hT h0 hp0 hp1
theorem fm37 :
  Calls Tryz.prog 79 #[.int .i64 37] w (FormR D .non (.some 1 .expr) P w) := by
 have _ := w0
 have hU := Up.start h0 hp0 hp1
 go_enter Tryz.func79, Tryz.ntmps79
 go_wp2_with fail
 go_at_call 65
 refine (someQ_ok (D := D) hU.q _ _ 1 (qExpr hRi (hU.tabs hT)) lq28).mono ?_
 exact lv145
theorem fm38 :
  Calls Tryz.prog 79 #[.int .i64 38] w (FormR D .non (.some 0 (.or2 (.of 39) (.of 40))) P w) := by
 have _ := w0
 have hU := Up.start h0 hp0 hp1
 go_enter Tryz.func79, Tryz.ntmps79
 go_wp2_with fail
 go_at_call 64
 refine (ofQ_ok (D := D) hRi hU.q (hU.tabs hT) 39).mono ?_
 rintro e w1 ⟨⟨v1, rfl, hv1⟩, hb1⟩
 have hU := hU.call hb1
 obtain ⟨g1, cp1, hve, _⟩ := id hv1
 subst hve
 go_wp2_with fail
 go_at_call 64
 refine (ofQ_ok (D := D) hRi hU.q (hU.tabs hT) 40).mono ?_
 rintro e w2 ⟨⟨v2, rfl, hv2⟩, hb2⟩
 have hv1 := hv1.later hb2
 have hU := hU.call hb2
 obtain ⟨g2, cp2, hve, _⟩ := id hv2
 subst hve
 go_wp2_with fail
 have hS := shapesQ_two hU.q hv1 hv2 69
 try rw [show (w.alloc (.cells #[.nilFunc, .nilFunc] 71)).heap.size = w.heap.size + 1 by simp] at hS
 have hv1 := hv1.later ((Below.refl _ _).alloc (Nat.le_refl _) (.cells #[.func (.func g1) #[] cp1, .func (.func g2) #[] cp2] 69))
 have hv2 := hv2.later ((Below.refl _ _).alloc (Nat.le_refl _) (.cells #[.func (.func g1) #[] cp1, .func (.func g2) #[] cp2] 69))
 have hU := hU.alloc (.cells #[.func (.func g1) #[] cp1, .func (.func g2) #[] cp2] 69)
 go_at_call 69
 refine (or2Q_ok (D := D) hU.q (.of 39) (.of 40) _ hS).mono ?_
 rintro e w3 ⟨⟨v3, rfl, hv3⟩, hb3⟩
 have hv1 := hv1.later hb3
 have hv2 := hv2.later hb3
 have hU := hU.call hb3
 obtain ⟨g3, cp3, hve, _⟩ := id hv3
 subst hve
 go_wp2_with fail
 go_at_call 65
 refine (someQ_ok (D := D) hU.q _ _ 0 hv3 lq28).mono ?_
 rintro e w4 ⟨⟨v4, rfl, hv4⟩, hb4⟩
 have hv1 := hv1.later hb4
 have hv2 := hv2.later hb4
 have hv3 := hv3.later hb4
 have hU := hU.call hb4
 obtain ⟨g4, cp4, hve, _⟩ := id hv4
 subst hve
 obtain ⟨_, _, _, _, hsz, r0, r1, z0, z1⟩ := id hU
 go_wp2
 exact bodyPost_ret (v := .agg #[.func (.func 62) #[] #[], .func (.func g4) #[] cp4]) lq16 rfl (FormR.put hU textQ_non hv4)
theorem fm39 :
  Calls Tryz.prog 79 #[.int .i64 39] w (FormR D .non (.row [.expr, .expr]) P w) := by
 have _ := w0
 have hU := Up.start h0 hp0 hp1
 go_enter Tryz.func79, Tryz.ntmps79
 go_wp2_with fail
 have hS := shapesQ_two hU.q (qExpr hRi (hU.tabs hT)) (qExpr hRi (hU.tabs hT)) 69
 try rw [show (w.alloc (.cells #[.nilFunc, .nilFunc] 71)).heap.size = w.heap.size + 1 by simp] at hS
 exact lv117
theorem fm45 :
  Calls Tryz.prog 79 #[.int .i64 45] w (FormR D .non (.row [.expr, .expr]) P w) := by
 have _ := w0
 have hU := Up.start h0 hp0 hp1
 go_enter Tryz.func79, Tryz.ntmps79
 go_wp2_with fail
 have hS := shapesQ_two hU.q (qExpr hRi (hU.tabs hT)) (qExpr hRi (hU.tabs hT)) 69
 try rw [show (w.alloc (.cells #[.nilFunc, .nilFunc] 71)).heap.size = w.heap.size + 1 by simp] at hS
 exact lv117
theorem fm46 :
  Calls Tryz.prog 79 #[.int .i64 46] w (FormR D .non (.row [.expr, .expr]) P w) := by
 have _ := w0
 have hU := Up.start h0 hp0 hp1
 go_enter Tryz.func79, Tryz.ntmps79
 go_wp2_with fail
 have hS := shapesQ_two hU.q (qExpr hRi (hU.tabs hT)) (qExpr hRi (hU.tabs hT)) 69
 try rw [show (w.alloc (.cells #[.nilFunc, .nilFunc] 71)).heap.size = w.heap.size + 1 by simp] at hS
 exact lv117
theorem fm54 :
  Calls Tryz.prog 79 #[.int .i64 54] w (FormR D .non (.row [.expr, .expr]) P w) := by
 have _ := w0
 have hU := Up.start h0 hp0 hp1
 go_enter Tryz.func79, Tryz.ntmps79
 go_wp2_with fail
 have hS := shapesQ_two hU.q (qExpr hRi (hU.tabs hT)) (qExpr hRi (hU.tabs hT)) 69
 try rw [show (w.alloc (.cells #[.nilFunc, .nilFunc] 71)).heap.size = w.heap.size + 1 by simp] at hS
 exact lv117
end

section
variable (D : Nat) (hRi : RightOk D) (w0 w : World) (P : Nat) (hT : Lib.Utf8Tabs 0 1 w0) (h0 : Below w0.heap.size w0 w) (hp0 : w0.heap.size ≤ P) (hp1 : P ≤ w.heap.size)
include D hRi w0 w P hT h0 hp0 hp1
theorem fm40 :
  Calls Tryz.prog 79 #[.int .i64 40] w (FormR D .non (.row [.expr]) P w) := by
 have _ := w0
 have hU := Up.start h0 hp0 hp1
 go_enter Tryz.func79, Tryz.ntmps79
 go_wp2_with fail
 have hS := shapesQ_one hU.q (qExpr hRi (hU.tabs hT)) 69
 try rw [show (w.alloc (.cells #[.nilFunc, .nilFunc] 71)).heap.size = w.heap.size + 1 by simp] at hS
 exact lv126
theorem fm47 :
  Calls Tryz.prog 79 #[.int .i64 47] w (FormR D .non (.row [.expr]) P w) := by
 have _ := w0
 have hU := Up.start h0 hp0 hp1
 go_enter Tryz.func79, Tryz.ntmps79
 go_wp2_with fail
 have hS := shapesQ_one hU.q (qExpr hRi (hU.tabs hT)) 69
 try rw [show (w.alloc (.cells #[.nilFunc, .nilFunc] 71)).heap.size = w.heap.size + 1 by simp] at hS
 exact lv126
theorem fm50 :
  Calls Tryz.prog 79 #[.int .i64 50] w (FormR D .non (.row [.expr]) P w) := by
 have _ := w0
 have hU := Up.start h0 hp0 hp1
 go_enter Tryz.func79, Tryz.ntmps79
 go_wp2_with fail
 have hS := shapesQ_one hU.q (qExpr hRi (hU.tabs hT)) 69
 try rw [show (w.alloc (.cells #[.nilFunc, .nilFunc] 71)).heap.size = w.heap.size + 1 by simp] at hS
 exact lv126
theorem fm41 :
  Calls Tryz.prog 79 #[.int .i64 41] w (FormR D .non (.cmp .expr) P w) := by
 have _ := hRi
 have _ := hT
 have _ := h0
 have _ := hp0
 have _ := hp1
 have _ := w0
 exact lv118
theorem fm42 :
  Calls Tryz.prog 79 #[.int .i64 42] w (FormR D .non (.cmp .expr) P w) := by
 have _ := hRi
 have _ := hT
 have _ := h0
 have _ := hp0
 have _ := hp1
 have _ := w0
 exact lv118
theorem fm43 :
  Calls Tryz.prog 79 #[.int .i64 43] w (FormR D .non (.cmp (.of 39)) P w) := by
 have _ := w0
 have hU := Up.start h0 hp0 hp1
 go_enter Tryz.func79, Tryz.ntmps79
 go_wp2_with fail
 go_at_call 64
 refine (ofQ_ok (D := D) hRi hU.q (hU.tabs hT) 39).mono ?_
 rintro e w1 ⟨⟨v1, rfl, hv1⟩, hb1⟩
 have hU := hU.call hb1
 obtain ⟨g1, cp1, hve, _⟩ := id hv1
 subst hve
 go_wp2_with fail
 go_at_call 138
 refine (compQ_ok (D := D) hRi hU.q _ (.of 39) (hU.tabs hT) hv1).mono ?_
 rintro e w2 ⟨⟨v2, rfl, hv2⟩, hb2⟩
 have hv1 := hv1.later hb2
 have hU := hU.call hb2
 obtain ⟨g2, cp2, hve, _⟩ := id hv2
 subst hve
 obtain ⟨_, _, _, _, hsz, r0, r1, z0, z1⟩ := id hU
 go_wp2
 exact bodyPost_ret (v := .agg #[.func (.func 62) #[] #[], .func (.func g2) #[] cp2]) lq16 rfl (FormR.put hU textQ_non hv2)
end

section
variable (D : Nat) (hRi : RightOk D) (w0 w : World) (P : Nat) (hT : Lib.Utf8Tabs 0 1 w0) (h0 : Below w0.heap.size w0 w) (hp0 : w0.heap.size ≤ P) (hp1 : P ≤ w.heap.size)
include D hRi w0 w P hT h0 hp0 hp1
theorem fm44 :
  Calls Tryz.prog 79 #[.int .i64 44] w (FormR D .non (.row [.expr, .expr, .expr]) P w) := by
 have _ := w0
 have hU := Up.start h0 hp0 hp1
 go_enter Tryz.func79, Tryz.ntmps79
 go_wp2_with fail
 have hS := shapesQ_three hU.q (qExpr hRi (hU.tabs hT)) (qExpr hRi (hU.tabs hT)) (qExpr hRi (hU.tabs hT)) 69
 try rw [show (w.alloc (.cells #[.nilFunc, .nilFunc] 71)).heap.size = w.heap.size + 1 by simp] at hS
 have hU := hU.alloc (.cells #[.func (.func 67) #[] #[], .func (.func 67) #[] #[], .func (.func 67) #[] #[]] 69)
 go_at_call 63
 refine (kidsQ_ok (D := D) hU.q [Sh.ev Nd.right .expr, Sh.ev Nd.right .expr, Sh.ev Nd.right .expr] 3 _ rfl hS lq24).mono ?_
 exact lv145
theorem fm48 :
  Calls Tryz.prog 79 #[.int .i64 48] w (FormR D (.words compsL) (.row [.expr, .expr]) P w) := by
 have _ := w0
 have hU := Up.start h0 hp0 hp1
 go_enter Tryz.func79, Tryz.ntmps79
 go_wp2_with fail
 go_at_call 61
 refine (textQ_ok (w := w) (Q := (fun k => k = w.heap.size ∨ k = P)) (fun k hk => by have := hU.p1; omega) compsL 10 _ _ rfl lq28 lq28 rfl).mono ?_
 rintro e w0t ⟨⟨vt, rfl, hvt⟩, hbt⟩
 have hU := (hU.alloc _).call hbt
 obtain ⟨gt, cpt, hve, _⟩ := id hvt
 subst hve
 go_wp2_with fail
 have hS := shapesQ_two hU.q (qExpr hRi (hU.tabs hT)) (qExpr hRi (hU.tabs hT)) 69
 try rw [show (w.alloc (.cells #[.nilFunc, .nilFunc] 71)).heap.size = w.heap.size + 1 by simp] at hS
 exact lv99
theorem fm49 :
  Calls Tryz.prog 79 #[.int .i64 49] w (FormR D (.words signsL) (.row [.expr, .expr]) P w) := by
 have _ := w0
 have hU := Up.start h0 hp0 hp1
 go_enter Tryz.func79, Tryz.ntmps79
 go_wp2_with fail
 go_at_call 61
 refine (textQ_ok (w := w) (Q := (fun k => k = w.heap.size ∨ k = P)) (fun k hk => by have := hU.p1; omega) signsL 8 _ _ rfl lq28 lq28 rfl).mono ?_
 rintro e w0t ⟨⟨vt, rfl, hvt⟩, hbt⟩
 have hU := (hU.alloc _).call hbt
 obtain ⟨gt, cpt, hve, _⟩ := id hvt
 subst hve
 go_wp2_with fail
 have hS := shapesQ_two hU.q (qExpr hRi (hU.tabs hT)) (qExpr hRi (hU.tabs hT)) 69
 try rw [show (w.alloc (.cells #[.nilFunc, .nilFunc] 71)).heap.size = w.heap.size + 1 by simp] at hS
 exact lv99
theorem fm51 :
  Calls Tryz.prog 79 #[.int .i64 51] w (FormR D .non .cll P w) := by
 have _ := w0
 have hU := Up.start h0 hp0 hp1
 go_enter Tryz.func79, Tryz.ntmps79
 go_wp2
 have hbz := (Below.refl w.heap.size w).alloc (Nat.le_refl _) (.cells #[.func (.func 62) #[] #[], .func (.func 139) #[] #[]] 71)
 exact bodyPost_ret (v := .agg #[.func (.func 62) #[] #[], .func (.func 139) #[] #[]]) (by simp [results, Tryz.results79, go_sem]) rfl ⟨_, _, _, _, rfl, by simp, textQ_non, qCall hRi (tabsQ_of hT (h0.trans (hbz.mono h0.size)) (fun k hk => by have := h0.size; omega)), hbz⟩
theorem fm52 :
  Calls Tryz.prog 79 #[.int .i64 52] w (FormR D .name (.row [.expr]) P w) := by
 have _ := w0
 have hU := Up.start h0 hp0 hp1
 go_enter Tryz.func79, Tryz.ntmps79
 go_wp2_with fail
 have hS := shapesQ_one hU.q (qExpr hRi (hU.tabs hT)) 69
 try rw [show (w.alloc (.cells #[.nilFunc, .nilFunc] 71)).heap.size = w.heap.size + 1 by simp] at hS
 exact lv125
theorem fm53 :
  Calls Tryz.prog 79 #[.int .i64 53] w (FormR D .name (.row [.expr]) P w) := by
 have _ := w0
 have hU := Up.start h0 hp0 hp1
 go_enter Tryz.func79, Tryz.ntmps79
 go_wp2_with fail
 have hS := shapesQ_one hU.q (qExpr hRi (hU.tabs hT)) 69
 try rw [show (w.alloc (.cells #[.nilFunc, .nilFunc] 71)).heap.size = w.heap.size + 1 by simp] at hS
 exact lv125
end

theorem expr_none (k : Int) (w : World) (z31 : (k == 31) = false) (z32 : (k == 32) = false) (z33 : (k == 33) = false) (z34 : (k == 34) = false) (z35 : (k == 35) = false) (z36 : (k == 36) = false) (z37 : (k == 37) = false) (z38 : (k == 38) = false) (z39 : (k == 39) = false) (z45 : (k == 45) = false) (z46 : (k == 46) = false) (z54 : (k == 54) = false) (z40 : (k == 40) = false) (z47 : (k == 47) = false) (z50 : (k == 50) = false) (z41 : (k == 41) = false) (z42 : (k == 42) = false) (z43 : (k == 43) = false) (z44 : (k == 44) = false) (z48 : (k == 48) = false) (z49 : (k == 49) = false) (z51 : (k == 51) = false) (z52 : (k == 52) = false) (z53 : (k == 53) = false) :
  Calls Tryz.prog 79 #[.int .i64 k] w fun e w' => e = .returned (.agg #[.nilFunc, .nilFunc]) ∧ Below w.heap.size w w' := by
 go_enter Tryz.func79, Tryz.ntmps79
 go_wp2
 exact bodyPost_ret (v := .agg #[.nilFunc, .nilFunc]) (by simp [results, Tryz.results79, go_sem]) rfl ⟨rfl, (Below.refl _ _).alloc (Nat.le_refl _) _⟩
theorem stmt_none (k : Int) (w : World) (HE : ∀ W, Calls Tryz.prog 79 #[.int .i64 k] W fun e w' => e = .returned (.agg #[.nilFunc, .nilFunc]) ∧ Below W.heap.size W w') (z1 : (k == 1) = false) (z2 : (k == 2) = false) (z3 : (k == 3) = false) (z4 : (k == 4) = false) (z5 : (k == 5) = false) (z6 : (k == 6) = false) (z7 : (k == 7) = false) (z8 : (k == 8) = false) (z9 : (k == 9) = false) (z10 : (k == 10) = false) (z11 : (k == 11) = false) (z12 : (k == 12) = false) (z13 : (k == 13) = false) (z14 : (k == 14) = false) (z15 : (k == 15) = false) (z16 : (k == 16) = false) (z17 : (k == 17) = false) (z18 : (k == 18) = false) (z19 : (k == 19) = false) (z20 : (k == 20) = false) (z21 : (k == 21) = false) (z22 : (k == 22) = false) (z23 : (k == 23) = false) :
  Calls Tryz.prog 44 #[.int .i64 k] w fun e w' => e = .returned (.agg #[.nilFunc, .nilFunc]) ∧ Below w.heap.size w w' := by
 have hU := Up.start (Below.refl w.heap.size w) (Nat.le_refl _) (Nat.le_refl _)
 have HE := Lh HE
 go_enter Tryz.func44, Tryz.ntmps44
 go_wp2_with fail
 go_at_call 61
 refine (textQ_ok (w := w) (Q := (fun k => k = w.heap.size ∨ k = w.heap.size)) (fun k hk => by omega) signsL 8 _ _ rfl lq28 lq28 rfl).mono ?_
 rintro e w0t ⟨⟨vt, rfl, hvt⟩, hbt⟩
 have hU := (hU.alloc _).call hbt
 obtain ⟨gt, cpt, hve, _⟩ := id hvt
 subst hve
 go_wp2_with fail
 go_at_call 79
 refine (HE.out _).mono ?_
 rintro e w1 ⟨rfl, hb1⟩
 have hU := hU.call hb1
 obtain ⟨_, _, _, _, hsz, r0, r1, x0, x1⟩ := id hU
 go_wp2
 exact bodyPost_ret (v := .agg #[.nilFunc, .nilFunc]) (by simp [results, Tryz.results44, go_sem, r0, r1, x0, x1]) rfl ⟨rfl, (hU.b.setCell (p := ⟨w.heap.size, 0, none⟩) (Nat.le_refl _) _).setCell (p := ⟨w.heap.size, 1, none⟩) (Nat.le_refl _) _⟩
theorem stmt_expr (D : Nat) (tx : Tx) (fm : Fm) (k : Int) (w : World) (HE : ∀ W, Below w.heap.size w W → Calls Tryz.prog 79 #[.int .i64 k] W (FormR D tx fm w.heap.size W)) (z1 : (k == 1) = false) (z2 : (k == 2) = false) (z3 : (k == 3) = false) (z4 : (k == 4) = false) (z5 : (k == 5) = false) (z6 : (k == 6) = false) (z7 : (k == 7) = false) (z8 : (k == 8) = false) (z9 : (k == 9) = false) (z10 : (k == 10) = false) (z11 : (k == 11) = false) (z12 : (k == 12) = false) (z13 : (k == 13) = false) (z14 : (k == 14) = false) (z15 : (k == 15) = false) (z16 : (k == 16) = false) (z17 : (k == 17) = false) (z18 : (k == 18) = false) (z19 : (k == 19) = false) (z20 : (k == 20) = false) (z21 : (k == 21) = false) (z22 : (k == 22) = false) (z23 : (k == 23) = false) :
  Calls Tryz.prog 44 #[.int .i64 k] w (FormS D tx fm w) := by
 have hU := Up.start (Below.refl w.heap.size w) (Nat.le_refl _) (Nat.le_refl _)
 have HE := Lh HE
 go_enter Tryz.func44, Tryz.ntmps44
 go_wp2_with fail
 go_at_call 61
 refine (textQ_ok (w := w) (Q := (fun k => k = w.heap.size ∨ k = w.heap.size)) (fun k hk => by omega) signsL 8 _ _ rfl lq28 lq28 rfl).mono ?_
 rintro e w0t ⟨⟨vt, rfl, hvt⟩, hbt⟩
 have hU := (hU.alloc _).call hbt
 obtain ⟨gt, cpt, hve, _⟩ := id hvt
 subst hve
 go_wp2_with fail
 go_at_call 79
 refine (HE.out _ hU.b).mono ?_
 rintro e w1 ⟨f1, c1, f2, c2, rfl, hs1, ht1, hf1, hb1⟩
 have hs0 := hU.s
 have hU := hU.call hb1
 obtain ⟨_, _, _, _, hsz, r0, r1, x0, x1⟩ := id hU
 have hbz : Below w.heap.size w ((w1.setCell ⟨w.heap.size, 0, none⟩ (.func (.func f1) #[] c1)).setCell ⟨w.heap.size, 1, none⟩ (.func (.func f2) #[] c2)) := (hU.b.setCell (p := ⟨w.heap.size, 0, none⟩) (Nat.le_refl _) _).setCell (p := ⟨w.heap.size, 1, none⟩) (Nat.le_refl _) _
 have HZ : FormS D tx fm w (.returned (.agg #[.func (.func f1) #[] c1, .func (.func f2) #[] c2])) ((w1.setCell ⟨w.heap.size, 0, none⟩ (.func (.func f1) #[] c1)).setCell ⟨w.heap.size, 1, none⟩ (.func (.func f2) #[] c2)) :=
  ⟨_, f1, c1, f2, c2, rfl, fun k hk => ⟨by omega, by simp; omega⟩, (ht1.set (.inr rfl) _).set (.inr rfl) _, (hf1.set (.inr rfl) _).set (.inr rfl) _, hbz⟩
 clear hs1 hs0 ht1 hf1 hbz
 go_wp2
 exact bodyPost_ret (v := .agg #[.func (.func f1) #[] c1, .func (.func f2) #[] c2]) (by simp [results, Tryz.results44, go_sem, r0, r1, x0, x1]) rfl HZ
section
variable (D : Nat) (hRi : RightOk D) (w : World) (hT : Lib.Utf8Tabs 0 1 w)
include hRi hT
theorem forms_all : ∀ x ∈ forms, Calls Tryz.prog 44 #[.int .i64 x.1] w (FormS D x.2.1 x.2.2 w) := by
 simp only [forms, List.forall_mem_cons]
 refine ⟨(fm1 D hRi w w w.heap.size hT (Below.refl _ _) (Nat.le_refl _) (Nat.le_refl _)).mono (fun e w' h => h.toS), (fm2 D hRi w w w.heap.size hT (Below.refl _ _) (Nat.le_refl _) (Nat.le_refl _)).mono (fun e w' h => h.toS), (fm3 D hRi w w w.heap.size hT (Below.refl _ _) (Nat.le_refl _) (Nat.le_refl _)).mono (fun e w' h => h.toS), (fm4 D hRi w w w.heap.size hT (Below.refl _ _) (Nat.le_refl _) (Nat.le_refl _)).mono (fun e w' h => h.toS), (fm5 D hRi w w w.heap.size hT (Below.refl _ _) (Nat.le_refl _) (Nat.le_refl _)).mono (fun e w' h => h.toS), (fm6 D hRi w w w.heap.size hT (Below.refl _ _) (Nat.le_refl _) (Nat.le_refl _)).mono (fun e w' h => h.toS), (fm7 D hRi w w w.heap.size hT (Below.refl _ _) (Nat.le_refl _) (Nat.le_refl _)).mono (fun e w' h => h.toS), (fm8 D hRi w w w.heap.size hT (Below.refl _ _) (Nat.le_refl _) (Nat.le_refl _)).mono (fun e w' h => h.toS), (fm9 D hRi w w w.heap.size hT (Below.refl _ _) (Nat.le_refl _) (Nat.le_refl _)).mono (fun e w' h => h.toS), (fm10 D hRi w w w.heap.size hT (Below.refl _ _) (Nat.le_refl _) (Nat.le_refl _)).mono (fun e w' h => h.toS), (fm11 D hRi w w w.heap.size hT (Below.refl _ _) (Nat.le_refl _) (Nat.le_refl _)).mono (fun e w' h => h.toS), (fm12 D hRi w w w.heap.size hT (Below.refl _ _) (Nat.le_refl _) (Nat.le_refl _)).mono (fun e w' h => h.toS), (fm13 D hRi w w w.heap.size hT (Below.refl _ _) (Nat.le_refl _) (Nat.le_refl _)).mono (fun e w' h => h.toS), (fm14 D hRi w w w.heap.size hT (Below.refl _ _) (Nat.le_refl _) (Nat.le_refl _)).mono (fun e w' h => h.toS), (fm15 D hRi w w w.heap.size hT (Below.refl _ _) (Nat.le_refl _) (Nat.le_refl _)).mono (fun e w' h => h.toS), (fm16 D hRi w w w.heap.size hT (Below.refl _ _) (Nat.le_refl _) (Nat.le_refl _)).mono (fun e w' h => h.toS), (fm17 D hRi w w w.heap.size hT (Below.refl _ _) (Nat.le_refl _) (Nat.le_refl _)).mono (fun e w' h => h.toS), (fm18 D hRi w w w.heap.size hT (Below.refl _ _) (Nat.le_refl _) (Nat.le_refl _)).mono (fun e w' h => h.toS), (fm19 D hRi w w w.heap.size hT (Below.refl _ _) (Nat.le_refl _) (Nat.le_refl _)).mono (fun e w' h => h.toS), (fm20 D hRi w w w.heap.size hT (Below.refl _ _) (Nat.le_refl _) (Nat.le_refl _)).mono (fun e w' h => h.toS), (fm21 D hRi w w w.heap.size hT (Below.refl _ _) (Nat.le_refl _) (Nat.le_refl _)).mono (fun e w' h => h.toS), (fm22 D hRi w w w.heap.size hT (Below.refl _ _) (Nat.le_refl _) (Nat.le_refl _)).mono (fun e w' h => h.toS), (fm23 D hRi w w w.heap.size hT (Below.refl _ _) (Nat.le_refl _) (Nat.le_refl _)).mono (fun e w' h => h.toS), stmt_expr D _ _ 31 w (fun W hW => fm31 D hRi w W w.heap.size hT hW (Nat.le_refl _) hW.size) rfl rfl rfl rfl rfl rfl rfl rfl rfl rfl rfl rfl rfl rfl rfl rfl rfl rfl rfl rfl rfl rfl rfl, stmt_expr D _ _ 32 w (fun W hW => fm32 D hRi w W w.heap.size hT hW (Nat.le_refl _) hW.size) rfl rfl rfl rfl rfl rfl rfl rfl rfl rfl rfl rfl rfl rfl rfl rfl rfl rfl rfl rfl rfl rfl rfl, stmt_expr D _ _ 33 w (fun W hW => fm33 D hRi w W w.heap.size hT hW (Nat.le_refl _) hW.size) rfl rfl rfl rfl rfl rfl rfl rfl rfl rfl rfl rfl rfl rfl rfl rfl rfl rfl rfl rfl rfl rfl rfl, stmt_expr D _ _ 34 w (fun W hW => fm34 D hRi w W w.heap.size hT hW (Nat.le_refl _) hW.size) rfl rfl rfl rfl rfl rfl rfl rfl rfl rfl rfl rfl rfl rfl rfl rfl rfl rfl rfl rfl rfl rfl rfl, stmt_expr D _ _ 35 w (fun W hW => fm35 D hRi w W w.heap.size hT hW (Nat.le_refl _) hW.size) rfl rfl rfl rfl rfl rfl rfl rfl rfl rfl rfl rfl rfl rfl rfl rfl rfl rfl rfl rfl rfl rfl rfl, stmt_expr D _ _ 36 w (fun W hW => fm36 D hRi w W w.heap.size hT hW (Nat.le_refl _) hW.size) rfl rfl rfl rfl rfl rfl rfl rfl rfl rfl rfl rfl rfl rfl rfl rfl rfl rfl rfl rfl rfl rfl rfl, stmt_expr D _ _ 37 w (fun W hW => fm37 D hRi w W w.heap.size hT hW (Nat.le_refl _) hW.size) rfl rfl rfl rfl rfl rfl rfl rfl rfl rfl rfl rfl rfl rfl rfl rfl rfl rfl rfl rfl rfl rfl rfl, stmt_expr D _ _ 38 w (fun W hW => fm38 D hRi w W w.heap.size hT hW (Nat.le_refl _) hW.size) rfl rfl rfl rfl rfl rfl rfl rfl rfl rfl rfl rfl rfl rfl rfl rfl rfl rfl rfl rfl rfl rfl rfl, stmt_expr D _ _ 39 w (fun W hW => fm39 D hRi w W w.heap.size hT hW (Nat.le_refl _) hW.size) rfl rfl rfl rfl rfl rfl rfl rfl rfl rfl rfl rfl rfl rfl rfl rfl rfl rfl rfl rfl rfl rfl rfl, stmt_expr D _ _ 45 w (fun W hW => fm45 D hRi w W w.heap.size hT hW (Nat.le_refl _) hW.size) rfl rfl rfl rfl rfl rfl rfl rfl rfl rfl rfl rfl rfl rfl rfl rfl rfl rfl rfl rfl rfl rfl rfl, stmt_expr D _ _ 46 w (fun W hW => fm46 D hRi w W w.heap.size hT hW (Nat.le_refl _) hW.size) rfl rfl rfl rfl rfl rfl rfl rfl rfl rfl rfl rfl rfl rfl rfl rfl rfl rfl rfl rfl rfl rfl rfl, stmt_expr D _ _ 54 w (fun W hW => fm54 D hRi w W w.heap.size hT hW (Nat.le_refl _) hW.size) rfl rfl rfl rfl rfl rfl rfl rfl rfl rfl rfl rfl rfl rfl rfl rfl rfl rfl rfl rfl rfl rfl rfl, stmt_expr D _ _ 40 w (fun W hW => fm40 D hRi w W w.heap.size hT hW (Nat.le_refl _) hW.size) rfl rfl rfl rfl rfl rfl rfl rfl rfl rfl rfl rfl rfl rfl rfl rfl rfl rfl rfl rfl rfl rfl rfl, stmt_expr D _ _ 47 w (fun W hW => fm47 D hRi w W w.heap.size hT hW (Nat.le_refl _) hW.size) rfl rfl rfl rfl rfl rfl rfl rfl rfl rfl rfl rfl rfl rfl rfl rfl rfl rfl rfl rfl rfl rfl rfl, stmt_expr D _ _ 50 w (fun W hW => fm50 D hRi w W w.heap.size hT hW (Nat.le_refl _) hW.size) rfl rfl rfl rfl rfl rfl rfl rfl rfl rfl rfl rfl rfl rfl rfl rfl rfl rfl rfl rfl rfl rfl rfl, stmt_expr D _ _ 41 w (fun W hW => fm41 D hRi w W w.heap.size hT hW (Nat.le_refl _) hW.size) rfl rfl rfl rfl rfl rfl rfl rfl rfl rfl rfl rfl rfl rfl rfl rfl rfl rfl rfl rfl rfl rfl rfl, stmt_expr D _ _ 42 w (fun W hW => fm42 D hRi w W w.heap.size hT hW (Nat.le_refl _) hW.size) rfl rfl rfl rfl rfl rfl rfl rfl rfl rfl rfl rfl rfl rfl rfl rfl rfl rfl rfl rfl rfl rfl rfl, stmt_expr D _ _ 43 w (fun W hW => fm43 D hRi w W w.heap.size hT hW (Nat.le_refl _) hW.size) rfl rfl rfl rfl rfl rfl rfl rfl rfl rfl rfl rfl rfl rfl rfl rfl rfl rfl rfl rfl rfl rfl rfl, stmt_expr D _ _ 44 w (fun W hW => fm44 D hRi w W w.heap.size hT hW (Nat.le_refl _) hW.size) rfl rfl rfl rfl rfl rfl rfl rfl rfl rfl rfl rfl rfl rfl rfl rfl rfl rfl rfl rfl rfl rfl rfl, stmt_expr D _ _ 48 w (fun W hW => fm48 D hRi w W w.heap.size hT hW (Nat.le_refl _) hW.size) rfl rfl rfl rfl rfl rfl rfl rfl rfl rfl rfl rfl rfl rfl rfl rfl rfl rfl rfl rfl rfl rfl rfl, stmt_expr D _ _ 49 w (fun W hW => fm49 D hRi w W w.heap.size hT hW (Nat.le_refl _) hW.size) rfl rfl rfl rfl rfl rfl rfl rfl rfl rfl rfl rfl rfl rfl rfl rfl rfl rfl rfl rfl rfl rfl rfl, stmt_expr D _ _ 51 w (fun W hW => fm51 D hRi w W w.heap.size hT hW (Nat.le_refl _) hW.size) rfl rfl rfl rfl rfl rfl rfl rfl rfl rfl rfl rfl rfl rfl rfl rfl rfl rfl rfl rfl rfl rfl rfl, stmt_expr D _ _ 52 w (fun W hW => fm52 D hRi w W w.heap.size hT hW (Nat.le_refl _) hW.size) rfl rfl rfl rfl rfl rfl rfl rfl rfl rfl rfl rfl rfl rfl rfl rfl rfl rfl rfl rfl rfl rfl rfl, stmt_expr D _ _ 53 w (fun W hW => fm53 D hRi w W w.heap.size hT hW (Nat.le_refl _) hW.size) rfl rfl rfl rfl rfl rfl rfl rfl rfl rfl rfl rfl rfl rfl rfl rfl rfl rfl rfl rfl rfl rfl rfl, fun x hx => absurd hx lq30⟩
end
theorem forms_none (k : Int) (w : World) (h : formOf k = none) : Calls Tryz.prog 44 #[.int .i64 k] w fun e w' => e = .returned (.agg #[.nilFunc, .nilFunc]) ∧ Below w.heap.size w w' := by
 have hz : ∀ x ∈ forms, (k == x.1) = false := by
  intro x hx; unfold formOf at h; rw [Option.map_eq_none_iff, List.find?_eq_none] at h; have := h x hx; simp only [beq_iff_eq] at this; exact beq_eq_false_iff_ne.2 (fun e => this e.symm)
 simp only [forms, List.forall_mem_cons] at hz
 obtain ⟨z1, z2, z3, z4, z5, z6, z7, z8, z9, z10, z11, z12, z13, z14, z15, z16, z17, z18, z19, z20, z21, z22, z23, z31, z32, z33, z34, z35, z36, z37, z38, z39, z45, z46, z54, z40, z47, z50, z41, z42, z43, z44, z48, z49, z51, z52, z53, -⟩ := hz
 exact stmt_none k w (fun W => expr_none k W z31 z32 z33 z34 z35 z36 z37 z38 z39 z45 z46 z54 z40 z47 z50 z41 z42 z43 z44 z48 z49 z51 z52 z53) z1 z2 z3 z4 z5 z6 z7 z8 z9 z10 z11 z12 z13 z14 z15 z16 z17 z18 z19 z20 z21 z22 z23
theorem forms_some (D : Nat) (hRi : RightOk D) (k : Int) (tx : Tx) (fm : Fm) (w : World) (hT : Lib.Utf8Tabs 0 1 w) (h : formOf k = some (tx, fm)) : Calls Tryz.prog 44 #[.int .i64 k] w (FormS D tx fm w) := by
 unfold formOf at h
 rw [Option.map_eq_some_iff] at h
 obtain ⟨⟨k', t', f'⟩, hf, he⟩ := h
 have hm := List.mem_of_find?_eq_some hf
 have hk := List.find?_some hf
 simp only [beq_iff_eq] at hk
 simp only [Prod.mk.injEq] at he
 obtain ⟨rfl, rfl⟩ := he
 subst hk
 exact forms_all D hRi w hT _ hm
end
end Go.Proofs.YtjefhdlncikhmaaGreatDoor
