/- Joined by a program: FrmE3, FrmE4, FrmA, Rgt. -/
import Derived.WalkKit
import Derived.Test.YtjefhdlncikhmaaGreatDoorShelf
import Derived.Test.YtjefhdlncikhmaaGreatDoorPB10
import Derived.Test.YtjefhdlncikhmaaGreatDoorPB20
namespace Go.Proofs.YtjefhdlncikhmaaGreatDoor
section
set_option linter.unusedVariables false
set_option linter.unusedSimpArgs false
open Go.RowKit
set_option maxRecDepth 1000000
set_option maxHeartbeats 4000000 in
theorem fm40 (D : Nat) (hRi : RightOk D) (w0 w : World) (P : Nat) (hT : Lib.Utf8Tabs 0 1 w0) (h0 : Below w0.heap.size w0 w) (hp0 : w0.heap.size ≤ P) (hp1 : P ≤ w.heap.size) :
    Calls Tryz.prog 79 #[.int .i64 40] w (FormR D .non (.row [.expr]) P w) := by
  have hU := Up.start h0 hp0 hp1
  go_enter Tryz.func79, Tryz.ntmps79
  go_wp2_with fail
  have hS := shapesQ_one hU.q (qExpr hRi (hU.tabs hT)) 69
  try rw [show (w.alloc (.cells #[.nilFunc, .nilFunc] 71)).heap.size = w.heap.size + 1 by simp] at hS
  have hU := hU.alloc (.cells #[.func (.func 67) #[] #[]] 69)
  go_at_call 63
  refine (kidsQ_ok (D := D) hU.q [Sh.ev Nd.right .expr] 1 _ rfl hS (by unfold maxLen; omega)).mono ?_
  rintro e w1 ⟨⟨v1, rfl, hv1⟩, hb1⟩
  have hU := hU.call hb1
  obtain ⟨g1, cp1, hve, _⟩ := id hv1
  subst hve
  obtain ⟨_, _, _, _, hsz, r0, r1, z0, z1⟩ := id hU
  go_wp2
  exact bodyPost_ret (v := .agg #[.func (.func 62) #[] #[], .func (.func g1) #[] cp1]) (by simp [results, Tryz.results79, go_sem, r0, r1, z0, z1]) rfl (FormR.put hU textQ_non hv1)
set_option maxHeartbeats 4000000 in
theorem fm47 (D : Nat) (hRi : RightOk D) (w0 w : World) (P : Nat) (hT : Lib.Utf8Tabs 0 1 w0) (h0 : Below w0.heap.size w0 w) (hp0 : w0.heap.size ≤ P) (hp1 : P ≤ w.heap.size) :
    Calls Tryz.prog 79 #[.int .i64 47] w (FormR D .non (.row [.expr]) P w) := by
  have hU := Up.start h0 hp0 hp1
  go_enter Tryz.func79, Tryz.ntmps79
  go_wp2_with fail
  have hS := shapesQ_one hU.q (qExpr hRi (hU.tabs hT)) 69
  try rw [show (w.alloc (.cells #[.nilFunc, .nilFunc] 71)).heap.size = w.heap.size + 1 by simp] at hS
  have hU := hU.alloc (.cells #[.func (.func 67) #[] #[]] 69)
  go_at_call 63
  refine (kidsQ_ok (D := D) hU.q [Sh.ev Nd.right .expr] 1 _ rfl hS (by unfold maxLen; omega)).mono ?_
  rintro e w1 ⟨⟨v1, rfl, hv1⟩, hb1⟩
  have hU := hU.call hb1
  obtain ⟨g1, cp1, hve, _⟩ := id hv1
  subst hve
  obtain ⟨_, _, _, _, hsz, r0, r1, z0, z1⟩ := id hU
  go_wp2
  exact bodyPost_ret (v := .agg #[.func (.func 62) #[] #[], .func (.func g1) #[] cp1]) (by simp [results, Tryz.results79, go_sem, r0, r1, z0, z1]) rfl (FormR.put hU textQ_non hv1)
set_option maxHeartbeats 4000000 in
theorem fm50 (D : Nat) (hRi : RightOk D) (w0 w : World) (P : Nat) (hT : Lib.Utf8Tabs 0 1 w0) (h0 : Below w0.heap.size w0 w) (hp0 : w0.heap.size ≤ P) (hp1 : P ≤ w.heap.size) :
    Calls Tryz.prog 79 #[.int .i64 50] w (FormR D .non (.row [.expr]) P w) := by
  have hU := Up.start h0 hp0 hp1
  go_enter Tryz.func79, Tryz.ntmps79
  go_wp2_with fail
  have hS := shapesQ_one hU.q (qExpr hRi (hU.tabs hT)) 69
  try rw [show (w.alloc (.cells #[.nilFunc, .nilFunc] 71)).heap.size = w.heap.size + 1 by simp] at hS
  have hU := hU.alloc (.cells #[.func (.func 67) #[] #[]] 69)
  go_at_call 63
  refine (kidsQ_ok (D := D) hU.q [Sh.ev Nd.right .expr] 1 _ rfl hS (by unfold maxLen; omega)).mono ?_
  rintro e w1 ⟨⟨v1, rfl, hv1⟩, hb1⟩
  have hU := hU.call hb1
  obtain ⟨g1, cp1, hve, _⟩ := id hv1
  subst hve
  obtain ⟨_, _, _, _, hsz, r0, r1, z0, z1⟩ := id hU
  go_wp2
  exact bodyPost_ret (v := .agg #[.func (.func 62) #[] #[], .func (.func g1) #[] cp1]) (by simp [results, Tryz.results79, go_sem, r0, r1, z0, z1]) rfl (FormR.put hU textQ_non hv1)
set_option maxHeartbeats 4000000 in
theorem fm41 (D : Nat) (hRi : RightOk D) (w0 w : World) (P : Nat) (hT : Lib.Utf8Tabs 0 1 w0) (h0 : Below w0.heap.size w0 w) (hp0 : w0.heap.size ≤ P) (hp1 : P ≤ w.heap.size) :
    Calls Tryz.prog 79 #[.int .i64 41] w (FormR D .non (.cmp .expr) P w) := by
  have hU := Up.start h0 hp0 hp1
  go_enter Tryz.func79, Tryz.ntmps79
  go_wp2_with fail
  go_at_call 138
  refine (compQ_ok (D := D) hRi hU.q _ .expr (hU.tabs hT) (qExpr hRi (hU.tabs hT))).mono ?_
  rintro e w1 ⟨⟨v1, rfl, hv1⟩, hb1⟩
  have hU := hU.call hb1
  obtain ⟨g1, cp1, hve, _⟩ := id hv1
  subst hve
  obtain ⟨_, _, _, _, hsz, r0, r1, z0, z1⟩ := id hU
  go_wp2
  exact bodyPost_ret (v := .agg #[.func (.func 62) #[] #[], .func (.func g1) #[] cp1]) (by simp [results, Tryz.results79, go_sem, r0, r1, z0, z1]) rfl (FormR.put hU textQ_non hv1)
set_option maxHeartbeats 4000000 in
theorem fm42 (D : Nat) (hRi : RightOk D) (w0 w : World) (P : Nat) (hT : Lib.Utf8Tabs 0 1 w0) (h0 : Below w0.heap.size w0 w) (hp0 : w0.heap.size ≤ P) (hp1 : P ≤ w.heap.size) :
    Calls Tryz.prog 79 #[.int .i64 42] w (FormR D .non (.cmp .expr) P w) := by
  have hU := Up.start h0 hp0 hp1
  go_enter Tryz.func79, Tryz.ntmps79
  go_wp2_with fail
  go_at_call 138
  refine (compQ_ok (D := D) hRi hU.q _ .expr (hU.tabs hT) (qExpr hRi (hU.tabs hT))).mono ?_
  rintro e w1 ⟨⟨v1, rfl, hv1⟩, hb1⟩
  have hU := hU.call hb1
  obtain ⟨g1, cp1, hve, _⟩ := id hv1
  subst hve
  obtain ⟨_, _, _, _, hsz, r0, r1, z0, z1⟩ := id hU
  go_wp2
  exact bodyPost_ret (v := .agg #[.func (.func 62) #[] #[], .func (.func g1) #[] cp1]) (by simp [results, Tryz.results79, go_sem, r0, r1, z0, z1]) rfl (FormR.put hU textQ_non hv1)
set_option maxHeartbeats 4000000 in
theorem fm43 (D : Nat) (hRi : RightOk D) (w0 w : World) (P : Nat) (hT : Lib.Utf8Tabs 0 1 w0) (h0 : Below w0.heap.size w0 w) (hp0 : w0.heap.size ≤ P) (hp1 : P ≤ w.heap.size) :
    Calls Tryz.prog 79 #[.int .i64 43] w (FormR D .non (.cmp (.of 39)) P w) := by
  have hU := Up.start h0 hp0 hp1
  go_enter Tryz.func79, Tryz.ntmps79
  go_wp2_with fail
  go_at_call 64
  refine (ofQ_ok (D := D) hRi hU.q (hU.tabs hT) 39).mono ?_
  rintro e w1 ⟨⟨v1, rfl, hv1⟩, hb1⟩
  have hU := hU.call hb1
  obtain ⟨g1, cp1, hve, _⟩ := id hv1
  subst hve
  go_wp2_with fail
  go_at_call 138
  refine (compQ_ok (D := D) hRi hU.q _ (.of 39) (hU.tabs hT) hv1).mono ?_
  rintro e w2 ⟨⟨v2, rfl, hv2⟩, hb2⟩
  have hv1 := hv1.later hb2
  have hU := hU.call hb2
  obtain ⟨g2, cp2, hve, _⟩ := id hv2
  subst hve
  obtain ⟨_, _, _, _, hsz, r0, r1, z0, z1⟩ := id hU
  go_wp2
  exact bodyPost_ret (v := .agg #[.func (.func 62) #[] #[], .func (.func g2) #[] cp2]) (by simp [results, Tryz.results79, go_sem, r0, r1, z0, z1]) rfl (FormR.put hU textQ_non hv2)
end
section
set_option linter.unusedVariables false
set_option linter.unusedSimpArgs false
open Go.RowKit
set_option maxRecDepth 1000000
set_option maxHeartbeats 4000000 in
theorem fm44 (D : Nat) (hRi : RightOk D) (w0 w : World) (P : Nat) (hT : Lib.Utf8Tabs 0 1 w0) (h0 : Below w0.heap.size w0 w) (hp0 : w0.heap.size ≤ P) (hp1 : P ≤ w.heap.size) :
    Calls Tryz.prog 79 #[.int .i64 44] w (FormR D .non (.row [.expr, .expr, .expr]) P w) := by
  have hU := Up.start h0 hp0 hp1
  go_enter Tryz.func79, Tryz.ntmps79
  go_wp2_with fail
  have hS := shapesQ_three hU.q (qExpr hRi (hU.tabs hT)) (qExpr hRi (hU.tabs hT)) (qExpr hRi (hU.tabs hT)) 69
  try rw [show (w.alloc (.cells #[.nilFunc, .nilFunc] 71)).heap.size = w.heap.size + 1 by simp] at hS
  have hU := hU.alloc (.cells #[.func (.func 67) #[] #[], .func (.func 67) #[] #[], .func (.func 67) #[] #[]] 69)
  go_at_call 63
  refine (kidsQ_ok (D := D) hU.q [Sh.ev Nd.right .expr, Sh.ev Nd.right .expr, Sh.ev Nd.right .expr] 3 _ rfl hS (by unfold maxLen; omega)).mono ?_
  rintro e w1 ⟨⟨v1, rfl, hv1⟩, hb1⟩
  have hU := hU.call hb1
  obtain ⟨g1, cp1, hve, _⟩ := id hv1
  subst hve
  obtain ⟨_, _, _, _, hsz, r0, r1, z0, z1⟩ := id hU
  go_wp2
  exact bodyPost_ret (v := .agg #[.func (.func 62) #[] #[], .func (.func g1) #[] cp1]) (by simp [results, Tryz.results79, go_sem, r0, r1, z0, z1]) rfl (FormR.put hU textQ_non hv1)
set_option maxHeartbeats 4000000 in
theorem fm48 (D : Nat) (hRi : RightOk D) (w0 w : World) (P : Nat) (hT : Lib.Utf8Tabs 0 1 w0) (h0 : Below w0.heap.size w0 w) (hp0 : w0.heap.size ≤ P) (hp1 : P ≤ w.heap.size) :
    Calls Tryz.prog 79 #[.int .i64 48] w (FormR D (.words compsL) (.row [.expr, .expr]) P w) := by
  have hU := Up.start h0 hp0 hp1
  go_enter Tryz.func79, Tryz.ntmps79
  go_wp2_with fail
  go_at_call 61
  refine (textQ_ok (w := w) (Q := (fun k => k = w.heap.size ∨ k = P)) (fun k hk => by have := hU.p1; omega) compsL 10 _ _ rfl (by decide) (by decide) rfl).mono ?_
  rintro e w0t ⟨⟨vt, rfl, hvt⟩, hbt⟩
  have hU := (hU.alloc _).call hbt
  obtain ⟨gt, cpt, hve, _⟩ := id hvt
  subst hve
  go_wp2_with fail
  have hS := shapesQ_two hU.q (qExpr hRi (hU.tabs hT)) (qExpr hRi (hU.tabs hT)) 69
  try rw [show (w.alloc (.cells #[.nilFunc, .nilFunc] 71)).heap.size = w.heap.size + 1 by simp] at hS
  have hvt := hvt.later ((Below.refl _ _).alloc (Nat.le_refl _) (.cells #[.func (.func 67) #[] #[], .func (.func 67) #[] #[]] 69))
  have hU := hU.alloc (.cells #[.func (.func 67) #[] #[], .func (.func 67) #[] #[]] 69)
  go_at_call 63
  refine (kidsQ_ok (D := D) hU.q [Sh.ev Nd.right .expr, Sh.ev Nd.right .expr] 2 _ rfl hS (by unfold maxLen; omega)).mono ?_
  rintro e w1 ⟨⟨v1, rfl, hv1⟩, hb1⟩
  have hvt := hvt.later hb1
  have hU := hU.call hb1
  obtain ⟨g1, cp1, hve, _⟩ := id hv1
  subst hve
  obtain ⟨_, _, _, _, hsz, r0, r1, z0, z1⟩ := id hU
  go_wp2
  exact bodyPost_ret (v := .agg #[.func (.func gt) #[] cpt, .func (.func g1) #[] cp1]) (by simp [results, Tryz.results79, go_sem, r0, r1, z0, z1]) rfl (FormR.put hU hvt hv1)
set_option maxHeartbeats 4000000 in
theorem fm49 (D : Nat) (hRi : RightOk D) (w0 w : World) (P : Nat) (hT : Lib.Utf8Tabs 0 1 w0) (h0 : Below w0.heap.size w0 w) (hp0 : w0.heap.size ≤ P) (hp1 : P ≤ w.heap.size) :
    Calls Tryz.prog 79 #[.int .i64 49] w (FormR D (.words signsL) (.row [.expr, .expr]) P w) := by
  have hU := Up.start h0 hp0 hp1
  go_enter Tryz.func79, Tryz.ntmps79
  go_wp2_with fail
  go_at_call 61
  refine (textQ_ok (w := w) (Q := (fun k => k = w.heap.size ∨ k = P)) (fun k hk => by have := hU.p1; omega) signsL 8 _ _ rfl (by decide) (by decide) rfl).mono ?_
  rintro e w0t ⟨⟨vt, rfl, hvt⟩, hbt⟩
  have hU := (hU.alloc _).call hbt
  obtain ⟨gt, cpt, hve, _⟩ := id hvt
  subst hve
  go_wp2_with fail
  have hS := shapesQ_two hU.q (qExpr hRi (hU.tabs hT)) (qExpr hRi (hU.tabs hT)) 69
  try rw [show (w.alloc (.cells #[.nilFunc, .nilFunc] 71)).heap.size = w.heap.size + 1 by simp] at hS
  have hvt := hvt.later ((Below.refl _ _).alloc (Nat.le_refl _) (.cells #[.func (.func 67) #[] #[], .func (.func 67) #[] #[]] 69))
  have hU := hU.alloc (.cells #[.func (.func 67) #[] #[], .func (.func 67) #[] #[]] 69)
  go_at_call 63
  refine (kidsQ_ok (D := D) hU.q [Sh.ev Nd.right .expr, Sh.ev Nd.right .expr] 2 _ rfl hS (by unfold maxLen; omega)).mono ?_
  rintro e w1 ⟨⟨v1, rfl, hv1⟩, hb1⟩
  have hvt := hvt.later hb1
  have hU := hU.call hb1
  obtain ⟨g1, cp1, hve, _⟩ := id hv1
  subst hve
  obtain ⟨_, _, _, _, hsz, r0, r1, z0, z1⟩ := id hU
  go_wp2
  exact bodyPost_ret (v := .agg #[.func (.func gt) #[] cpt, .func (.func g1) #[] cp1]) (by simp [results, Tryz.results79, go_sem, r0, r1, z0, z1]) rfl (FormR.put hU hvt hv1)
set_option maxHeartbeats 4000000 in
theorem fm51 (D : Nat) (hRi : RightOk D) (w0 w : World) (P : Nat) (hT : Lib.Utf8Tabs 0 1 w0) (h0 : Below w0.heap.size w0 w) (hp0 : w0.heap.size ≤ P) (hp1 : P ≤ w.heap.size) :
    Calls Tryz.prog 79 #[.int .i64 51] w (FormR D .non .cll P w) := by
  have hU := Up.start h0 hp0 hp1
  go_enter Tryz.func79, Tryz.ntmps79
  go_wp2
  have hbz := (Below.refl w.heap.size w).alloc (Nat.le_refl _) (.cells #[.func (.func 62) #[] #[], .func (.func 139) #[] #[]] 71)
  exact bodyPost_ret (v := .agg #[.func (.func 62) #[] #[], .func (.func 139) #[] #[]]) (by simp [results, Tryz.results79, go_sem]) rfl ⟨_, _, _, _, rfl, by simp, textQ_non, qCall hRi (tabsQ_of hT (h0.trans (hbz.mono h0.size)) (fun k hk => by have := h0.size; omega)), hbz⟩
set_option maxHeartbeats 4000000 in
theorem fm52 (D : Nat) (hRi : RightOk D) (w0 w : World) (P : Nat) (hT : Lib.Utf8Tabs 0 1 w0) (h0 : Below w0.heap.size w0 w) (hp0 : w0.heap.size ≤ P) (hp1 : P ≤ w.heap.size) :
    Calls Tryz.prog 79 #[.int .i64 52] w (FormR D .name (.row [.expr]) P w) := by
  have hU := Up.start h0 hp0 hp1
  go_enter Tryz.func79, Tryz.ntmps79
  go_wp2_with fail
  have hS := shapesQ_one hU.q (qExpr hRi (hU.tabs hT)) 69
  try rw [show (w.alloc (.cells #[.nilFunc, .nilFunc] 71)).heap.size = w.heap.size + 1 by simp] at hS
  have hU := hU.alloc (.cells #[.func (.func 67) #[] #[]] 69)
  go_at_call 63
  refine (kidsQ_ok (D := D) hU.q [Sh.ev Nd.right .expr] 1 _ rfl hS (by unfold maxLen; omega)).mono ?_
  rintro e w1 ⟨⟨v1, rfl, hv1⟩, hb1⟩
  have hU := hU.call hb1
  obtain ⟨g1, cp1, hve, _⟩ := id hv1
  subst hve
  obtain ⟨_, _, _, _, hsz, r0, r1, z0, z1⟩ := id hU
  go_wp2
  exact bodyPost_ret (v := .agg #[.func (.func 73) #[] #[], .func (.func g1) #[] cp1]) (by simp [results, Tryz.results79, go_sem, r0, r1, z0, z1]) rfl (FormR.put hU textQ_name hv1)
set_option maxHeartbeats 4000000 in
theorem fm53 (D : Nat) (hRi : RightOk D) (w0 w : World) (P : Nat) (hT : Lib.Utf8Tabs 0 1 w0) (h0 : Below w0.heap.size w0 w) (hp0 : w0.heap.size ≤ P) (hp1 : P ≤ w.heap.size) :
    Calls Tryz.prog 79 #[.int .i64 53] w (FormR D .name (.row [.expr]) P w) := by
  have hU := Up.start h0 hp0 hp1
  go_enter Tryz.func79, Tryz.ntmps79
  go_wp2_with fail
  have hS := shapesQ_one hU.q (qExpr hRi (hU.tabs hT)) 69
  try rw [show (w.alloc (.cells #[.nilFunc, .nilFunc] 71)).heap.size = w.heap.size + 1 by simp] at hS
  have hU := hU.alloc (.cells #[.func (.func 67) #[] #[]] 69)
  go_at_call 63
  refine (kidsQ_ok (D := D) hU.q [Sh.ev Nd.right .expr] 1 _ rfl hS (by unfold maxLen; omega)).mono ?_
  rintro e w1 ⟨⟨v1, rfl, hv1⟩, hb1⟩
  have hU := hU.call hb1
  obtain ⟨g1, cp1, hve, _⟩ := id hv1
  subst hve
  obtain ⟨_, _, _, _, hsz, r0, r1, z0, z1⟩ := id hU
  go_wp2
  exact bodyPost_ret (v := .agg #[.func (.func 73) #[] #[], .func (.func g1) #[] cp1]) (by simp [results, Tryz.results79, go_sem, r0, r1, z0, z1]) rfl (FormR.put hU textQ_name hv1)
end
section
set_option linter.unusedVariables false
set_option linter.unusedSimpArgs false
open Go.RowKit
set_option maxRecDepth 1000000
set_option maxHeartbeats 4000000 in
theorem expr_none (k : Int) (w : World) (z31 : (k == 31) = false) (z32 : (k == 32) = false) (z33 : (k == 33) = false) (z34 : (k == 34) = false) (z35 : (k == 35) = false) (z36 : (k == 36) = false) (z37 : (k == 37) = false) (z38 : (k == 38) = false) (z39 : (k == 39) = false) (z45 : (k == 45) = false) (z46 : (k == 46) = false) (z54 : (k == 54) = false) (z40 : (k == 40) = false) (z47 : (k == 47) = false) (z50 : (k == 50) = false) (z41 : (k == 41) = false) (z42 : (k == 42) = false) (z43 : (k == 43) = false) (z44 : (k == 44) = false) (z48 : (k == 48) = false) (z49 : (k == 49) = false) (z51 : (k == 51) = false) (z52 : (k == 52) = false) (z53 : (k == 53) = false) :
    Calls Tryz.prog 79 #[.int .i64 k] w fun e w' => e = .returned (.agg #[.nilFunc, .nilFunc]) ∧ Below w.heap.size w w' := by
  go_enter Tryz.func79, Tryz.ntmps79
  go_wp2
  exact bodyPost_ret (v := .agg #[.nilFunc, .nilFunc]) (by simp [results, Tryz.results79, go_sem]) rfl ⟨rfl, (Below.refl _ _).alloc (Nat.le_refl _) _⟩
set_option maxHeartbeats 4000000 in
theorem stmt_none (k : Int) (w : World) (HE : ∀ W, Calls Tryz.prog 79 #[.int .i64 k] W fun e w' => e = .returned (.agg #[.nilFunc, .nilFunc]) ∧ Below W.heap.size W w') (z1 : (k == 1) = false) (z2 : (k == 2) = false) (z3 : (k == 3) = false) (z4 : (k == 4) = false) (z5 : (k == 5) = false) (z6 : (k == 6) = false) (z7 : (k == 7) = false) (z8 : (k == 8) = false) (z9 : (k == 9) = false) (z10 : (k == 10) = false) (z11 : (k == 11) = false) (z12 : (k == 12) = false) (z13 : (k == 13) = false) (z14 : (k == 14) = false) (z15 : (k == 15) = false) (z16 : (k == 16) = false) (z17 : (k == 17) = false) (z18 : (k == 18) = false) (z19 : (k == 19) = false) (z20 : (k == 20) = false) (z21 : (k == 21) = false) (z22 : (k == 22) = false) (z23 : (k == 23) = false) :
    Calls Tryz.prog 44 #[.int .i64 k] w fun e w' => e = .returned (.agg #[.nilFunc, .nilFunc]) ∧ Below w.heap.size w w' := by
  have hU := Up.start (Below.refl w.heap.size w) (Nat.le_refl _) (Nat.le_refl _)
  have HE := Lib.hid HE
  go_enter Tryz.func44, Tryz.ntmps44
  go_wp2_with fail
  go_at_call 61
  refine (textQ_ok (w := w) (Q := (fun k => k = w.heap.size ∨ k = w.heap.size)) (fun k hk => by omega) signsL 8 _ _ rfl (by decide) (by decide) rfl).mono ?_
  rintro e w0t ⟨⟨vt, rfl, hvt⟩, hbt⟩
  have hU := (hU.alloc _).call hbt
  obtain ⟨gt, cpt, hve, _⟩ := id hvt
  subst hve
  go_wp2_with fail
  go_at_call 79
  refine (HE.out _).mono ?_
  rintro e w1 ⟨rfl, hb1⟩
  have hU := hU.call hb1
  obtain ⟨_, _, _, _, hsz, r0, r1, x0, x1⟩ := id hU
  go_wp2
  exact bodyPost_ret (v := .agg #[.nilFunc, .nilFunc]) (by simp [results, Tryz.results44, go_sem, r0, r1, x0, x1]) rfl ⟨rfl, (hU.b.setCell (p := ⟨w.heap.size, 0, none⟩) (Nat.le_refl _) _).setCell (p := ⟨w.heap.size, 1, none⟩) (Nat.le_refl _) _⟩
set_option maxHeartbeats 4000000 in
theorem stmt_expr (D : Nat) (tx : Tx) (fm : Fm) (k : Int) (w : World) (HE : ∀ W, Below w.heap.size w W → Calls Tryz.prog 79 #[.int .i64 k] W (FormR D tx fm w.heap.size W)) (z1 : (k == 1) = false) (z2 : (k == 2) = false) (z3 : (k == 3) = false) (z4 : (k == 4) = false) (z5 : (k == 5) = false) (z6 : (k == 6) = false) (z7 : (k == 7) = false) (z8 : (k == 8) = false) (z9 : (k == 9) = false) (z10 : (k == 10) = false) (z11 : (k == 11) = false) (z12 : (k == 12) = false) (z13 : (k == 13) = false) (z14 : (k == 14) = false) (z15 : (k == 15) = false) (z16 : (k == 16) = false) (z17 : (k == 17) = false) (z18 : (k == 18) = false) (z19 : (k == 19) = false) (z20 : (k == 20) = false) (z21 : (k == 21) = false) (z22 : (k == 22) = false) (z23 : (k == 23) = false) :
    Calls Tryz.prog 44 #[.int .i64 k] w (FormS D tx fm w) := by
  have hU := Up.start (Below.refl w.heap.size w) (Nat.le_refl _) (Nat.le_refl _)
  have HE := Lib.hid HE
  go_enter Tryz.func44, Tryz.ntmps44
  go_wp2_with fail
  go_at_call 61
  refine (textQ_ok (w := w) (Q := (fun k => k = w.heap.size ∨ k = w.heap.size)) (fun k hk => by omega) signsL 8 _ _ rfl (by decide) (by decide) rfl).mono ?_
  rintro e w0t ⟨⟨vt, rfl, hvt⟩, hbt⟩
  have hU := (hU.alloc _).call hbt
  obtain ⟨gt, cpt, hve, _⟩ := id hvt
  subst hve
  go_wp2_with fail
  go_at_call 79
  refine (HE.out _ hU.b).mono ?_
  rintro e w1 ⟨f1, c1, f2, c2, rfl, hs1, ht1, hf1, hb1⟩
  have hs0 := hU.s
  have hU := hU.call hb1
  obtain ⟨_, _, _, _, hsz, r0, r1, x0, x1⟩ := id hU
  have hbz : Below w.heap.size w ((w1.setCell ⟨w.heap.size, 0, none⟩ (.func (.func f1) #[] c1)).setCell ⟨w.heap.size, 1, none⟩ (.func (.func f2) #[] c2)) := (hU.b.setCell (p := ⟨w.heap.size, 0, none⟩) (Nat.le_refl _) _).setCell (p := ⟨w.heap.size, 1, none⟩) (Nat.le_refl _) _
  have HZ : FormS D tx fm w (.returned (.agg #[.func (.func f1) #[] c1, .func (.func f2) #[] c2])) ((w1.setCell ⟨w.heap.size, 0, none⟩ (.func (.func f1) #[] c1)).setCell ⟨w.heap.size, 1, none⟩ (.func (.func f2) #[] c2)) :=
    ⟨_, f1, c1, f2, c2, rfl, fun k hk => ⟨by omega, by simp; omega⟩, (ht1.set (.inr rfl) _).set (.inr rfl) _, (hf1.set (.inr rfl) _).set (.inr rfl) _, hbz⟩
  clear hs1 hs0 ht1 hf1 hbz
  go_wp2
  exact bodyPost_ret (v := .agg #[.func (.func f1) #[] c1, .func (.func f2) #[] c2]) (by simp [results, Tryz.results44, go_sem, r0, r1, x0, x1]) rfl HZ
section
variable (D : Nat) (hRi : RightOk D) (w : World) (hT : Lib.Utf8Tabs 0 1 w)
include hRi hT
theorem forms_all : ∀ x ∈ forms, Calls Tryz.prog 44 #[.int .i64 x.1] w (FormS D x.2.1 x.2.2 w) := by
  simp only [forms, List.forall_mem_cons]
  refine ⟨(fm1 D hRi w w w.heap.size hT (Below.refl _ _) (Nat.le_refl _) (Nat.le_refl _)).mono (fun e w' h => h.toS), (fm2 D hRi w w w.heap.size hT (Below.refl _ _) (Nat.le_refl _) (Nat.le_refl _)).mono (fun e w' h => h.toS), (fm3 D hRi w w w.heap.size hT (Below.refl _ _) (Nat.le_refl _) (Nat.le_refl _)).mono (fun e w' h => h.toS), (fm4 D hRi w w w.heap.size hT (Below.refl _ _) (Nat.le_refl _) (Nat.le_refl _)).mono (fun e w' h => h.toS), (fm5 D hRi w w w.heap.size hT (Below.refl _ _) (Nat.le_refl _) (Nat.le_refl _)).mono (fun e w' h => h.toS), (fm6 D hRi w w w.heap.size hT (Below.refl _ _) (Nat.le_refl _) (Nat.le_refl _)).mono (fun e w' h => h.toS), (fm7 D hRi w w w.heap.size hT (Below.refl _ _) (Nat.le_refl _) (Nat.le_refl _)).mono (fun e w' h => h.toS), (fm8 D hRi w w w.heap.size hT (Below.refl _ _) (Nat.le_refl _) (Nat.le_refl _)).mono (fun e w' h => h.toS), (fm9 D hRi w w w.heap.size hT (Below.refl _ _) (Nat.le_refl _) (Nat.le_refl _)).mono (fun e w' h => h.toS), (fm10 D hRi w w w.heap.size hT (Below.refl _ _) (Nat.le_refl _) (Nat.le_refl _)).mono (fun e w' h => h.toS), (fm11 D hRi w w w.heap.size hT (Below.refl _ _) (Nat.le_refl _) (Nat.le_refl _)).mono (fun e w' h => h.toS), (fm12 D hRi w w w.heap.size hT (Below.refl _ _) (Nat.le_refl _) (Nat.le_refl _)).mono (fun e w' h => h.toS), (fm13 D hRi w w w.heap.size hT (Below.refl _ _) (Nat.le_refl _) (Nat.le_refl _)).mono (fun e w' h => h.toS), (fm14 D hRi w w w.heap.size hT (Below.refl _ _) (Nat.le_refl _) (Nat.le_refl _)).mono (fun e w' h => h.toS), (fm15 D hRi w w w.heap.size hT (Below.refl _ _) (Nat.le_refl _) (Nat.le_refl _)).mono (fun e w' h => h.toS), (fm16 D hRi w w w.heap.size hT (Below.refl _ _) (Nat.le_refl _) (Nat.le_refl _)).mono (fun e w' h => h.toS), (fm17 D hRi w w w.heap.size hT (Below.refl _ _) (Nat.le_refl _) (Nat.le_refl _)).mono (fun e w' h => h.toS), (fm18 D hRi w w w.heap.size hT (Below.refl _ _) (Nat.le_refl _) (Nat.le_refl _)).mono (fun e w' h => h.toS), (fm19 D hRi w w w.heap.size hT (Below.refl _ _) (Nat.le_refl _) (Nat.le_refl _)).mono (fun e w' h => h.toS), (fm20 D hRi w w w.heap.size hT (Below.refl _ _) (Nat.le_refl _) (Nat.le_refl _)).mono (fun e w' h => h.toS), (fm21 D hRi w w w.heap.size hT (Below.refl _ _) (Nat.le_refl _) (Nat.le_refl _)).mono (fun e w' h => h.toS), (fm22 D hRi w w w.heap.size hT (Below.refl _ _) (Nat.le_refl _) (Nat.le_refl _)).mono (fun e w' h => h.toS), (fm23 D hRi w w w.heap.size hT (Below.refl _ _) (Nat.le_refl _) (Nat.le_refl _)).mono (fun e w' h => h.toS), stmt_expr D _ _ 31 w (fun W hW => fm31 D hRi w W w.heap.size hT hW (Nat.le_refl _) hW.size) rfl rfl rfl rfl rfl rfl rfl rfl rfl rfl rfl rfl rfl rfl rfl rfl rfl rfl rfl rfl rfl rfl rfl, stmt_expr D _ _ 32 w (fun W hW => fm32 D hRi w W w.heap.size hT hW (Nat.le_refl _) hW.size) rfl rfl rfl rfl rfl rfl rfl rfl rfl rfl rfl rfl rfl rfl rfl rfl rfl rfl rfl rfl rfl rfl rfl, stmt_expr D _ _ 33 w (fun W hW => fm33 D hRi w W w.heap.size hT hW (Nat.le_refl _) hW.size) rfl rfl rfl rfl rfl rfl rfl rfl rfl rfl rfl rfl rfl rfl rfl rfl rfl rfl rfl rfl rfl rfl rfl, stmt_expr D _ _ 34 w (fun W hW => fm34 D hRi w W w.heap.size hT hW (Nat.le_refl _) hW.size) rfl rfl rfl rfl rfl rfl rfl rfl rfl rfl rfl rfl rfl rfl rfl rfl rfl rfl rfl rfl rfl rfl rfl, stmt_expr D _ _ 35 w (fun W hW => fm35 D hRi w W w.heap.size hT hW (Nat.le_refl _) hW.size) rfl rfl rfl rfl rfl rfl rfl rfl rfl rfl rfl rfl rfl rfl rfl rfl rfl rfl rfl rfl rfl rfl rfl, stmt_expr D _ _ 36 w (fun W hW => fm36 D hRi w W w.heap.size hT hW (Nat.le_refl _) hW.size) rfl rfl rfl rfl rfl rfl rfl rfl rfl rfl rfl rfl rfl rfl rfl rfl rfl rfl rfl rfl rfl rfl rfl, stmt_expr D _ _ 37 w (fun W hW => fm37 D hRi w W w.heap.size hT hW (Nat.le_refl _) hW.size) rfl rfl rfl rfl rfl rfl rfl rfl rfl rfl rfl rfl rfl rfl rfl rfl rfl rfl rfl rfl rfl rfl rfl, stmt_expr D _ _ 38 w (fun W hW => fm38 D hRi w W w.heap.size hT hW (Nat.le_refl _) hW.size) rfl rfl rfl rfl rfl rfl rfl rfl rfl rfl rfl rfl rfl rfl rfl rfl rfl rfl rfl rfl rfl rfl rfl, stmt_expr D _ _ 39 w (fun W hW => fm39 D hRi w W w.heap.size hT hW (Nat.le_refl _) hW.size) rfl rfl rfl rfl rfl rfl rfl rfl rfl rfl rfl rfl rfl rfl rfl rfl rfl rfl rfl rfl rfl rfl rfl, stmt_expr D _ _ 45 w (fun W hW => fm45 D hRi w W w.heap.size hT hW (Nat.le_refl _) hW.size) rfl rfl rfl rfl rfl rfl rfl rfl rfl rfl rfl rfl rfl rfl rfl rfl rfl rfl rfl rfl rfl rfl rfl, stmt_expr D _ _ 46 w (fun W hW => fm46 D hRi w W w.heap.size hT hW (Nat.le_refl _) hW.size) rfl rfl rfl rfl rfl rfl rfl rfl rfl rfl rfl rfl rfl rfl rfl rfl rfl rfl rfl rfl rfl rfl rfl, stmt_expr D _ _ 54 w (fun W hW => fm54 D hRi w W w.heap.size hT hW (Nat.le_refl _) hW.size) rfl rfl rfl rfl rfl rfl rfl rfl rfl rfl rfl rfl rfl rfl rfl rfl rfl rfl rfl rfl rfl rfl rfl, stmt_expr D _ _ 40 w (fun W hW => fm40 D hRi w W w.heap.size hT hW (Nat.le_refl _) hW.size) rfl rfl rfl rfl rfl rfl rfl rfl rfl rfl rfl rfl rfl rfl rfl rfl rfl rfl rfl rfl rfl rfl rfl, stmt_expr D _ _ 47 w (fun W hW => fm47 D hRi w W w.heap.size hT hW (Nat.le_refl _) hW.size) rfl rfl rfl rfl rfl rfl rfl rfl rfl rfl rfl rfl rfl rfl rfl rfl rfl rfl rfl rfl rfl rfl rfl, stmt_expr D _ _ 50 w (fun W hW => fm50 D hRi w W w.heap.size hT hW (Nat.le_refl _) hW.size) rfl rfl rfl rfl rfl rfl rfl rfl rfl rfl rfl rfl rfl rfl rfl rfl rfl rfl rfl rfl rfl rfl rfl, stmt_expr D _ _ 41 w (fun W hW => fm41 D hRi w W w.heap.size hT hW (Nat.le_refl _) hW.size) rfl rfl rfl rfl rfl rfl rfl rfl rfl rfl rfl rfl rfl rfl rfl rfl rfl rfl rfl rfl rfl rfl rfl, stmt_expr D _ _ 42 w (fun W hW => fm42 D hRi w W w.heap.size hT hW (Nat.le_refl _) hW.size) rfl rfl rfl rfl rfl rfl rfl rfl rfl rfl rfl rfl rfl rfl rfl rfl rfl rfl rfl rfl rfl rfl rfl, stmt_expr D _ _ 43 w (fun W hW => fm43 D hRi w W w.heap.size hT hW (Nat.le_refl _) hW.size) rfl rfl rfl rfl rfl rfl rfl rfl rfl rfl rfl rfl rfl rfl rfl rfl rfl rfl rfl rfl rfl rfl rfl, stmt_expr D _ _ 44 w (fun W hW => fm44 D hRi w W w.heap.size hT hW (Nat.le_refl _) hW.size) rfl rfl rfl rfl rfl rfl rfl rfl rfl rfl rfl rfl rfl rfl rfl rfl rfl rfl rfl rfl rfl rfl rfl, stmt_expr D _ _ 48 w (fun W hW => fm48 D hRi w W w.heap.size hT hW (Nat.le_refl _) hW.size) rfl rfl rfl rfl rfl rfl rfl rfl rfl rfl rfl rfl rfl rfl rfl rfl rfl rfl rfl rfl rfl rfl rfl, stmt_expr D _ _ 49 w (fun W hW => fm49 D hRi w W w.heap.size hT hW (Nat.le_refl _) hW.size) rfl rfl rfl rfl rfl rfl rfl rfl rfl rfl rfl rfl rfl rfl rfl rfl rfl rfl rfl rfl rfl rfl rfl, stmt_expr D _ _ 51 w (fun W hW => fm51 D hRi w W w.heap.size hT hW (Nat.le_refl _) hW.size) rfl rfl rfl rfl rfl rfl rfl rfl rfl rfl rfl rfl rfl rfl rfl rfl rfl rfl rfl rfl rfl rfl rfl, stmt_expr D _ _ 52 w (fun W hW => fm52 D hRi w W w.heap.size hT hW (Nat.le_refl _) hW.size) rfl rfl rfl rfl rfl rfl rfl rfl rfl rfl rfl rfl rfl rfl rfl rfl rfl rfl rfl rfl rfl rfl rfl, stmt_expr D _ _ 53 w (fun W hW => fm53 D hRi w W w.heap.size hT hW (Nat.le_refl _) hW.size) rfl rfl rfl rfl rfl rfl rfl rfl rfl rfl rfl rfl rfl rfl rfl rfl rfl rfl rfl rfl rfl rfl rfl, fun x hx => absurd hx (by simp)⟩
end
theorem forms_none (k : Int) (w : World) (h : formOf k = none) : Calls Tryz.prog 44 #[.int .i64 k] w fun e w' => e = .returned (.agg #[.nilFunc, .nilFunc]) ∧ Below w.heap.size w w' := by
  have hz : ∀ x ∈ forms, (k == x.1) = false := by
    intro x hx
    unfold formOf at h
    rw [Option.map_eq_none_iff, List.find?_eq_none] at h
    have := h x hx
    simp only [beq_iff_eq] at this
    exact beq_eq_false_iff_ne.2 (fun e => this e.symm)
  simp only [forms, List.forall_mem_cons] at hz
  obtain ⟨z1, z2, z3, z4, z5, z6, z7, z8, z9, z10, z11, z12, z13, z14, z15, z16, z17, z18, z19, z20, z21, z22, z23, z31, z32, z33, z34, z35, z36, z37, z38, z39, z45, z46, z54, z40, z47, z50, z41, z42, z43, z44, z48, z49, z51, z52, z53, -⟩ := hz
  exact stmt_none k w (fun W => expr_none k W z31 z32 z33 z34 z35 z36 z37 z38 z39 z45 z46 z54 z40 z47 z50 z41 z42 z43 z44 z48 z49 z51 z52 z53) z1 z2 z3 z4 z5 z6 z7 z8 z9 z10 z11 z12 z13 z14 z15 z16 z17 z18 z19 z20 z21 z22 z23
theorem forms_some (D : Nat) (hRi : RightOk D) (k : Int) (tx : Tx) (fm : Fm) (w : World) (hT : Lib.Utf8Tabs 0 1 w) (h : formOf k = some (tx, fm)) : Calls Tryz.prog 44 #[.int .i64 k] w (FormS D tx fm w) := by
  unfold formOf at h
  rw [Option.map_eq_some_iff] at h
  obtain ⟨⟨k', t', f'⟩, hf, he⟩ := h
  have hm := List.mem_of_find?_eq_some hf
  have hk := List.find?_some hf
  simp only [beq_iff_eq] at hk
  simp only [Prod.mk.injEq] at he
  obtain ⟨rfl, rfl⟩ := he
  subst hk
  exact forms_all D hRi w hT _ hm
end
section
set_option linter.unusedVariables false
set_option linter.unusedSimpArgs false
open Go.RowKit
set_option maxRecDepth 1000000
theorem run_eqIn_func (d : Nat) (W : World) (fn : Fn) (a b : Array Value) : (Op.equalIn (d + 1) 69 (.func fn a b) .nilFunc).run Tryz.prog W = .ok false W := by
  have hu := run_underlying Tryz.underlying69
  unfold Op.equalIn
  simp [go_sem, hu]
theorem run_eqIn_nil (d : Nat) (W : World) : (Op.equalIn (d + 1) 69 .nilFunc .nilFunc).run Tryz.prog W = .ok true W := by
  have hu := run_underlying Tryz.underlying69
  unfold Op.equalIn
  simp [go_sem, hu]
theorem run_funcEq (W : World) (fn : Fn) (a b : Array Value) : (binOp .eql 69 (.func fn a b) .nilFunc).run Tryz.prog W = .ok (.bool false) W := by
  have h := run_eqIn_func 9999 W fn a b
  simp [binOp, Op.equal, go_sem, show Op.maxDepth = 9999 + 1 from rfl, h]
theorem run_nilEq (W : World) : (binOp .eql 69 .nilFunc .nilFunc).run Tryz.prog W = .ok (.bool true) W := by
  have h := run_eqIn_nil 9999 W
  simp [binOp, Op.equal, go_sem, show Op.maxDepth = 9999 + 1 from rfl, h]
theorem form_box (w : World) (a b : Value) (t : TypeId) : (w.alloc (.cells #[a, b] t)).cell? ⟨w.heap.size, 0, none⟩ = some a ∧ (w.alloc (.cells #[a, b] t)).cell? ⟨w.heap.size, 1, none⟩ = some b :=
  have h := heap_alloc_new w (.cells #[a, b] t)
  ⟨cell_of_row _ _ 0 _ _ _ h, cell_of_row _ _ 1 _ _ _ h⟩
set_option maxHeartbeats 8000000 in
theorem right_none (T : Nd) (A : Option Addr) (c : Nat) (K : Option Addr) (d : Nat) (w : World) (hN : NodeAt w T A c K d) (hf : formOf T.kind = none) :
    Calls Tryz.prog 27 #[ndV T A c K d] w fun e w' => e = .returned (.bool T.right) ∧ Below w.heap.size w w' := by
  have HR := Lib.hid (show T.right = false by rw [right_eq, hf])
  have HS := Lib.hid (fun W => forms_none T.kind W hf)
  obtain ⟨hm1, hm2, hrm, hw32, hk1, hk2, hk64, ha64, hts, hKs⟩ := hN.parts
  unfold maxLen at hm2 hk2 hts
  obtain ⟨hk64a, hk64b⟩ := hk64
  obtain ⟨ha64a, ha64b⟩ := ha64
  have hb1 := (Below.refl w.heap.size w).alloc (Nat.le_refl _) (.cells #[.int .i64 T.kind, .int .i64 T.pos, .string T.text, .bool T.neg, .slice A T.mag.length c, .slice K T.kids.length d] 27)
  obtain ⟨c0, c1, c2, c3, c4, c5⟩ := (cellsN_new w T A c K d 27).box
  have hEq := run_nilEq
  clear hf hKs hN
  unfold ndV
  go_enter Tryz.func27, Tryz.ntmps27
  go_wp2_with (go_at_call 44; refine (HS.out _).mono ?_; rintro e w3 ⟨rfl, hb3⟩; have p0 := cell_later hb3 c0; have p1 := cell_later hb3 c1; have p2 := cell_later hb3 c2; have p3 := cell_later hb3 c3; have p4 := cell_later hb3 c4; have p5 := cell_later hb3 c5)
  go_ret
  exact ⟨by rw [HR.out]; rfl, (hb1.trans (hb3.mono hb1.size)).alloc (Nat.le_trans hb1.size hb3.size) _⟩
set_option maxHeartbeats 8000000 in
/-- right, over its parts: the text, the number, the kids. -/
theorem right_some (D : Nat) (tx : Tx) (fm : Fm) (T : Nd) (A : Option Addr) (c : Nat) (K : Option Addr) (d : Nat) (w : World) (hD : T.depth ≤ D + 1) (hW : T.weight ≤ 1048576) (hN : NodeAt w T A c K d) (HS : ∀ W, Below w.heap.size w W → Calls Tryz.prog 44 #[.int .i64 T.kind] W (FormS D tx fm W)) (t n k : Bool) (ht : tx.ev T.text = t) (hn : (if T.kind = 32 then numB T else noNumB T) = n) (hk : fm.ev Nd.right T = k) :
    Calls Tryz.prog 27 #[ndV T A c K d] w fun e w' => e = .returned (.bool (t && n && k)) ∧ Below w.heap.size w w' := by
  have htx : T.text.size ≤ 1048576 := by have := T.weight_eq; omega
  have HS := Lib.hid HS
  have HTx := Lib.hid ht
  have HKx := Lib.hid hk
  have HN := Lib.hid hN
  have HD := Lib.hid hD
  have HW := Lib.hid hW
  have HL := Lib.hid htx
  have HNo := Lib.hid (fun W (hb : Below w.heap.size w W) => by
    have := tNoNum_ok T A c K d W (hN.later hb)
    unfold ndV at this
    exact this)
  have HNu := Lib.hid (fun W (hb : Below w.heap.size w W) => tNumber_ok T.neg A c T.mag W (hN.parts.2.2.1.later hb) hN.parts.1 hN.parts.2.1)
  obtain ⟨hm1, hm2, hrm, hw32, hk1, hk2, hk64, ha64, hts, hKs⟩ := hN.parts
  unfold maxLen at hm2 hk2 hts
  obtain ⟨hk64a, hk64b⟩ := hk64
  obtain ⟨ha64a, ha64b⟩ := ha64
  have hb1 := (Below.refl w.heap.size w).alloc (Nat.le_refl _) (.cells #[.int .i64 T.kind, .int .i64 T.pos, .string T.text, .bool T.neg, .slice A T.mag.length c, .slice K T.kids.length d] 27)
  obtain ⟨c0, c1, c2, c3, c4, c5⟩ := (cellsN_new w T A c K d 27).box
  have hEq := run_funcEq
  have HB1 := Lib.hid hb1
  clear hKs hN hD hW ht hk htx
  unfold ndV
  have hsz1 : w.heap.size < (w.alloc (.cells #[.int .i64 T.kind, .int .i64 T.pos, .string T.text, .bool T.neg, .slice A T.mag.length c, .slice K T.kids.length d] 27)).heap.size := by simp
  cases t
  · go_enter Tryz.func27, Tryz.ntmps27
    go_wp2_with (first | (go_at_call 44; refine (HS.out _ hb1).mono ?_; rintro e w3 ⟨Q, f1, x1, f2, x2, rfl, hq, htq, hsq, hb3⟩; have p0 := cell_later hb3 c0; have p1 := cell_later hb3 c1; have p2 := cell_later hb3 c2; have p3 := cell_later hb3 c3; have p4 := cell_later hb3 c4; have p5 := cell_later hb3 c5; have hl3 := World.block_lt_of_cell? _ _ p0; have hb4 := (Below.refl w3.heap.size w3).alloc (Nat.le_refl _) (.cells #[.func (.func f1) #[] x1, .func (.func f2) #[] x2] 71); have htq4 := htq.later hb4; have hsq4 := hsq.later hb4; obtain ⟨F0, F1⟩ := form_box w3 (.func (.func f1) #[] x1) (.func (.func f2) #[] x2) 71; have q0 := cell_later hb4 p0; have q1 := cell_later hb4 p1; have q2 := cell_later hb4 p2; have q3 := cell_later hb4 p3; have q4 := cell_later hb4 p4; have q5 := cell_later hb4 p5; have hw3 := hb1.trans (hb3.mono hb1.size); have hw4 := hw3.trans (hb4.mono hw3.size); obtain ⟨f1', x1', e1, hr1, ht1⟩ := htq4; injection e1 with e1 e2 e3; injection e1 with e1; subst e1 e3; have HT1 := ht1 _ (KeepsQ.below (Below.refl _ _)) T.text HL.out; rw [HTx.out] at HT1; have HT1 := Lib.hid HT1; obtain ⟨f2', x2', e1, hr2, hs2⟩ := hsq4; injection e1 with e1 e2 e3; injection e1 with e1; subst e1 e3; have HS2 := Lib.hid hs2; clear ht1 hs2 htq hsq) | (with_reducible refine HT1.out.mono ?_; rintro e w5 ⟨rfl, hb5⟩; have G0 := cell_later hb5 F0; have G1 := cell_later hb5 F1; have hgl := World.block_lt_of_cell? _ _ G0; have r0 := cell_later hb5 q0; have r1 := cell_later hb5 q1; have r2 := cell_later hb5 q2; have r3 := cell_later hb5 q3; have r4 := cell_later hb5 q4; have r5 := cell_later hb5 q5; have hl5 := World.block_lt_of_cell? _ _ r0; have hw5 := hw4.trans (hb5.mono hw4.size)))
    go_ret
    exact ⟨rfl, hw5⟩
  · by_cases h32 : T.kind = 32
    · have e1 : (T.kind == 32) = true := by simpa using h32
      rw [if_pos h32] at hn
      have HNB := Lib.hid (show numL T.neg T.mag = n from hn)
      clear h32 hn
      cases n
      · go_enter Tryz.func27, Tryz.ntmps27
        go_wp2_with (first | (go_at_call 44; refine (HS.out _ hb1).mono ?_; rintro e w3 ⟨Q, f1, x1, f2, x2, rfl, hq, htq, hsq, hb3⟩; have p0 := cell_later hb3 c0; have p1 := cell_later hb3 c1; have p2 := cell_later hb3 c2; have p3 := cell_later hb3 c3; have p4 := cell_later hb3 c4; have p5 := cell_later hb3 c5; have hl3 := World.block_lt_of_cell? _ _ p0; have hb4 := (Below.refl w3.heap.size w3).alloc (Nat.le_refl _) (.cells #[.func (.func f1) #[] x1, .func (.func f2) #[] x2] 71); have htq4 := htq.later hb4; have hsq4 := hsq.later hb4; obtain ⟨F0, F1⟩ := form_box w3 (.func (.func f1) #[] x1) (.func (.func f2) #[] x2) 71; have q0 := cell_later hb4 p0; have q1 := cell_later hb4 p1; have q2 := cell_later hb4 p2; have q3 := cell_later hb4 p3; have q4 := cell_later hb4 p4; have q5 := cell_later hb4 p5; have hw3 := hb1.trans (hb3.mono hb1.size); have hw4 := hw3.trans (hb4.mono hw3.size); obtain ⟨f1', x1', e1, hr1, ht1⟩ := htq4; injection e1 with e1 e2 e3; injection e1 with e1; subst e1 e3; have HT1 := ht1 _ (KeepsQ.below (Below.refl _ _)) T.text HL.out; rw [HTx.out] at HT1; have HT1 := Lib.hid HT1; obtain ⟨f2', x2', e1, hr2, hs2⟩ := hsq4; injection e1 with e1 e2 e3; injection e1 with e1; subst e1 e3; have HS2 := Lib.hid hs2; clear ht1 hs2 htq hsq) | (with_reducible refine HT1.out.mono ?_; rintro e w5 ⟨rfl, hb5⟩; have G0 := cell_later hb5 F0; have G1 := cell_later hb5 F1; have hgl := World.block_lt_of_cell? _ _ G0; have r0 := cell_later hb5 q0; have r1 := cell_later hb5 q1; have r2 := cell_later hb5 q2; have r3 := cell_later hb5 q3; have r4 := cell_later hb5 q4; have r5 := cell_later hb5 q5; have hl5 := World.block_lt_of_cell? _ _ r0; have hw5 := hw4.trans (hb5.mono hw4.size)) | (go_at_call 45; refine (HNu.out _ hw5).mono ?_; rintro e w6 ⟨he6, hb6⟩; rw [HNB.out] at he6; subst he6; have J1 := cell_later hb6 G1; have hjl := World.block_lt_of_cell? _ _ J1; have s0 := cell_later hb6 r0; have s1 := cell_later hb6 r1; have s2 := cell_later hb6 r2; have s3 := cell_later hb6 r3; have s4 := cell_later hb6 r4; have s5 := cell_later hb6 r5; have hl6 := World.block_lt_of_cell? _ _ s0; have hw6 := hw5.trans (hb6.mono hw5.size); have hI := HS2.out w6 (KeepsQ.below (hb5.trans (hb6.mono hb5.size))) T A c K d HD.out HW.out (HN.out.later hw6); rw [HKx.out] at hI; unfold ndV at hI; have HI := Lib.hid hI; clear hI))
        go_ret
        exact ⟨rfl, hw6⟩
      · cases k
        · go_enter Tryz.func27, Tryz.ntmps27
          go_wp2_with (first | (go_at_call 44; refine (HS.out _ hb1).mono ?_; rintro e w3 ⟨Q, f1, x1, f2, x2, rfl, hq, htq, hsq, hb3⟩; have p0 := cell_later hb3 c0; have p1 := cell_later hb3 c1; have p2 := cell_later hb3 c2; have p3 := cell_later hb3 c3; have p4 := cell_later hb3 c4; have p5 := cell_later hb3 c5; have hl3 := World.block_lt_of_cell? _ _ p0; have hb4 := (Below.refl w3.heap.size w3).alloc (Nat.le_refl _) (.cells #[.func (.func f1) #[] x1, .func (.func f2) #[] x2] 71); have htq4 := htq.later hb4; have hsq4 := hsq.later hb4; obtain ⟨F0, F1⟩ := form_box w3 (.func (.func f1) #[] x1) (.func (.func f2) #[] x2) 71; have q0 := cell_later hb4 p0; have q1 := cell_later hb4 p1; have q2 := cell_later hb4 p2; have q3 := cell_later hb4 p3; have q4 := cell_later hb4 p4; have q5 := cell_later hb4 p5; have hw3 := hb1.trans (hb3.mono hb1.size); have hw4 := hw3.trans (hb4.mono hw3.size); obtain ⟨f1', x1', e1, hr1, ht1⟩ := htq4; injection e1 with e1 e2 e3; injection e1 with e1; subst e1 e3; have HT1 := ht1 _ (KeepsQ.below (Below.refl _ _)) T.text HL.out; rw [HTx.out] at HT1; have HT1 := Lib.hid HT1; obtain ⟨f2', x2', e1, hr2, hs2⟩ := hsq4; injection e1 with e1 e2 e3; injection e1 with e1; subst e1 e3; have HS2 := Lib.hid hs2; clear ht1 hs2 htq hsq) | (with_reducible refine HT1.out.mono ?_; rintro e w5 ⟨rfl, hb5⟩; have G0 := cell_later hb5 F0; have G1 := cell_later hb5 F1; have hgl := World.block_lt_of_cell? _ _ G0; have r0 := cell_later hb5 q0; have r1 := cell_later hb5 q1; have r2 := cell_later hb5 q2; have r3 := cell_later hb5 q3; have r4 := cell_later hb5 q4; have r5 := cell_later hb5 q5; have hl5 := World.block_lt_of_cell? _ _ r0; have hw5 := hw4.trans (hb5.mono hw4.size)) | (go_at_call 45; refine (HNu.out _ hw5).mono ?_; rintro e w6 ⟨he6, hb6⟩; rw [HNB.out] at he6; subst he6; have J1 := cell_later hb6 G1; have hjl := World.block_lt_of_cell? _ _ J1; have s0 := cell_later hb6 r0; have s1 := cell_later hb6 r1; have s2 := cell_later hb6 r2; have s3 := cell_later hb6 r3; have s4 := cell_later hb6 r4; have s5 := cell_later hb6 r5; have hl6 := World.block_lt_of_cell? _ _ s0; have hw6 := hw5.trans (hb6.mono hw5.size); have hI := HS2.out w6 (KeepsQ.below (hb5.trans (hb6.mono hb5.size))) T A c K d HD.out HW.out (HN.out.later hw6); rw [HKx.out] at hI; unfold ndV at hI; have HI := Lib.hid hI; clear hI) | (with_reducible refine HI.out.mono ?_; rintro e w7 ⟨rfl, hb7⟩))
          go_ret
          exact ⟨rfl, hw6.trans (hb7.mono hw6.size)⟩
        · go_enter Tryz.func27, Tryz.ntmps27
          go_wp2_with (first | (go_at_call 44; refine (HS.out _ hb1).mono ?_; rintro e w3 ⟨Q, f1, x1, f2, x2, rfl, hq, htq, hsq, hb3⟩; have p0 := cell_later hb3 c0; have p1 := cell_later hb3 c1; have p2 := cell_later hb3 c2; have p3 := cell_later hb3 c3; have p4 := cell_later hb3 c4; have p5 := cell_later hb3 c5; have hl3 := World.block_lt_of_cell? _ _ p0; have hb4 := (Below.refl w3.heap.size w3).alloc (Nat.le_refl _) (.cells #[.func (.func f1) #[] x1, .func (.func f2) #[] x2] 71); have htq4 := htq.later hb4; have hsq4 := hsq.later hb4; obtain ⟨F0, F1⟩ := form_box w3 (.func (.func f1) #[] x1) (.func (.func f2) #[] x2) 71; have q0 := cell_later hb4 p0; have q1 := cell_later hb4 p1; have q2 := cell_later hb4 p2; have q3 := cell_later hb4 p3; have q4 := cell_later hb4 p4; have q5 := cell_later hb4 p5; have hw3 := hb1.trans (hb3.mono hb1.size); have hw4 := hw3.trans (hb4.mono hw3.size); obtain ⟨f1', x1', e1, hr1, ht1⟩ := htq4; injection e1 with e1 e2 e3; injection e1 with e1; subst e1 e3; have HT1 := ht1 _ (KeepsQ.below (Below.refl _ _)) T.text HL.out; rw [HTx.out] at HT1; have HT1 := Lib.hid HT1; obtain ⟨f2', x2', e1, hr2, hs2⟩ := hsq4; injection e1 with e1 e2 e3; injection e1 with e1; subst e1 e3; have HS2 := Lib.hid hs2; clear ht1 hs2 htq hsq) | (with_reducible refine HT1.out.mono ?_; rintro e w5 ⟨rfl, hb5⟩; have G0 := cell_later hb5 F0; have G1 := cell_later hb5 F1; have hgl := World.block_lt_of_cell? _ _ G0; have r0 := cell_later hb5 q0; have r1 := cell_later hb5 q1; have r2 := cell_later hb5 q2; have r3 := cell_later hb5 q3; have r4 := cell_later hb5 q4; have r5 := cell_later hb5 q5; have hl5 := World.block_lt_of_cell? _ _ r0; have hw5 := hw4.trans (hb5.mono hw4.size)) | (go_at_call 45; refine (HNu.out _ hw5).mono ?_; rintro e w6 ⟨he6, hb6⟩; rw [HNB.out] at he6; subst he6; have J1 := cell_later hb6 G1; have hjl := World.block_lt_of_cell? _ _ J1; have s0 := cell_later hb6 r0; have s1 := cell_later hb6 r1; have s2 := cell_later hb6 r2; have s3 := cell_later hb6 r3; have s4 := cell_later hb6 r4; have s5 := cell_later hb6 r5; have hl6 := World.block_lt_of_cell? _ _ s0; have hw6 := hw5.trans (hb6.mono hw5.size); have hI := HS2.out w6 (KeepsQ.below (hb5.trans (hb6.mono hb5.size))) T A c K d HD.out HW.out (HN.out.later hw6); rw [HKx.out] at hI; unfold ndV at hI; have HI := Lib.hid hI; clear hI) | (with_reducible refine HI.out.mono ?_; rintro e w7 ⟨rfl, hb7⟩))
          go_ret
          exact ⟨rfl, hw6.trans (hb7.mono hw6.size)⟩
    · have e1 : (T.kind == 32) = false := by simpa using h32
      rw [if_neg h32] at hn
      have HNB := Lib.hid (show _ = n from hn)
      clear h32 hn
      cases n
      · go_enter Tryz.func27, Tryz.ntmps27
        go_wp2_with (first | (go_at_call 44; refine (HS.out _ hb1).mono ?_; rintro e w3 ⟨Q, f1, x1, f2, x2, rfl, hq, htq, hsq, hb3⟩; have p0 := cell_later hb3 c0; have p1 := cell_later hb3 c1; have p2 := cell_later hb3 c2; have p3 := cell_later hb3 c3; have p4 := cell_later hb3 c4; have p5 := cell_later hb3 c5; have hl3 := World.block_lt_of_cell? _ _ p0; have hb4 := (Below.refl w3.heap.size w3).alloc (Nat.le_refl _) (.cells #[.func (.func f1) #[] x1, .func (.func f2) #[] x2] 71); have htq4 := htq.later hb4; have hsq4 := hsq.later hb4; obtain ⟨F0, F1⟩ := form_box w3 (.func (.func f1) #[] x1) (.func (.func f2) #[] x2) 71; have q0 := cell_later hb4 p0; have q1 := cell_later hb4 p1; have q2 := cell_later hb4 p2; have q3 := cell_later hb4 p3; have q4 := cell_later hb4 p4; have q5 := cell_later hb4 p5; have hw3 := hb1.trans (hb3.mono hb1.size); have hw4 := hw3.trans (hb4.mono hw3.size); obtain ⟨f1', x1', e1, hr1, ht1⟩ := htq4; injection e1 with e1 e2 e3; injection e1 with e1; subst e1 e3; have HT1 := ht1 _ (KeepsQ.below (Below.refl _ _)) T.text HL.out; rw [HTx.out] at HT1; have HT1 := Lib.hid HT1; obtain ⟨f2', x2', e1, hr2, hs2⟩ := hsq4; injection e1 with e1 e2 e3; injection e1 with e1; subst e1 e3; have HS2 := Lib.hid hs2; clear ht1 hs2 htq hsq) | (with_reducible refine HT1.out.mono ?_; rintro e w5 ⟨rfl, hb5⟩; have G0 := cell_later hb5 F0; have G1 := cell_later hb5 F1; have hgl := World.block_lt_of_cell? _ _ G0; have r0 := cell_later hb5 q0; have r1 := cell_later hb5 q1; have r2 := cell_later hb5 q2; have r3 := cell_later hb5 q3; have r4 := cell_later hb5 q4; have r5 := cell_later hb5 q5; have hl5 := World.block_lt_of_cell? _ _ r0; have hw5 := hw4.trans (hb5.mono hw4.size)) | (go_at_call 46; refine (HNo.out _ hw5).mono ?_; rintro e w6 ⟨he6, hb6⟩; rw [HNB.out] at he6; subst he6; have J1 := cell_later hb6 G1; have hjl := World.block_lt_of_cell? _ _ J1; have s0 := cell_later hb6 r0; have s1 := cell_later hb6 r1; have s2 := cell_later hb6 r2; have s3 := cell_later hb6 r3; have s4 := cell_later hb6 r4; have s5 := cell_later hb6 r5; have hl6 := World.block_lt_of_cell? _ _ s0; have hw6 := hw5.trans (hb6.mono hw5.size); have hI := HS2.out w6 (KeepsQ.below (hb5.trans (hb6.mono hb5.size))) T A c K d HD.out HW.out (HN.out.later hw6); rw [HKx.out] at hI; unfold ndV at hI; have HI := Lib.hid hI; clear hI))
        go_ret
        exact ⟨rfl, hw6⟩
      · cases k
        · go_enter Tryz.func27, Tryz.ntmps27
          go_wp2_with (first | (go_at_call 44; refine (HS.out _ hb1).mono ?_; rintro e w3 ⟨Q, f1, x1, f2, x2, rfl, hq, htq, hsq, hb3⟩; have p0 := cell_later hb3 c0; have p1 := cell_later hb3 c1; have p2 := cell_later hb3 c2; have p3 := cell_later hb3 c3; have p4 := cell_later hb3 c4; have p5 := cell_later hb3 c5; have hl3 := World.block_lt_of_cell? _ _ p0; have hb4 := (Below.refl w3.heap.size w3).alloc (Nat.le_refl _) (.cells #[.func (.func f1) #[] x1, .func (.func f2) #[] x2] 71); have htq4 := htq.later hb4; have hsq4 := hsq.later hb4; obtain ⟨F0, F1⟩ := form_box w3 (.func (.func f1) #[] x1) (.func (.func f2) #[] x2) 71; have q0 := cell_later hb4 p0; have q1 := cell_later hb4 p1; have q2 := cell_later hb4 p2; have q3 := cell_later hb4 p3; have q4 := cell_later hb4 p4; have q5 := cell_later hb4 p5; have hw3 := hb1.trans (hb3.mono hb1.size); have hw4 := hw3.trans (hb4.mono hw3.size); obtain ⟨f1', x1', e1, hr1, ht1⟩ := htq4; injection e1 with e1 e2 e3; injection e1 with e1; subst e1 e3; have HT1 := ht1 _ (KeepsQ.below (Below.refl _ _)) T.text HL.out; rw [HTx.out] at HT1; have HT1 := Lib.hid HT1; obtain ⟨f2', x2', e1, hr2, hs2⟩ := hsq4; injection e1 with e1 e2 e3; injection e1 with e1; subst e1 e3; have HS2 := Lib.hid hs2; clear ht1 hs2 htq hsq) | (with_reducible refine HT1.out.mono ?_; rintro e w5 ⟨rfl, hb5⟩; have G0 := cell_later hb5 F0; have G1 := cell_later hb5 F1; have hgl := World.block_lt_of_cell? _ _ G0; have r0 := cell_later hb5 q0; have r1 := cell_later hb5 q1; have r2 := cell_later hb5 q2; have r3 := cell_later hb5 q3; have r4 := cell_later hb5 q4; have r5 := cell_later hb5 q5; have hl5 := World.block_lt_of_cell? _ _ r0; have hw5 := hw4.trans (hb5.mono hw4.size)) | (go_at_call 46; refine (HNo.out _ hw5).mono ?_; rintro e w6 ⟨he6, hb6⟩; rw [HNB.out] at he6; subst he6; have J1 := cell_later hb6 G1; have hjl := World.block_lt_of_cell? _ _ J1; have s0 := cell_later hb6 r0; have s1 := cell_later hb6 r1; have s2 := cell_later hb6 r2; have s3 := cell_later hb6 r3; have s4 := cell_later hb6 r4; have s5 := cell_later hb6 r5; have hl6 := World.block_lt_of_cell? _ _ s0; have hw6 := hw5.trans (hb6.mono hw5.size); have hI := HS2.out w6 (KeepsQ.below (hb5.trans (hb6.mono hb5.size))) T A c K d HD.out HW.out (HN.out.later hw6); rw [HKx.out] at hI; unfold ndV at hI; have HI := Lib.hid hI; clear hI) | (with_reducible refine HI.out.mono ?_; rintro e w7 ⟨rfl, hb7⟩))
          go_ret
          exact ⟨rfl, hw6.trans (hb7.mono hw6.size)⟩
        · go_enter Tryz.func27, Tryz.ntmps27
          go_wp2_with (first | (go_at_call 44; refine (HS.out _ hb1).mono ?_; rintro e w3 ⟨Q, f1, x1, f2, x2, rfl, hq, htq, hsq, hb3⟩; have p0 := cell_later hb3 c0; have p1 := cell_later hb3 c1; have p2 := cell_later hb3 c2; have p3 := cell_later hb3 c3; have p4 := cell_later hb3 c4; have p5 := cell_later hb3 c5; have hl3 := World.block_lt_of_cell? _ _ p0; have hb4 := (Below.refl w3.heap.size w3).alloc (Nat.le_refl _) (.cells #[.func (.func f1) #[] x1, .func (.func f2) #[] x2] 71); have htq4 := htq.later hb4; have hsq4 := hsq.later hb4; obtain ⟨F0, F1⟩ := form_box w3 (.func (.func f1) #[] x1) (.func (.func f2) #[] x2) 71; have q0 := cell_later hb4 p0; have q1 := cell_later hb4 p1; have q2 := cell_later hb4 p2; have q3 := cell_later hb4 p3; have q4 := cell_later hb4 p4; have q5 := cell_later hb4 p5; have hw3 := hb1.trans (hb3.mono hb1.size); have hw4 := hw3.trans (hb4.mono hw3.size); obtain ⟨f1', x1', e1, hr1, ht1⟩ := htq4; injection e1 with e1 e2 e3; injection e1 with e1; subst e1 e3; have HT1 := ht1 _ (KeepsQ.below (Below.refl _ _)) T.text HL.out; rw [HTx.out] at HT1; have HT1 := Lib.hid HT1; obtain ⟨f2', x2', e1, hr2, hs2⟩ := hsq4; injection e1 with e1 e2 e3; injection e1 with e1; subst e1 e3; have HS2 := Lib.hid hs2; clear ht1 hs2 htq hsq) | (with_reducible refine HT1.out.mono ?_; rintro e w5 ⟨rfl, hb5⟩; have G0 := cell_later hb5 F0; have G1 := cell_later hb5 F1; have hgl := World.block_lt_of_cell? _ _ G0; have r0 := cell_later hb5 q0; have r1 := cell_later hb5 q1; have r2 := cell_later hb5 q2; have r3 := cell_later hb5 q3; have r4 := cell_later hb5 q4; have r5 := cell_later hb5 q5; have hl5 := World.block_lt_of_cell? _ _ r0; have hw5 := hw4.trans (hb5.mono hw4.size)) | (go_at_call 46; refine (HNo.out _ hw5).mono ?_; rintro e w6 ⟨he6, hb6⟩; rw [HNB.out] at he6; subst he6; have J1 := cell_later hb6 G1; have hjl := World.block_lt_of_cell? _ _ J1; have s0 := cell_later hb6 r0; have s1 := cell_later hb6 r1; have s2 := cell_later hb6 r2; have s3 := cell_later hb6 r3; have s4 := cell_later hb6 r4; have s5 := cell_later hb6 r5; have hl6 := World.block_lt_of_cell? _ _ s0; have hw6 := hw5.trans (hb6.mono hw5.size); have hI := HS2.out w6 (KeepsQ.below (hb5.trans (hb6.mono hb5.size))) T A c K d HD.out HW.out (HN.out.later hw6); rw [HKx.out] at hI; unfold ndV at hI; have HI := Lib.hid hI; clear hI) | (with_reducible refine HI.out.mono ?_; rintro e w7 ⟨rfl, hb7⟩))
          go_ret
          exact ⟨rfl, hw6.trans (hb7.mono hw6.size)⟩
theorem right_ok : ∀ D, RightOk D := by
  intro D
  induction D with
  | zero => intro T A c K d W hD; rw [T.depth_eq] at hD; omega
  | succ D ih =>
    intro T A c K d W hD hW hN hT
    cases hf : formOf T.kind with
    | none => exact right_none T A c K d W hN hf
    | some x =>
      obtain ⟨tx, fm⟩ := x
      have := right_some D tx fm T A c K d W hD hW hN (fun W' hb => forms_some D ih T.kind tx fm W' (Utf8Tabs_below hT hb) hf) _ _ _ rfl rfl rfl
      rw [right_eq, hf]
      exact this
end
end Go.Proofs.YtjefhdlncikhmaaGreatDoor
