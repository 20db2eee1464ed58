/- Joined by a program: Frm0, FrmS1, FrmS2, FrmS3, FrmS4, FrmE1, FrmE2. -/
import Derived.WalkKit
import Derived.Laws.EntriesVeiled
import Derived.Test.YtjefhdlncikhmaaGreatDoorShelf
import Derived.Test.YtjefhdlncikhmaaGreatDoorPB09
namespace Go.Proofs.YtjefhdlncikhmaaGreatDoor
section
set_option linter.unusedVariables false
set_option linter.unusedSimpArgs false
open Go.RowKit
set_option maxRecDepth 1000000
/-- behind the making of the result's box: it stands as it was made. -/
structure Up (w0 : World) (P : Nat) (w W : World) : Prop where
  b0 : Below w0.heap.size w0 w
  p0 : w0.heap.size ≤ P
  p1 : P ≤ w.heap.size
  b : Below w.heap.size w W
  s : w.heap.size + 1 ≤ W.heap.size
  c0 : W.cell? ⟨w.heap.size, 0, none⟩ = some .nilFunc
  c1 : W.cell? ⟨w.heap.size, 1, none⟩ = some .nilFunc
  f0 : W.frozen? ⟨w.heap.size, 0, none⟩ = false
  f1 : W.frozen? ⟨w.heap.size, 1, none⟩ = false
section
variable {w0 w W W' : World} {P : Nat}
theorem Up.call (h : Up w0 P w W) (hb : Below W.heap.size W W') : Up w0 P w W' :=
  have hl : w.heap.size < W.heap.size := h.s
  ⟨h.b0, h.p0, h.p1, h.b.trans (hb.mono h.b.size), Nat.le_trans h.s hb.size, cell_later hb h.c0, cell_later hb h.c1, (hb.frozen (p := ⟨w.heap.size, 0, none⟩) hl).trans h.f0, (hb.frozen (p := ⟨w.heap.size, 1, none⟩) hl).trans h.f1⟩
theorem Up.alloc (h : Up w0 P w W) (o : Obj) : Up w0 P w (W.alloc o) := h.call ((Below.refl _ _).alloc (Nat.le_refl _) o)
theorem Up.start (h0 : Below w0.heap.size w0 w) (hp0 : w0.heap.size ≤ P) (hp1 : P ≤ w.heap.size) : Up w0 P w (w.alloc (.cells #[.nilFunc, .nilFunc] 71)) :=
  have h := heap_alloc_new w (.cells #[.nilFunc, .nilFunc] 71)
  ⟨h0, hp0, hp1, (Below.refl _ _).alloc (Nat.le_refl _) _, by simp, cell_of_row _ _ 0 _ _ _ h, cell_of_row _ _ 1 _ _ _ h, Lib.frozen_of_heap h 0, Lib.frozen_of_heap h 1⟩
theorem Up.q (h : Up w0 P w W) : ∀ k, (k = w.heap.size ∨ k = P) → k < W.heap.size := fun k hk => by have := h.s; have := h.p1; omega
theorem Up.tabs (h : Up w0 P w W) (hT : Lib.Utf8Tabs 0 1 w0) : TabsQ (fun k => k = w.heap.size ∨ k = P) W := tabsQ_of hT (h.b0.trans (h.b.mono h.b0.size)) (fun k hk => by have := h.p0; have := h.b0.size; omega)
theorem Up.lt (h : Up w0 P w W) : w.heap.size < W.heap.size := h.s
end
/-- the form of a kind, as expressions hands it back. -/
def FormR (D : Nat) (tx : Tx) (fm : Fm) (P : Nat) (w : World) (e : Ending) (w' : World) : Prop :=
  ∃ (f1 : FuncId) (c1 : Array Value) (f2 : FuncId) (c2 : Array Value), e = .returned (.agg #[.func (.func f1) #[] c1, .func (.func f2) #[] c2]) ∧ w.heap.size < w'.heap.size ∧ TextOkQ (fun k => k = w.heap.size ∨ k = P) w' (.func (.func f1) #[] c1) tx.ev ∧ ShapeOkQ (fun k => k = w.heap.size ∨ k = P) (D + 1) w' (.func (.func f2) #[] c2) (fm.ev Nd.right) ∧ Below w.heap.size w w'
/-- the form of a kind. -/
def FormS (D : Nat) (tx : Tx) (fm : Fm) (w : World) (e : Ending) (w' : World) : Prop :=
  ∃ (Q : Nat → Prop) (f1 : FuncId) (c1 : Array Value) (f2 : FuncId) (c2 : Array Value), e = .returned (.agg #[.func (.func f1) #[] c1, .func (.func f2) #[] c2]) ∧ (∀ k, Q k → w.heap.size ≤ k ∧ k < w'.heap.size) ∧ TextOkQ Q w' (.func (.func f1) #[] c1) tx.ev ∧ ShapeOkQ Q (D + 1) w' (.func (.func f2) #[] c2) (fm.ev Nd.right) ∧ Below w.heap.size w w'
theorem FormR.put {D : Nat} {tx : Tx} {fm : Fm} {w0 w W : World} {P : Nat} {f1 f2 : FuncId} {c1 c2 : Array Value} (hU : Up w0 P w W) (h1 : TextOkQ (fun k => k = w.heap.size ∨ k = P) W (.func (.func f1) #[] c1) tx.ev) (h2 : ShapeOkQ (fun k => k = w.heap.size ∨ k = P) (D + 1) W (.func (.func f2) #[] c2) (fm.ev Nd.right)) :
    FormR D tx fm P w (.returned (.agg #[.func (.func f1) #[] c1, .func (.func f2) #[] c2])) ((W.setCell ⟨w.heap.size, 0, none⟩ (.func (.func f1) #[] c1)).setCell ⟨w.heap.size, 1, none⟩ (.func (.func f2) #[] c2)) :=
  ⟨f1, c1, f2, c2, rfl, by have := hU.s; simp; omega, (h1.set (.inl rfl) _).set (.inl rfl) _, (h2.set (.inl rfl) _).set (.inl rfl) _, (hU.b.setCell (p := ⟨w.heap.size, 0, none⟩) (Nat.le_refl _) _).setCell (p := ⟨w.heap.size, 1, none⟩) (Nat.le_refl _) _⟩
theorem FormR.toS {D : Nat} {tx : Tx} {fm : Fm} {w : World} {e : Ending} {w' : World} (h : FormR D tx fm w.heap.size w e w') : FormS D tx fm w e w' := by
  obtain ⟨f1, c1, f2, c2, he, hs, h1, h2, hb⟩ := h
  exact ⟨_, f1, c1, f2, c2, he, fun k hk => by omega, h1, h2, hb⟩
end
section
set_option linter.unusedVariables false
set_option linter.unusedSimpArgs false
open Go.RowKit
set_option maxRecDepth 1000000
set_option maxHeartbeats 4000000 in
theorem fm1 (D : Nat) (hRi : RightOk D) (w0 w : World) (P : Nat) (hT : Lib.Utf8Tabs 0 1 w0) (h0 : Below w0.heap.size w0 w) (hp0 : w0.heap.size ≤ P) (hp1 : P ≤ w.heap.size) :
    Calls Tryz.prog 44 #[.int .i64 1] w (FormR D .non (.row [(.of 2)]) P w) := by
  have hU := Up.start h0 hp0 hp1
  go_enter Tryz.func44, Tryz.ntmps44
  go_wp2_with fail
  go_at_call 61
  refine (textQ_ok (w := w) (Q := (fun k => k = w.heap.size ∨ k = P)) (fun k hk => by have := hU.p1; omega) signsL 8 _ _ rfl (by decide) (by decide) rfl).mono ?_
  rintro e w0t ⟨⟨vt, rfl, hvt⟩, hbt⟩
  have hU := (hU.alloc _).call hbt
  obtain ⟨gt, cpt, hve, _⟩ := id hvt
  subst hve
  go_wp2_with fail
  go_at_call 64
  refine (ofQ_ok (D := D) hRi hU.q (hU.tabs hT) 2).mono ?_
  rintro e w1 ⟨⟨v1, rfl, hv1⟩, hb1⟩
  have hvt := hvt.later hb1
  have hU := hU.call hb1
  obtain ⟨g1, cp1, hve, _⟩ := id hv1
  subst hve
  go_wp2_with fail
  have hS := shapesQ_one hU.q hv1 69
  try rw [show (w.alloc (.cells #[.nilFunc, .nilFunc] 71)).heap.size = w.heap.size + 1 by simp] at hS
  have hvt := hvt.later ((Below.refl _ _).alloc (Nat.le_refl _) (.cells #[.func (.func g1) #[] cp1] 69))
  have hv1 := hv1.later ((Below.refl _ _).alloc (Nat.le_refl _) (.cells #[.func (.func g1) #[] cp1] 69))
  have hU := hU.alloc (.cells #[.func (.func g1) #[] cp1] 69)
  go_at_call 63
  refine (kidsQ_ok (D := D) hU.q [Sh.ev Nd.right (.of 2)] 1 _ rfl hS (by unfold maxLen; omega)).mono ?_
  rintro e w2 ⟨⟨v2, rfl, hv2⟩, hb2⟩
  have hvt := hvt.later hb2
  have hv1 := hv1.later hb2
  have hU := hU.call hb2
  obtain ⟨g2, cp2, hve, _⟩ := id hv2
  subst hve
  obtain ⟨_, _, _, _, hsz, r0, r1, z0, z1⟩ := id hU
  go_wp2
  exact bodyPost_ret (v := .agg #[.func (.func 62) #[] #[], .func (.func g2) #[] cp2]) (by simp [results, Tryz.results44, go_sem, r0, r1, z0, z1]) rfl (FormR.put hU textQ_non hv2)
set_option maxHeartbeats 4000000 in
theorem fm2 (D : Nat) (hRi : RightOk D) (w0 w : World) (P : Nat) (hT : Lib.Utf8Tabs 0 1 w0) (h0 : Below w0.heap.size w0 w) (hp0 : w0.heap.size ≤ P) (hp1 : P ≤ w.heap.size) :
    Calls Tryz.prog 44 #[.int .i64 2] w (FormR D .non (.some 0 .stmt) P w) := by
  have hU := Up.start h0 hp0 hp1
  go_enter Tryz.func44, Tryz.ntmps44
  go_wp2_with fail
  go_at_call 61
  refine (textQ_ok (w := w) (Q := (fun k => k = w.heap.size ∨ k = P)) (fun k hk => by have := hU.p1; omega) signsL 8 _ _ rfl (by decide) (by decide) rfl).mono ?_
  rintro e w0t ⟨⟨vt, rfl, hvt⟩, hbt⟩
  have hU := (hU.alloc _).call hbt
  obtain ⟨gt, cpt, hve, _⟩ := id hvt
  subst hve
  go_wp2_with fail
  go_at_call 65
  refine (someQ_ok (D := D) hU.q _ _ 0 (qStmt hRi (hU.tabs hT)) (by decide)).mono ?_
  rintro e w1 ⟨⟨v1, rfl, hv1⟩, hb1⟩
  have hvt := hvt.later hb1
  have hU := hU.call hb1
  obtain ⟨g1, cp1, hve, _⟩ := id hv1
  subst hve
  obtain ⟨_, _, _, _, hsz, r0, r1, z0, z1⟩ := id hU
  go_wp2
  exact bodyPost_ret (v := .agg #[.func (.func 62) #[] #[], .func (.func g1) #[] cp1]) (by simp [results, Tryz.results44, go_sem, r0, r1, z0, z1]) rfl (FormR.put hU textQ_non hv1)
set_option maxHeartbeats 4000000 in
theorem fm3 (D : Nat) (hRi : RightOk D) (w0 w : World) (P : Nat) (hT : Lib.Utf8Tabs 0 1 w0) (h0 : Below w0.heap.size w0 w) (hp0 : w0.heap.size ≤ P) (hp1 : P ≤ w.heap.size) :
    Calls Tryz.prog 44 #[.int .i64 3] w (FormR D .non (.row [.expr]) P w) := by
  have hU := Up.start h0 hp0 hp1
  go_enter Tryz.func44, Tryz.ntmps44
  go_wp2_with fail
  go_at_call 61
  refine (textQ_ok (w := w) (Q := (fun k => k = w.heap.size ∨ k = P)) (fun k hk => by have := hU.p1; omega) signsL 8 _ _ rfl (by decide) (by decide) rfl).mono ?_
  rintro e w0t ⟨⟨vt, rfl, hvt⟩, hbt⟩
  have hU := (hU.alloc _).call hbt
  obtain ⟨gt, cpt, hve, _⟩ := id hvt
  subst hve
  go_wp2_with fail
  have hS := shapesQ_one hU.q (qExpr hRi (hU.tabs hT)) 69
  try rw [show (w.alloc (.cells #[.nilFunc, .nilFunc] 71)).heap.size = w.heap.size + 1 by simp] at hS
  have hvt := hvt.later ((Below.refl _ _).alloc (Nat.le_refl _) (.cells #[.func (.func 67) #[] #[]] 69))
  have hU := hU.alloc (.cells #[.func (.func 67) #[] #[]] 69)
  go_at_call 63
  refine (kidsQ_ok (D := D) hU.q [Sh.ev Nd.right .expr] 1 _ rfl hS (by unfold maxLen; omega)).mono ?_
  rintro e w1 ⟨⟨v1, rfl, hv1⟩, hb1⟩
  have hvt := hvt.later hb1
  have hU := hU.call hb1
  obtain ⟨g1, cp1, hve, _⟩ := id hv1
  subst hve
  obtain ⟨_, _, _, _, hsz, r0, r1, z0, z1⟩ := id hU
  go_wp2
  exact bodyPost_ret (v := .agg #[.func (.func 62) #[] #[], .func (.func g1) #[] cp1]) (by simp [results, Tryz.results44, go_sem, r0, r1, z0, z1]) rfl (FormR.put hU textQ_non hv1)
set_option maxHeartbeats 4000000 in
theorem fm4 (D : Nat) (hRi : RightOk D) (w0 w : World) (P : Nat) (hT : Lib.Utf8Tabs 0 1 w0) (h0 : Below w0.heap.size w0 w) (hp0 : w0.heap.size ≤ P) (hp1 : P ≤ w.heap.size) :
    Calls Tryz.prog 44 #[.int .i64 4] w (FormR D .non (.row [.target, .expr]) P w) := by
  have hU := Up.start h0 hp0 hp1
  go_enter Tryz.func44, Tryz.ntmps44
  go_wp2_with fail
  go_at_call 61
  refine (textQ_ok (w := w) (Q := (fun k => k = w.heap.size ∨ k = P)) (fun k hk => by have := hU.p1; omega) signsL 8 _ _ rfl (by decide) (by decide) rfl).mono ?_
  rintro e w0t ⟨⟨vt, rfl, hvt⟩, hbt⟩
  have hU := (hU.alloc _).call hbt
  obtain ⟨gt, cpt, hve, _⟩ := id hvt
  subst hve
  go_wp2_with fail
  have hS := shapesQ_two hU.q (qTarget hRi (hU.tabs hT)) (qExpr hRi (hU.tabs hT)) 69
  try rw [show (w.alloc (.cells #[.nilFunc, .nilFunc] 71)).heap.size = w.heap.size + 1 by simp] at hS
  have hvt := hvt.later ((Below.refl _ _).alloc (Nat.le_refl _) (.cells #[.func (.func 68) #[] #[], .func (.func 67) #[] #[]] 69))
  have hU := hU.alloc (.cells #[.func (.func 68) #[] #[], .func (.func 67) #[] #[]] 69)
  go_at_call 63
  refine (kidsQ_ok (D := D) hU.q [Sh.ev Nd.right .target, Sh.ev Nd.right .expr] 2 _ rfl hS (by unfold maxLen; omega)).mono ?_
  rintro e w1 ⟨⟨v1, rfl, hv1⟩, hb1⟩
  have hvt := hvt.later hb1
  have hU := hU.call hb1
  obtain ⟨g1, cp1, hve, _⟩ := id hv1
  subst hve
  obtain ⟨_, _, _, _, hsz, r0, r1, z0, z1⟩ := id hU
  go_wp2
  exact bodyPost_ret (v := .agg #[.func (.func 62) #[] #[], .func (.func g1) #[] cp1]) (by simp [results, Tryz.results44, go_sem, r0, r1, z0, z1]) rfl (FormR.put hU textQ_non hv1)
set_option maxHeartbeats 4000000 in
theorem fm5 (D : Nat) (hRi : RightOk D) (w0 w : World) (P : Nat) (hT : Lib.Utf8Tabs 0 1 w0) (h0 : Below w0.heap.size w0 w) (hp0 : w0.heap.size ≤ P) (hp1 : P ≤ w.heap.size) :
    Calls Tryz.prog 44 #[.int .i64 5] w (FormR D .non (.row [(.of 23), .expr]) P w) := by
  have hU := Up.start h0 hp0 hp1
  go_enter Tryz.func44, Tryz.ntmps44
  go_wp2_with fail
  go_at_call 61
  refine (textQ_ok (w := w) (Q := (fun k => k = w.heap.size ∨ k = P)) (fun k hk => by have := hU.p1; omega) signsL 8 _ _ rfl (by decide) (by decide) rfl).mono ?_
  rintro e w0t ⟨⟨vt, rfl, hvt⟩, hbt⟩
  have hU := (hU.alloc _).call hbt
  obtain ⟨gt, cpt, hve, _⟩ := id hvt
  subst hve
  go_wp2_with fail
  go_at_call 64
  refine (ofQ_ok (D := D) hRi hU.q (hU.tabs hT) 23).mono ?_
  rintro e w1 ⟨⟨v1, rfl, hv1⟩, hb1⟩
  have hvt := hvt.later hb1
  have hU := hU.call hb1
  obtain ⟨g1, cp1, hve, _⟩ := id hv1
  subst hve
  go_wp2_with fail
  have hS := shapesQ_two hU.q hv1 (qExpr hRi (hU.tabs hT)) 69
  try rw [show (w.alloc (.cells #[.nilFunc, .nilFunc] 71)).heap.size = w.heap.size + 1 by simp] at hS
  have hvt := hvt.later ((Below.refl _ _).alloc (Nat.le_refl _) (.cells #[.func (.func g1) #[] cp1, .func (.func 67) #[] #[]] 69))
  have hv1 := hv1.later ((Below.refl _ _).alloc (Nat.le_refl _) (.cells #[.func (.func g1) #[] cp1, .func (.func 67) #[] #[]] 69))
  have hU := hU.alloc (.cells #[.func (.func g1) #[] cp1, .func (.func 67) #[] #[]] 69)
  go_at_call 63
  refine (kidsQ_ok (D := D) hU.q [Sh.ev Nd.right (.of 23), Sh.ev Nd.right .expr] 2 _ rfl hS (by unfold maxLen; omega)).mono ?_
  rintro e w2 ⟨⟨v2, rfl, hv2⟩, hb2⟩
  have hvt := hvt.later hb2
  have hv1 := hv1.later hb2
  have hU := hU.call hb2
  obtain ⟨g2, cp2, hve, _⟩ := id hv2
  subst hve
  obtain ⟨_, _, _, _, hsz, r0, r1, z0, z1⟩ := id hU
  go_wp2
  exact bodyPost_ret (v := .agg #[.func (.func 62) #[] #[], .func (.func g2) #[] cp2]) (by simp [results, Tryz.results44, go_sem, r0, r1, z0, z1]) rfl (FormR.put hU textQ_non hv2)
set_option maxHeartbeats 4000000 in
theorem fm6 (D : Nat) (hRi : RightOk D) (w0 w : World) (P : Nat) (hT : Lib.Utf8Tabs 0 1 w0) (h0 : Below w0.heap.size w0 w) (hp0 : w0.heap.size ≤ P) (hp1 : P ≤ w.heap.size) :
    Calls Tryz.prog 44 #[.int .i64 6] w (FormR D (.words signsL) (.row [.target, .expr]) P w) := by
  have hU := Up.start h0 hp0 hp1
  go_enter Tryz.func44, Tryz.ntmps44
  go_wp2_with fail
  go_at_call 61
  refine (textQ_ok (w := w) (Q := (fun k => k = w.heap.size ∨ k = P)) (fun k hk => by have := hU.p1; omega) signsL 8 _ _ rfl (by decide) (by decide) rfl).mono ?_
  rintro e w0t ⟨⟨vt, rfl, hvt⟩, hbt⟩
  have hU := (hU.alloc _).call hbt
  obtain ⟨gt, cpt, hve, _⟩ := id hvt
  subst hve
  go_wp2_with fail
  have hS := shapesQ_two hU.q (qTarget hRi (hU.tabs hT)) (qExpr hRi (hU.tabs hT)) 69
  try rw [show (w.alloc (.cells #[.nilFunc, .nilFunc] 71)).heap.size = w.heap.size + 1 by simp] at hS
  have hvt := hvt.later ((Below.refl _ _).alloc (Nat.le_refl _) (.cells #[.func (.func 68) #[] #[], .func (.func 67) #[] #[]] 69))
  have hU := hU.alloc (.cells #[.func (.func 68) #[] #[], .func (.func 67) #[] #[]] 69)
  go_at_call 63
  refine (kidsQ_ok (D := D) hU.q [Sh.ev Nd.right .target, Sh.ev Nd.right .expr] 2 _ rfl hS (by unfold maxLen; omega)).mono ?_
  rintro e w1 ⟨⟨v1, rfl, hv1⟩, hb1⟩
  have hvt := hvt.later hb1
  have hU := hU.call hb1
  obtain ⟨g1, cp1, hve, _⟩ := id hv1
  subst hve
  obtain ⟨_, _, _, _, hsz, r0, r1, z0, z1⟩ := id hU
  go_wp2
  exact bodyPost_ret (v := .agg #[.func (.func gt) #[] cpt, .func (.func g1) #[] cp1]) (by simp [results, Tryz.results44, go_sem, r0, r1, z0, z1]) rfl (FormR.put hU hvt hv1)
end
section
set_option linter.unusedVariables false
set_option linter.unusedSimpArgs false
open Go.RowKit
set_option maxRecDepth 1000000
set_option maxHeartbeats 4000000 in
theorem fm7 (D : Nat) (hRi : RightOk D) (w0 w : World) (P : Nat) (hT : Lib.Utf8Tabs 0 1 w0) (h0 : Below w0.heap.size w0 w) (hp0 : w0.heap.size ≤ P) (hp1 : P ≤ w.heap.size) :
    Calls Tryz.prog 44 #[.int .i64 7] w (FormR D .non (.row [.target]) P w) := by
  have hU := Up.start h0 hp0 hp1
  go_enter Tryz.func44, Tryz.ntmps44
  go_wp2_with fail
  go_at_call 61
  refine (textQ_ok (w := w) (Q := (fun k => k = w.heap.size ∨ k = P)) (fun k hk => by have := hU.p1; omega) signsL 8 _ _ rfl (by decide) (by decide) rfl).mono ?_
  rintro e w0t ⟨⟨vt, rfl, hvt⟩, hbt⟩
  have hU := (hU.alloc _).call hbt
  obtain ⟨gt, cpt, hve, _⟩ := id hvt
  subst hve
  go_wp2_with fail
  have hS := shapesQ_one hU.q (qTarget hRi (hU.tabs hT)) 69
  try rw [show (w.alloc (.cells #[.nilFunc, .nilFunc] 71)).heap.size = w.heap.size + 1 by simp] at hS
  have hvt := hvt.later ((Below.refl _ _).alloc (Nat.le_refl _) (.cells #[.func (.func 68) #[] #[]] 69))
  have hU := hU.alloc (.cells #[.func (.func 68) #[] #[]] 69)
  go_at_call 63
  refine (kidsQ_ok (D := D) hU.q [Sh.ev Nd.right .target] 1 _ rfl hS (by unfold maxLen; omega)).mono ?_
  rintro e w1 ⟨⟨v1, rfl, hv1⟩, hb1⟩
  have hvt := hvt.later hb1
  have hU := hU.call hb1
  obtain ⟨g1, cp1, hve, _⟩ := id hv1
  subst hve
  obtain ⟨_, _, _, _, hsz, r0, r1, z0, z1⟩ := id hU
  go_wp2
  exact bodyPost_ret (v := .agg #[.func (.func 62) #[] #[], .func (.func g1) #[] cp1]) (by simp [results, Tryz.results44, go_sem, r0, r1, z0, z1]) rfl (FormR.put hU textQ_non hv1)
set_option maxHeartbeats 4000000 in
theorem fm8 (D : Nat) (hRi : RightOk D) (w0 w : World) (P : Nat) (hT : Lib.Utf8Tabs 0 1 w0) (h0 : Below w0.heap.size w0 w) (hp0 : w0.heap.size ≤ P) (hp1 : P ≤ w.heap.size) :
    Calls Tryz.prog 44 #[.int .i64 8] w (FormR D .non (.row []) P w) := by
  have hU := Up.start h0 hp0 hp1
  go_enter Tryz.func44, Tryz.ntmps44
  go_wp2_with fail
  go_at_call 61
  refine (textQ_ok (w := w) (Q := (fun k => k = w.heap.size ∨ k = P)) (fun k hk => by have := hU.p1; omega) signsL 8 _ _ rfl (by decide) (by decide) rfl).mono ?_
  rintro e w0t ⟨⟨vt, rfl, hvt⟩, hbt⟩
  have hU := (hU.alloc _).call hbt
  obtain ⟨gt, cpt, hve, _⟩ := id hvt
  subst hve
  go_wp2_with fail
  go_at_call 63
  refine (kidsQ_ok (D := D) hU.q [] 0 _ rfl (shapesQ_nil D _ none) (by unfold maxLen; omega)).mono ?_
  rintro e w1 ⟨⟨v1, rfl, hv1⟩, hb1⟩
  have hvt := hvt.later hb1
  have hU := hU.call hb1
  obtain ⟨g1, cp1, hve, _⟩ := id hv1
  subst hve
  obtain ⟨_, _, _, _, hsz, r0, r1, z0, z1⟩ := id hU
  go_wp2
  exact bodyPost_ret (v := .agg #[.func (.func 62) #[] #[], .func (.func g1) #[] cp1]) (by simp [results, Tryz.results44, go_sem, r0, r1, z0, z1]) rfl (FormR.put hU textQ_non hv1)
set_option maxHeartbeats 4000000 in
theorem fm9 (D : Nat) (hRi : RightOk D) (w0 w : World) (P : Nat) (hT : Lib.Utf8Tabs 0 1 w0) (h0 : Below w0.heap.size w0 w) (hp0 : w0.heap.size ≤ P) (hp1 : P ≤ w.heap.size) :
    Calls Tryz.prog 44 #[.int .i64 9] w (FormR D .non (.row []) P w) := by
  have hU := Up.start h0 hp0 hp1
  go_enter Tryz.func44, Tryz.ntmps44
  go_wp2_with fail
  go_at_call 61
  refine (textQ_ok (w := w) (Q := (fun k => k = w.heap.size ∨ k = P)) (fun k hk => by have := hU.p1; omega) signsL 8 _ _ rfl (by decide) (by decide) rfl).mono ?_
  rintro e w0t ⟨⟨vt, rfl, hvt⟩, hbt⟩
  have hU := (hU.alloc _).call hbt
  obtain ⟨gt, cpt, hve, _⟩ := id hvt
  subst hve
  go_wp2_with fail
  go_at_call 63
  refine (kidsQ_ok (D := D) hU.q [] 0 _ rfl (shapesQ_nil D _ none) (by unfold maxLen; omega)).mono ?_
  rintro e w1 ⟨⟨v1, rfl, hv1⟩, hb1⟩
  have hvt := hvt.later hb1
  have hU := hU.call hb1
  obtain ⟨g1, cp1, hve, _⟩ := id hv1
  subst hve
  obtain ⟨_, _, _, _, hsz, r0, r1, z0, z1⟩ := id hU
  go_wp2
  exact bodyPost_ret (v := .agg #[.func (.func 62) #[] #[], .func (.func g1) #[] cp1]) (by simp [results, Tryz.results44, go_sem, r0, r1, z0, z1]) rfl (FormR.put hU textQ_non hv1)
set_option maxHeartbeats 4000000 in
theorem fm10 (D : Nat) (hRi : RightOk D) (w0 w : World) (P : Nat) (hT : Lib.Utf8Tabs 0 1 w0) (h0 : Below w0.heap.size w0 w) (hp0 : w0.heap.size ≤ P) (hp1 : P ≤ w.heap.size) :
    Calls Tryz.prog 44 #[.int .i64 10] w (FormR D .non (.row []) P w) := by
  have hU := Up.start h0 hp0 hp1
  go_enter Tryz.func44, Tryz.ntmps44
  go_wp2_with fail
  go_at_call 61
  refine (textQ_ok (w := w) (Q := (fun k => k = w.heap.size ∨ k = P)) (fun k hk => by have := hU.p1; omega) signsL 8 _ _ rfl (by decide) (by decide) rfl).mono ?_
  rintro e w0t ⟨⟨vt, rfl, hvt⟩, hbt⟩
  have hU := (hU.alloc _).call hbt
  obtain ⟨gt, cpt, hve, _⟩ := id hvt
  subst hve
  go_wp2_with fail
  go_at_call 63
  refine (kidsQ_ok (D := D) hU.q [] 0 _ rfl (shapesQ_nil D _ none) (by unfold maxLen; omega)).mono ?_
  rintro e w1 ⟨⟨v1, rfl, hv1⟩, hb1⟩
  have hvt := hvt.later hb1
  have hU := hU.call hb1
  obtain ⟨g1, cp1, hve, _⟩ := id hv1
  subst hve
  obtain ⟨_, _, _, _, hsz, r0, r1, z0, z1⟩ := id hU
  go_wp2
  exact bodyPost_ret (v := .agg #[.func (.func 62) #[] #[], .func (.func g1) #[] cp1]) (by simp [results, Tryz.results44, go_sem, r0, r1, z0, z1]) rfl (FormR.put hU textQ_non hv1)
set_option maxHeartbeats 4000000 in
theorem fm11 (D : Nat) (hRi : RightOk D) (w0 w : World) (P : Nat) (hT : Lib.Utf8Tabs 0 1 w0) (h0 : Below w0.heap.size w0 w) (hp0 : w0.heap.size ≤ P) (hp1 : P ≤ w.heap.size) :
    Calls Tryz.prog 44 #[.int .i64 11] w (FormR D .non (.row [(.or2 .none .expr)]) P w) := by
  have hU := Up.start h0 hp0 hp1
  go_enter Tryz.func44, Tryz.ntmps44
  go_wp2_with fail
  go_at_call 61
  refine (textQ_ok (w := w) (Q := (fun k => k = w.heap.size ∨ k = P)) (fun k hk => by have := hU.p1; omega) signsL 8 _ _ rfl (by decide) (by decide) rfl).mono ?_
  rintro e w0t ⟨⟨vt, rfl, hvt⟩, hbt⟩
  have hU := (hU.alloc _).call hbt
  obtain ⟨gt, cpt, hve, _⟩ := id hvt
  subst hve
  go_wp2_with fail
  have hS := shapesQ_two hU.q qNone (qExpr hRi (hU.tabs hT)) 69
  try rw [show (w.alloc (.cells #[.nilFunc, .nilFunc] 71)).heap.size = w.heap.size + 1 by simp] at hS
  have hvt := hvt.later ((Below.refl _ _).alloc (Nat.le_refl _) (.cells #[.func (.func 70) #[] #[], .func (.func 67) #[] #[]] 69))
  have hU := hU.alloc (.cells #[.func (.func 70) #[] #[], .func (.func 67) #[] #[]] 69)
  go_at_call 69
  refine (or2Q_ok (D := D) hU.q .none .expr _ hS).mono ?_
  rintro e w1 ⟨⟨v1, rfl, hv1⟩, hb1⟩
  have hvt := hvt.later hb1
  have hU := hU.call hb1
  obtain ⟨g1, cp1, hve, _⟩ := id hv1
  subst hve
  go_wp2_with fail
  have hS := shapesQ_one hU.q hv1 69
  try rw [show (w.alloc (.cells #[.nilFunc, .nilFunc] 71)).heap.size = w.heap.size + 1 by simp] at hS
  have hvt := hvt.later ((Below.refl _ _).alloc (Nat.le_refl _) (.cells #[.func (.func g1) #[] cp1] 69))
  have hv1 := hv1.later ((Below.refl _ _).alloc (Nat.le_refl _) (.cells #[.func (.func g1) #[] cp1] 69))
  have hU := hU.alloc (.cells #[.func (.func g1) #[] cp1] 69)
  go_at_call 63
  refine (kidsQ_ok (D := D) hU.q [Sh.ev Nd.right (.or2 .none .expr)] 1 _ rfl hS (by unfold maxLen; omega)).mono ?_
  rintro e w2 ⟨⟨v2, rfl, hv2⟩, hb2⟩
  have hvt := hvt.later hb2
  have hv1 := hv1.later hb2
  have hU := hU.call hb2
  obtain ⟨g2, cp2, hve, _⟩ := id hv2
  subst hve
  obtain ⟨_, _, _, _, hsz, r0, r1, z0, z1⟩ := id hU
  go_wp2
  exact bodyPost_ret (v := .agg #[.func (.func 62) #[] #[], .func (.func g2) #[] cp2]) (by simp [results, Tryz.results44, go_sem, r0, r1, z0, z1]) rfl (FormR.put hU textQ_non hv2)
set_option maxHeartbeats 4000000 in
theorem fm12 (D : Nat) (hRi : RightOk D) (w0 w : World) (P : Nat) (hT : Lib.Utf8Tabs 0 1 w0) (h0 : Below w0.heap.size w0 w) (hp0 : w0.heap.size ≤ P) (hp1 : P ≤ w.heap.size) :
    Calls Tryz.prog 44 #[.int .i64 12] w (FormR D .non (.row [(.or2 .none .expr)]) P w) := by
  have hU := Up.start h0 hp0 hp1
  go_enter Tryz.func44, Tryz.ntmps44
  go_wp2_with fail
  go_at_call 61
  refine (textQ_ok (w := w) (Q := (fun k => k = w.heap.size ∨ k = P)) (fun k hk => by have := hU.p1; omega) signsL 8 _ _ rfl (by decide) (by decide) rfl).mono ?_
  rintro e w0t ⟨⟨vt, rfl, hvt⟩, hbt⟩
  have hU := (hU.alloc _).call hbt
  obtain ⟨gt, cpt, hve, _⟩ := id hvt
  subst hve
  go_wp2_with fail
  have hS := shapesQ_two hU.q qNone (qExpr hRi (hU.tabs hT)) 69
  try rw [show (w.alloc (.cells #[.nilFunc, .nilFunc] 71)).heap.size = w.heap.size + 1 by simp] at hS
  have hvt := hvt.later ((Below.refl _ _).alloc (Nat.le_refl _) (.cells #[.func (.func 70) #[] #[], .func (.func 67) #[] #[]] 69))
  have hU := hU.alloc (.cells #[.func (.func 70) #[] #[], .func (.func 67) #[] #[]] 69)
  go_at_call 69
  refine (or2Q_ok (D := D) hU.q .none .expr _ hS).mono ?_
  rintro e w1 ⟨⟨v1, rfl, hv1⟩, hb1⟩
  have hvt := hvt.later hb1
  have hU := hU.call hb1
  obtain ⟨g1, cp1, hve, _⟩ := id hv1
  subst hve
  go_wp2_with fail
  have hS := shapesQ_one hU.q hv1 69
  try rw [show (w.alloc (.cells #[.nilFunc, .nilFunc] 71)).heap.size = w.heap.size + 1 by simp] at hS
  have hvt := hvt.later ((Below.refl _ _).alloc (Nat.le_refl _) (.cells #[.func (.func g1) #[] cp1] 69))
  have hv1 := hv1.later ((Below.refl _ _).alloc (Nat.le_refl _) (.cells #[.func (.func g1) #[] cp1] 69))
  have hU := hU.alloc (.cells #[.func (.func g1) #[] cp1] 69)
  go_at_call 63
  refine (kidsQ_ok (D := D) hU.q [Sh.ev Nd.right (.or2 .none .expr)] 1 _ rfl hS (by unfold maxLen; omega)).mono ?_
  rintro e w2 ⟨⟨v2, rfl, hv2⟩, hb2⟩
  have hvt := hvt.later hb2
  have hv1 := hv1.later hb2
  have hU := hU.call hb2
  obtain ⟨g2, cp2, hve, _⟩ := id hv2
  subst hve
  obtain ⟨_, _, _, _, hsz, r0, r1, z0, z1⟩ := id hU
  go_wp2
  exact bodyPost_ret (v := .agg #[.func (.func 62) #[] #[], .func (.func g2) #[] cp2]) (by simp [results, Tryz.results44, go_sem, r0, r1, z0, z1]) rfl (FormR.put hU textQ_non hv2)
end
section
set_option linter.unusedVariables false
set_option linter.unusedSimpArgs false
open Go.RowKit
set_option maxRecDepth 1000000
set_option maxHeartbeats 4000000 in
theorem fm13 (D : Nat) (hRi : RightOk D) (w0 w : World) (P : Nat) (hT : Lib.Utf8Tabs 0 1 w0) (h0 : Below w0.heap.size w0 w) (hp0 : w0.heap.size ≤ P) (hp1 : P ≤ w.heap.size) :
    Calls Tryz.prog 44 #[.int .i64 13] w (FormR D .non (.some 1 (.of 31)) P w) := by
  have hU := Up.start h0 hp0 hp1
  go_enter Tryz.func44, Tryz.ntmps44
  go_wp2_with fail
  go_at_call 61
  refine (textQ_ok (w := w) (Q := (fun k => k = w.heap.size ∨ k = P)) (fun k hk => by have := hU.p1; omega) signsL 8 _ _ rfl (by decide) (by decide) rfl).mono ?_
  rintro e w0t ⟨⟨vt, rfl, hvt⟩, hbt⟩
  have hU := (hU.alloc _).call hbt
  obtain ⟨gt, cpt, hve, _⟩ := id hvt
  subst hve
  go_wp2_with fail
  go_at_call 64
  refine (ofQ_ok (D := D) hRi hU.q (hU.tabs hT) 31).mono ?_
  rintro e w1 ⟨⟨v1, rfl, hv1⟩, hb1⟩
  have hvt := hvt.later hb1
  have hU := hU.call hb1
  obtain ⟨g1, cp1, hve, _⟩ := id hv1
  subst hve
  go_wp2_with fail
  go_at_call 65
  refine (someQ_ok (D := D) hU.q _ _ 1 hv1 (by decide)).mono ?_
  rintro e w2 ⟨⟨v2, rfl, hv2⟩, hb2⟩
  have hvt := hvt.later hb2
  have hv1 := hv1.later hb2
  have hU := hU.call hb2
  obtain ⟨g2, cp2, hve, _⟩ := id hv2
  subst hve
  obtain ⟨_, _, _, _, hsz, r0, r1, z0, z1⟩ := id hU
  go_wp2
  exact bodyPost_ret (v := .agg #[.func (.func 62) #[] #[], .func (.func g2) #[] cp2]) (by simp [results, Tryz.results44, go_sem, r0, r1, z0, z1]) rfl (FormR.put hU textQ_non hv2)
set_option maxHeartbeats 4000000 in
theorem fm14 (D : Nat) (hRi : RightOk D) (w0 w : World) (P : Nat) (hT : Lib.Utf8Tabs 0 1 w0) (h0 : Below w0.heap.size w0 w) (hp0 : w0.heap.size ≤ P) (hp1 : P ≤ w.heap.size) :
    Calls Tryz.prog 44 #[.int .i64 14] w (FormR D .non (.some 1 (.of 31)) P w) := by
  have hU := Up.start h0 hp0 hp1
  go_enter Tryz.func44, Tryz.ntmps44
  go_wp2_with fail
  go_at_call 61
  refine (textQ_ok (w := w) (Q := (fun k => k = w.heap.size ∨ k = P)) (fun k hk => by have := hU.p1; omega) signsL 8 _ _ rfl (by decide) (by decide) rfl).mono ?_
  rintro e w0t ⟨⟨vt, rfl, hvt⟩, hbt⟩
  have hU := (hU.alloc _).call hbt
  obtain ⟨gt, cpt, hve, _⟩ := id hvt
  subst hve
  go_wp2_with fail
  go_at_call 64
  refine (ofQ_ok (D := D) hRi hU.q (hU.tabs hT) 31).mono ?_
  rintro e w1 ⟨⟨v1, rfl, hv1⟩, hb1⟩
  have hvt := hvt.later hb1
  have hU := hU.call hb1
  obtain ⟨g1, cp1, hve, _⟩ := id hv1
  subst hve
  go_wp2_with fail
  go_at_call 65
  refine (someQ_ok (D := D) hU.q _ _ 1 hv1 (by decide)).mono ?_
  rintro e w2 ⟨⟨v2, rfl, hv2⟩, hb2⟩
  have hvt := hvt.later hb2
  have hv1 := hv1.later hb2
  have hU := hU.call hb2
  obtain ⟨g2, cp2, hve, _⟩ := id hv2
  subst hve
  obtain ⟨_, _, _, _, hsz, r0, r1, z0, z1⟩ := id hU
  go_wp2
  exact bodyPost_ret (v := .agg #[.func (.func 62) #[] #[], .func (.func g2) #[] cp2]) (by simp [results, Tryz.results44, go_sem, r0, r1, z0, z1]) rfl (FormR.put hU textQ_non hv2)
set_option maxHeartbeats 4000000 in
theorem fm15 (D : Nat) (hRi : RightOk D) (w0 w : World) (P : Nat) (hT : Lib.Utf8Tabs 0 1 w0) (h0 : Below w0.heap.size w0 w) (hp0 : w0.heap.size ≤ P) (hp1 : P ≤ w.heap.size) :
    Calls Tryz.prog 44 #[.int .i64 15] w (FormR D .non (.row [.expr, .block, (.or2 .none .block)]) P w) := by
  have hU := Up.start h0 hp0 hp1
  go_enter Tryz.func44, Tryz.ntmps44
  go_wp2_with fail
  go_at_call 61
  refine (textQ_ok (w := w) (Q := (fun k => k = w.heap.size ∨ k = P)) (fun k hk => by have := hU.p1; omega) signsL 8 _ _ rfl (by decide) (by decide) rfl).mono ?_
  rintro e w0t ⟨⟨vt, rfl, hvt⟩, hbt⟩
  have hU := (hU.alloc _).call hbt
  obtain ⟨gt, cpt, hve, _⟩ := id hvt
  subst hve
  go_wp2_with fail
  have hS := shapesQ_two hU.q qNone (qBlock hRi (hU.tabs hT)) 69
  try rw [show (w.alloc (.cells #[.nilFunc, .nilFunc] 71)).heap.size = w.heap.size + 1 by simp] at hS
  have hvt := hvt.later ((Below.refl _ _).alloc (Nat.le_refl _) (.cells #[.func (.func 70) #[] #[], .func (.func 71) #[] #[]] 69))
  have hU := hU.alloc (.cells #[.func (.func 70) #[] #[], .func (.func 71) #[] #[]] 69)
  go_at_call 69
  refine (or2Q_ok (D := D) hU.q .none .block _ hS).mono ?_
  rintro e w1 ⟨⟨v1, rfl, hv1⟩, hb1⟩
  have hvt := hvt.later hb1
  have hU := hU.call hb1
  obtain ⟨g1, cp1, hve, _⟩ := id hv1
  subst hve
  go_wp2_with fail
  have hS := shapesQ_three hU.q (qExpr hRi (hU.tabs hT)) (qBlock hRi (hU.tabs hT)) hv1 69
  try rw [show (w.alloc (.cells #[.nilFunc, .nilFunc] 71)).heap.size = w.heap.size + 1 by simp] at hS
  have hvt := hvt.later ((Below.refl _ _).alloc (Nat.le_refl _) (.cells #[.func (.func 67) #[] #[], .func (.func 71) #[] #[], .func (.func g1) #[] cp1] 69))
  have hv1 := hv1.later ((Below.refl _ _).alloc (Nat.le_refl _) (.cells #[.func (.func 67) #[] #[], .func (.func 71) #[] #[], .func (.func g1) #[] cp1] 69))
  have hU := hU.alloc (.cells #[.func (.func 67) #[] #[], .func (.func 71) #[] #[], .func (.func g1) #[] cp1] 69)
  go_at_call 63
  refine (kidsQ_ok (D := D) hU.q [Sh.ev Nd.right .expr, Sh.ev Nd.right .block, Sh.ev Nd.right (.or2 .none .block)] 3 _ rfl hS (by unfold maxLen; omega)).mono ?_
  rintro e w2 ⟨⟨v2, rfl, hv2⟩, hb2⟩
  have hvt := hvt.later hb2
  have hv1 := hv1.later hb2
  have hU := hU.call hb2
  obtain ⟨g2, cp2, hve, _⟩ := id hv2
  subst hve
  obtain ⟨_, _, _, _, hsz, r0, r1, z0, z1⟩ := id hU
  go_wp2
  exact bodyPost_ret (v := .agg #[.func (.func 62) #[] #[], .func (.func g2) #[] cp2]) (by simp [results, Tryz.results44, go_sem, r0, r1, z0, z1]) rfl (FormR.put hU textQ_non hv2)
set_option maxHeartbeats 4000000 in
theorem fm16 (D : Nat) (hRi : RightOk D) (w0 w : World) (P : Nat) (hT : Lib.Utf8Tabs 0 1 w0) (h0 : Below w0.heap.size w0 w) (hp0 : w0.heap.size ≤ P) (hp1 : P ≤ w.heap.size) :
    Calls Tryz.prog 44 #[.int .i64 16] w (FormR D .non (.row [.expr, .block]) P w) := by
  have hU := Up.start h0 hp0 hp1
  go_enter Tryz.func44, Tryz.ntmps44
  go_wp2_with fail
  go_at_call 61
  refine (textQ_ok (w := w) (Q := (fun k => k = w.heap.size ∨ k = P)) (fun k hk => by have := hU.p1; omega) signsL 8 _ _ rfl (by decide) (by decide) rfl).mono ?_
  rintro e w0t ⟨⟨vt, rfl, hvt⟩, hbt⟩
  have hU := (hU.alloc _).call hbt
  obtain ⟨gt, cpt, hve, _⟩ := id hvt
  subst hve
  go_wp2_with fail
  have hS := shapesQ_two hU.q (qExpr hRi (hU.tabs hT)) (qBlock hRi (hU.tabs hT)) 69
  try rw [show (w.alloc (.cells #[.nilFunc, .nilFunc] 71)).heap.size = w.heap.size + 1 by simp] at hS
  have hvt := hvt.later ((Below.refl _ _).alloc (Nat.le_refl _) (.cells #[.func (.func 67) #[] #[], .func (.func 71) #[] #[]] 69))
  have hU := hU.alloc (.cells #[.func (.func 67) #[] #[], .func (.func 71) #[] #[]] 69)
  go_at_call 63
  refine (kidsQ_ok (D := D) hU.q [Sh.ev Nd.right .expr, Sh.ev Nd.right .block] 2 _ rfl hS (by unfold maxLen; omega)).mono ?_
  rintro e w1 ⟨⟨v1, rfl, hv1⟩, hb1⟩
  have hvt := hvt.later hb1
  have hU := hU.call hb1
  obtain ⟨g1, cp1, hve, _⟩ := id hv1
  subst hve
  obtain ⟨_, _, _, _, hsz, r0, r1, z0, z1⟩ := id hU
  go_wp2
  exact bodyPost_ret (v := .agg #[.func (.func 62) #[] #[], .func (.func g1) #[] cp1]) (by simp [results, Tryz.results44, go_sem, r0, r1, z0, z1]) rfl (FormR.put hU textQ_non hv1)
set_option maxHeartbeats 4000000 in
theorem fm17 (D : Nat) (hRi : RightOk D) (w0 w : World) (P : Nat) (hT : Lib.Utf8Tabs 0 1 w0) (h0 : Below w0.heap.size w0 w) (hp0 : w0.heap.size ≤ P) (hp1 : P ≤ w.heap.size) :
    Calls Tryz.prog 44 #[.int .i64 17] w (FormR D .non (.row [.targets, .expr, .block]) P w) := by
  have hU := Up.start h0 hp0 hp1
  go_enter Tryz.func44, Tryz.ntmps44
  go_wp2_with fail
  go_at_call 61
  refine (textQ_ok (w := w) (Q := (fun k => k = w.heap.size ∨ k = P)) (fun k hk => by have := hU.p1; omega) signsL 8 _ _ rfl (by decide) (by decide) rfl).mono ?_
  rintro e w0t ⟨⟨vt, rfl, hvt⟩, hbt⟩
  have hU := (hU.alloc _).call hbt
  obtain ⟨gt, cpt, hve, _⟩ := id hvt
  subst hve
  go_wp2_with fail
  have hS := shapesQ_three hU.q (qTargets hRi (hU.tabs hT)) (qExpr hRi (hU.tabs hT)) (qBlock hRi (hU.tabs hT)) 69
  try rw [show (w.alloc (.cells #[.nilFunc, .nilFunc] 71)).heap.size = w.heap.size + 1 by simp] at hS
  have hvt := hvt.later ((Below.refl _ _).alloc (Nat.le_refl _) (.cells #[.func (.func 72) #[] #[], .func (.func 67) #[] #[], .func (.func 71) #[] #[]] 69))
  have hU := hU.alloc (.cells #[.func (.func 72) #[] #[], .func (.func 67) #[] #[], .func (.func 71) #[] #[]] 69)
  go_at_call 63
  refine (kidsQ_ok (D := D) hU.q [Sh.ev Nd.right .targets, Sh.ev Nd.right .expr, Sh.ev Nd.right .block] 3 _ rfl hS (by unfold maxLen; omega)).mono ?_
  rintro e w1 ⟨⟨v1, rfl, hv1⟩, hb1⟩
  have hvt := hvt.later hb1
  have hU := hU.call hb1
  obtain ⟨g1, cp1, hve, _⟩ := id hv1
  subst hve
  obtain ⟨_, _, _, _, hsz, r0, r1, z0, z1⟩ := id hU
  go_wp2
  exact bodyPost_ret (v := .agg #[.func (.func 62) #[] #[], .func (.func g1) #[] cp1]) (by simp [results, Tryz.results44, go_sem, r0, r1, z0, z1]) rfl (FormR.put hU textQ_non hv1)
set_option maxHeartbeats 4000000 in
theorem fm18 (D : Nat) (hRi : RightOk D) (w0 w : World) (P : Nat) (hT : Lib.Utf8Tabs 0 1 w0) (h0 : Below w0.heap.size w0 w) (hp0 : w0.heap.size ≤ P) (hp1 : P ≤ w.heap.size) :
    Calls Tryz.prog 44 #[.int .i64 18] w (FormR D .name .dfn P w) := by
  have hU := Up.start h0 hp0 hp1
  go_enter Tryz.func44, Tryz.ntmps44
  go_wp2_with fail
  go_at_call 61
  refine (textQ_ok (w := w) (Q := (fun k => k = w.heap.size ∨ k = P)) (fun k hk => by have := hU.p1; omega) signsL 8 _ _ rfl (by decide) (by decide) rfl).mono ?_
  rintro e w0t ⟨⟨vt, rfl, hvt⟩, hbt⟩
  have hU := (hU.alloc _).call hbt
  obtain ⟨gt, cpt, hve, _⟩ := id hvt
  subst hve
  obtain ⟨_, _, _, _, hsz, r0, r1, z0, z1⟩ := id hU
  go_wp2
  exact bodyPost_ret (v := .agg #[.func (.func 73) #[] #[], .func (.func 74) #[] #[]]) (by simp [results, Tryz.results44, go_sem, r0, r1, z0, z1]) rfl (FormR.put hU textQ_name (qDef hRi (hU.tabs hT)))
end
section
set_option linter.unusedVariables false
set_option linter.unusedSimpArgs false
open Go.RowKit
set_option maxRecDepth 1000000
set_option maxHeartbeats 4000000 in
theorem fm19 (D : Nat) (hRi : RightOk D) (w0 w : World) (P : Nat) (hT : Lib.Utf8Tabs 0 1 w0) (h0 : Below w0.heap.size w0 w) (hp0 : w0.heap.size ≤ P) (hp1 : P ≤ w.heap.size) :
    Calls Tryz.prog 44 #[.int .i64 19] w (FormR D .name .prm P w) := by
  have hU := Up.start h0 hp0 hp1
  go_enter Tryz.func44, Tryz.ntmps44
  go_wp2_with fail
  go_at_call 61
  refine (textQ_ok (w := w) (Q := (fun k => k = w.heap.size ∨ k = P)) (fun k hk => by have := hU.p1; omega) signsL 8 _ _ rfl (by decide) (by decide) rfl).mono ?_
  rintro e w0t ⟨⟨vt, rfl, hvt⟩, hbt⟩
  have hU := (hU.alloc _).call hbt
  obtain ⟨gt, cpt, hve, _⟩ := id hvt
  subst hve
  obtain ⟨_, _, _, _, hsz, r0, r1, z0, z1⟩ := id hU
  go_wp2
  exact bodyPost_ret (v := .agg #[.func (.func 73) #[] #[], .func (.func 75) #[] #[]]) (by simp [results, Tryz.results44, go_sem, r0, r1, z0, z1]) rfl (FormR.put hU textQ_name (qParam hRi (hU.tabs hT)))
set_option maxHeartbeats 4000000 in
theorem fm20 (D : Nat) (hRi : RightOk D) (w0 w : World) (P : Nat) (hT : Lib.Utf8Tabs 0 1 w0) (h0 : Below w0.heap.size w0 w) (hp0 : w0.heap.size ≤ P) (hp1 : P ≤ w.heap.size) :
    Calls Tryz.prog 44 #[.int .i64 20] w (FormR D .name (.row [(.or2 .none .expr), .block]) P w) := by
  have hU := Up.start h0 hp0 hp1
  go_enter Tryz.func44, Tryz.ntmps44
  go_wp2_with fail
  go_at_call 61
  refine (textQ_ok (w := w) (Q := (fun k => k = w.heap.size ∨ k = P)) (fun k hk => by have := hU.p1; omega) signsL 8 _ _ rfl (by decide) (by decide) rfl).mono ?_
  rintro e w0t ⟨⟨vt, rfl, hvt⟩, hbt⟩
  have hU := (hU.alloc _).call hbt
  obtain ⟨gt, cpt, hve, _⟩ := id hvt
  subst hve
  go_wp2_with fail
  have hS := shapesQ_two hU.q qNone (qExpr hRi (hU.tabs hT)) 69
  try rw [show (w.alloc (.cells #[.nilFunc, .nilFunc] 71)).heap.size = w.heap.size + 1 by simp] at hS
  have hvt := hvt.later ((Below.refl _ _).alloc (Nat.le_refl _) (.cells #[.func (.func 70) #[] #[], .func (.func 67) #[] #[]] 69))
  have hU := hU.alloc (.cells #[.func (.func 70) #[] #[], .func (.func 67) #[] #[]] 69)
  go_at_call 69
  refine (or2Q_ok (D := D) hU.q .none .expr _ hS).mono ?_
  rintro e w1 ⟨⟨v1, rfl, hv1⟩, hb1⟩
  have hvt := hvt.later hb1
  have hU := hU.call hb1
  obtain ⟨g1, cp1, hve, _⟩ := id hv1
  subst hve
  go_wp2_with fail
  have hS := shapesQ_two hU.q hv1 (qBlock hRi (hU.tabs hT)) 69
  try rw [show (w.alloc (.cells #[.nilFunc, .nilFunc] 71)).heap.size = w.heap.size + 1 by simp] at hS
  have hvt := hvt.later ((Below.refl _ _).alloc (Nat.le_refl _) (.cells #[.func (.func g1) #[] cp1, .func (.func 71) #[] #[]] 69))
  have hv1 := hv1.later ((Below.refl _ _).alloc (Nat.le_refl _) (.cells #[.func (.func g1) #[] cp1, .func (.func 71) #[] #[]] 69))
  have hU := hU.alloc (.cells #[.func (.func g1) #[] cp1, .func (.func 71) #[] #[]] 69)
  go_at_call 63
  refine (kidsQ_ok (D := D) hU.q [Sh.ev Nd.right (.or2 .none .expr), Sh.ev Nd.right .block] 2 _ rfl hS (by unfold maxLen; omega)).mono ?_
  rintro e w2 ⟨⟨v2, rfl, hv2⟩, hb2⟩
  have hvt := hvt.later hb2
  have hv1 := hv1.later hb2
  have hU := hU.call hb2
  obtain ⟨g2, cp2, hve, _⟩ := id hv2
  subst hve
  obtain ⟨_, _, _, _, hsz, r0, r1, z0, z1⟩ := id hU
  go_wp2
  exact bodyPost_ret (v := .agg #[.func (.func 73) #[] #[], .func (.func g2) #[] cp2]) (by simp [results, Tryz.results44, go_sem, r0, r1, z0, z1]) rfl (FormR.put hU textQ_name hv2)
set_option maxHeartbeats 4000000 in
theorem fm21 (D : Nat) (hRi : RightOk D) (w0 w : World) (P : Nat) (hT : Lib.Utf8Tabs 0 1 w0) (h0 : Below w0.heap.size w0 w) (hp0 : w0.heap.size ≤ P) (hp1 : P ≤ w.heap.size) :
    Calls Tryz.prog 44 #[.int .i64 21] w (FormR D .non .tri P w) := by
  have hU := Up.start h0 hp0 hp1
  go_enter Tryz.func44, Tryz.ntmps44
  go_wp2_with fail
  go_at_call 61
  refine (textQ_ok (w := w) (Q := (fun k => k = w.heap.size ∨ k = P)) (fun k hk => by have := hU.p1; omega) signsL 8 _ _ rfl (by decide) (by decide) rfl).mono ?_
  rintro e w0t ⟨⟨vt, rfl, hvt⟩, hbt⟩
  have hU := (hU.alloc _).call hbt
  obtain ⟨gt, cpt, hve, _⟩ := id hvt
  subst hve
  obtain ⟨_, _, _, _, hsz, r0, r1, z0, z1⟩ := id hU
  go_wp2
  exact bodyPost_ret (v := .agg #[.func (.func 62) #[] #[], .func (.func 76) #[] #[]]) (by simp [results, Tryz.results44, go_sem, r0, r1, z0, z1]) rfl (FormR.put hU textQ_non (qTry hRi (hU.tabs hT)))
set_option maxHeartbeats 4000000 in
theorem fm22 (D : Nat) (hRi : RightOk D) (w0 w : World) (P : Nat) (hT : Lib.Utf8Tabs 0 1 w0) (h0 : Below w0.heap.size w0 w) (hp0 : w0.heap.size ≤ P) (hp1 : P ≤ w.heap.size) :
    Calls Tryz.prog 44 #[.int .i64 22] w (FormR D .exc .exc P w) := by
  have hU := Up.start h0 hp0 hp1
  go_enter Tryz.func44, Tryz.ntmps44
  go_wp2_with fail
  go_at_call 61
  refine (textQ_ok (w := w) (Q := (fun k => k = w.heap.size ∨ k = P)) (fun k hk => by have := hU.p1; omega) signsL 8 _ _ rfl (by decide) (by decide) rfl).mono ?_
  rintro e w0t ⟨⟨vt, rfl, hvt⟩, hbt⟩
  have hU := (hU.alloc _).call hbt
  obtain ⟨gt, cpt, hve, _⟩ := id hvt
  subst hve
  obtain ⟨_, _, _, _, hsz, r0, r1, z0, z1⟩ := id hU
  go_wp2
  exact bodyPost_ret (v := .agg #[.func (.func 77) #[] #[], .func (.func 78) #[] #[]]) (by simp [results, Tryz.results44, go_sem, r0, r1, z0, z1]) rfl (FormR.put hU textQ_exc (qExcept hRi (hU.tabs hT)))
set_option maxHeartbeats 4000000 in
theorem fm23 (D : Nat) (hRi : RightOk D) (w0 w : World) (P : Nat) (hT : Lib.Utf8Tabs 0 1 w0) (h0 : Below w0.heap.size w0 w) (hp0 : w0.heap.size ≤ P) (hp1 : P ≤ w.heap.size) :
    Calls Tryz.prog 44 #[.int .i64 23] w (FormR D .non (.some 2 .target) P w) := by
  have hU := Up.start h0 hp0 hp1
  go_enter Tryz.func44, Tryz.ntmps44
  go_wp2_with fail
  go_at_call 61
  refine (textQ_ok (w := w) (Q := (fun k => k = w.heap.size ∨ k = P)) (fun k hk => by have := hU.p1; omega) signsL 8 _ _ rfl (by decide) (by decide) rfl).mono ?_
  rintro e w0t ⟨⟨vt, rfl, hvt⟩, hbt⟩
  have hU := (hU.alloc _).call hbt
  obtain ⟨gt, cpt, hve, _⟩ := id hvt
  subst hve
  go_wp2_with fail
  go_at_call 65
  refine (someQ_ok (D := D) hU.q _ _ 2 (qTarget hRi (hU.tabs hT)) (by decide)).mono ?_
  rintro e w1 ⟨⟨v1, rfl, hv1⟩, hb1⟩
  have hvt := hvt.later hb1
  have hU := hU.call hb1
  obtain ⟨g1, cp1, hve, _⟩ := id hv1
  subst hve
  obtain ⟨_, _, _, _, hsz, r0, r1, z0, z1⟩ := id hU
  go_wp2
  exact bodyPost_ret (v := .agg #[.func (.func 62) #[] #[], .func (.func g1) #[] cp1]) (by simp [results, Tryz.results44, go_sem, r0, r1, z0, z1]) rfl (FormR.put hU textQ_non hv1)
end
section
set_option linter.unusedVariables false
set_option linter.unusedSimpArgs false
open Go.RowKit
set_option maxRecDepth 1000000
set_option maxHeartbeats 4000000 in
theorem fm31 (D : Nat) (hRi : RightOk D) (w0 w : World) (P : Nat) (hT : Lib.Utf8Tabs 0 1 w0) (h0 : Below w0.heap.size w0 w) (hp0 : w0.heap.size ≤ P) (hp1 : P ≤ w.heap.size) :
    Calls Tryz.prog 79 #[.int .i64 31] w (FormR D .name (.row []) P w) := by
  have hU := Up.start h0 hp0 hp1
  go_enter Tryz.func79, Tryz.ntmps79
  go_wp2_with fail
  go_at_call 63
  refine (kidsQ_ok (D := D) hU.q [] 0 _ rfl (shapesQ_nil D _ none) (by unfold maxLen; omega)).mono ?_
  rintro e w1 ⟨⟨v1, rfl, hv1⟩, hb1⟩
  have hU := hU.call hb1
  obtain ⟨g1, cp1, hve, _⟩ := id hv1
  subst hve
  obtain ⟨_, _, _, _, hsz, r0, r1, z0, z1⟩ := id hU
  go_wp2
  exact bodyPost_ret (v := .agg #[.func (.func 73) #[] #[], .func (.func g1) #[] cp1]) (by simp [results, Tryz.results79, go_sem, r0, r1, z0, z1]) rfl (FormR.put hU textQ_name hv1)
set_option maxHeartbeats 4000000 in
theorem fm32 (D : Nat) (hRi : RightOk D) (w0 w : World) (P : Nat) (hT : Lib.Utf8Tabs 0 1 w0) (h0 : Below w0.heap.size w0 w) (hp0 : w0.heap.size ≤ P) (hp1 : P ≤ w.heap.size) :
    Calls Tryz.prog 79 #[.int .i64 32] w (FormR D .non (.row []) P w) := by
  have hU := Up.start h0 hp0 hp1
  go_enter Tryz.func79, Tryz.ntmps79
  go_wp2_with fail
  go_at_call 63
  refine (kidsQ_ok (D := D) hU.q [] 0 _ rfl (shapesQ_nil D _ none) (by unfold maxLen; omega)).mono ?_
  rintro e w1 ⟨⟨v1, rfl, hv1⟩, hb1⟩
  have hU := hU.call hb1
  obtain ⟨g1, cp1, hve, _⟩ := id hv1
  subst hve
  obtain ⟨_, _, _, _, hsz, r0, r1, z0, z1⟩ := id hU
  go_wp2
  exact bodyPost_ret (v := .agg #[.func (.func 62) #[] #[], .func (.func g1) #[] cp1]) (by simp [results, Tryz.results79, go_sem, r0, r1, z0, z1]) rfl (FormR.put hU textQ_non hv1)
set_option maxHeartbeats 4000000 in
theorem fm33 (D : Nat) (hRi : RightOk D) (w0 w : World) (P : Nat) (hT : Lib.Utf8Tabs 0 1 w0) (h0 : Below w0.heap.size w0 w) (hp0 : w0.heap.size ≤ P) (hp1 : P ≤ w.heap.size) :
    Calls Tryz.prog 79 #[.int .i64 33] w (FormR D .good (.row []) P w) := by
  have hU := Up.start h0 hp0 hp1
  go_enter Tryz.func79, Tryz.ntmps79
  go_wp2_with fail
  go_at_call 63
  refine (kidsQ_ok (D := D) hU.q [] 0 _ rfl (shapesQ_nil D _ none) (by unfold maxLen; omega)).mono ?_
  rintro e w1 ⟨⟨v1, rfl, hv1⟩, hb1⟩
  have hU := hU.call hb1
  obtain ⟨g1, cp1, hve, _⟩ := id hv1
  subst hve
  obtain ⟨_, _, _, _, hsz, r0, r1, z0, z1⟩ := id hU
  go_wp2
  exact bodyPost_ret (v := .agg #[.func (.func 137) #[] #[], .func (.func g1) #[] cp1]) (by simp [results, Tryz.results79, go_sem, r0, r1, z0, z1]) rfl (FormR.put hU (textQ_good (hU.tabs hT)) hv1)
set_option maxHeartbeats 4000000 in
theorem fm34 (D : Nat) (hRi : RightOk D) (w0 w : World) (P : Nat) (hT : Lib.Utf8Tabs 0 1 w0) (h0 : Below w0.heap.size w0 w) (hp0 : w0.heap.size ≤ P) (hp1 : P ≤ w.heap.size) :
    Calls Tryz.prog 79 #[.int .i64 34] w (FormR D (.words constsL) (.row []) P w) := by
  have hU := Up.start h0 hp0 hp1
  go_enter Tryz.func79, Tryz.ntmps79
  go_wp2_with fail
  go_at_call 61
  refine (textQ_ok (w := w) (Q := (fun k => k = w.heap.size ∨ k = P)) (fun k hk => by have := hU.p1; omega) constsL 3 _ _ rfl (by decide) (by decide) rfl).mono ?_
  rintro e w0t ⟨⟨vt, rfl, hvt⟩, hbt⟩
  have hU := (hU.alloc _).call hbt
  obtain ⟨gt, cpt, hve, _⟩ := id hvt
  subst hve
  go_wp2_with fail
  go_at_call 63
  refine (kidsQ_ok (D := D) hU.q [] 0 _ rfl (shapesQ_nil D _ none) (by unfold maxLen; omega)).mono ?_
  rintro e w1 ⟨⟨v1, rfl, hv1⟩, hb1⟩
  have hvt := hvt.later hb1
  have hU := hU.call hb1
  obtain ⟨g1, cp1, hve, _⟩ := id hv1
  subst hve
  obtain ⟨_, _, _, _, hsz, r0, r1, z0, z1⟩ := id hU
  go_wp2
  exact bodyPost_ret (v := .agg #[.func (.func gt) #[] cpt, .func (.func g1) #[] cp1]) (by simp [results, Tryz.results79, go_sem, r0, r1, z0, z1]) rfl (FormR.put hU hvt hv1)
set_option maxHeartbeats 4000000 in
theorem fm35 (D : Nat) (hRi : RightOk D) (w0 w : World) (P : Nat) (hT : Lib.Utf8Tabs 0 1 w0) (h0 : Below w0.heap.size w0 w) (hp0 : w0.heap.size ≤ P) (hp1 : P ≤ w.heap.size) :
    Calls Tryz.prog 79 #[.int .i64 35] w (FormR D .non (.some 0 .expr) P w) := by
  have hU := Up.start h0 hp0 hp1
  go_enter Tryz.func79, Tryz.ntmps79
  go_wp2_with fail
  go_at_call 65
  refine (someQ_ok (D := D) hU.q _ _ 0 (qExpr hRi (hU.tabs hT)) (by decide)).mono ?_
  rintro e w1 ⟨⟨v1, rfl, hv1⟩, hb1⟩
  have hU := hU.call hb1
  obtain ⟨g1, cp1, hve, _⟩ := id hv1
  subst hve
  obtain ⟨_, _, _, _, hsz, r0, r1, z0, z1⟩ := id hU
  go_wp2
  exact bodyPost_ret (v := .agg #[.func (.func 62) #[] #[], .func (.func g1) #[] cp1]) (by simp [results, Tryz.results79, go_sem, r0, r1, z0, z1]) rfl (FormR.put hU textQ_non hv1)
set_option maxHeartbeats 4000000 in
theorem fm36 (D : Nat) (hRi : RightOk D) (w0 w : World) (P : Nat) (hT : Lib.Utf8Tabs 0 1 w0) (h0 : Below w0.heap.size w0 w) (hp0 : w0.heap.size ≤ P) (hp1 : P ≤ w.heap.size) :
    Calls Tryz.prog 79 #[.int .i64 36] w (FormR D .non (.some 0 .expr) P w) := by
  have hU := Up.start h0 hp0 hp1
  go_enter Tryz.func79, Tryz.ntmps79
  go_wp2_with fail
  go_at_call 65
  refine (someQ_ok (D := D) hU.q _ _ 0 (qExpr hRi (hU.tabs hT)) (by decide)).mono ?_
  rintro e w1 ⟨⟨v1, rfl, hv1⟩, hb1⟩
  have hU := hU.call hb1
  obtain ⟨g1, cp1, hve, _⟩ := id hv1
  subst hve
  obtain ⟨_, _, _, _, hsz, r0, r1, z0, z1⟩ := id hU
  go_wp2
  exact bodyPost_ret (v := .agg #[.func (.func 62) #[] #[], .func (.func g1) #[] cp1]) (by simp [results, Tryz.results79, go_sem, r0, r1, z0, z1]) rfl (FormR.put hU textQ_non hv1)
end
section
set_option linter.unusedVariables false
set_option linter.unusedSimpArgs false
open Go.RowKit
set_option maxRecDepth 1000000
set_option maxHeartbeats 4000000 in
theorem fm37 (D : Nat) (hRi : RightOk D) (w0 w : World) (P : Nat) (hT : Lib.Utf8Tabs 0 1 w0) (h0 : Below w0.heap.size w0 w) (hp0 : w0.heap.size ≤ P) (hp1 : P ≤ w.heap.size) :
    Calls Tryz.prog 79 #[.int .i64 37] w (FormR D .non (.some 1 .expr) P w) := by
  have hU := Up.start h0 hp0 hp1
  go_enter Tryz.func79, Tryz.ntmps79
  go_wp2_with fail
  go_at_call 65
  refine (someQ_ok (D := D) hU.q _ _ 1 (qExpr hRi (hU.tabs hT)) (by decide)).mono ?_
  rintro e w1 ⟨⟨v1, rfl, hv1⟩, hb1⟩
  have hU := hU.call hb1
  obtain ⟨g1, cp1, hve, _⟩ := id hv1
  subst hve
  obtain ⟨_, _, _, _, hsz, r0, r1, z0, z1⟩ := id hU
  go_wp2
  exact bodyPost_ret (v := .agg #[.func (.func 62) #[] #[], .func (.func g1) #[] cp1]) (by simp [results, Tryz.results79, go_sem, r0, r1, z0, z1]) rfl (FormR.put hU textQ_non hv1)
set_option maxHeartbeats 4000000 in
theorem fm38 (D : Nat) (hRi : RightOk D) (w0 w : World) (P : Nat) (hT : Lib.Utf8Tabs 0 1 w0) (h0 : Below w0.heap.size w0 w) (hp0 : w0.heap.size ≤ P) (hp1 : P ≤ w.heap.size) :
    Calls Tryz.prog 79 #[.int .i64 38] w (FormR D .non (.some 0 (.or2 (.of 39) (.of 40))) P w) := by
  have hU := Up.start h0 hp0 hp1
  go_enter Tryz.func79, Tryz.ntmps79
  go_wp2_with fail
  go_at_call 64
  refine (ofQ_ok (D := D) hRi hU.q (hU.tabs hT) 39).mono ?_
  rintro e w1 ⟨⟨v1, rfl, hv1⟩, hb1⟩
  have hU := hU.call hb1
  obtain ⟨g1, cp1, hve, _⟩ := id hv1
  subst hve
  go_wp2_with fail
  go_at_call 64
  refine (ofQ_ok (D := D) hRi hU.q (hU.tabs hT) 40).mono ?_
  rintro e w2 ⟨⟨v2, rfl, hv2⟩, hb2⟩
  have hv1 := hv1.later hb2
  have hU := hU.call hb2
  obtain ⟨g2, cp2, hve, _⟩ := id hv2
  subst hve
  go_wp2_with fail
  have hS := shapesQ_two hU.q hv1 hv2 69
  try rw [show (w.alloc (.cells #[.nilFunc, .nilFunc] 71)).heap.size = w.heap.size + 1 by simp] at hS
  have hv1 := hv1.later ((Below.refl _ _).alloc (Nat.le_refl _) (.cells #[.func (.func g1) #[] cp1, .func (.func g2) #[] cp2] 69))
  have hv2 := hv2.later ((Below.refl _ _).alloc (Nat.le_refl _) (.cells #[.func (.func g1) #[] cp1, .func (.func g2) #[] cp2] 69))
  have hU := hU.alloc (.cells #[.func (.func g1) #[] cp1, .func (.func g2) #[] cp2] 69)
  go_at_call 69
  refine (or2Q_ok (D := D) hU.q (.of 39) (.of 40) _ hS).mono ?_
  rintro e w3 ⟨⟨v3, rfl, hv3⟩, hb3⟩
  have hv1 := hv1.later hb3
  have hv2 := hv2.later hb3
  have hU := hU.call hb3
  obtain ⟨g3, cp3, hve, _⟩ := id hv3
  subst hve
  go_wp2_with fail
  go_at_call 65
  refine (someQ_ok (D := D) hU.q _ _ 0 hv3 (by decide)).mono ?_
  rintro e w4 ⟨⟨v4, rfl, hv4⟩, hb4⟩
  have hv1 := hv1.later hb4
  have hv2 := hv2.later hb4
  have hv3 := hv3.later hb4
  have hU := hU.call hb4
  obtain ⟨g4, cp4, hve, _⟩ := id hv4
  subst hve
  obtain ⟨_, _, _, _, hsz, r0, r1, z0, z1⟩ := id hU
  go_wp2
  exact bodyPost_ret (v := .agg #[.func (.func 62) #[] #[], .func (.func g4) #[] cp4]) (by simp [results, Tryz.results79, go_sem, r0, r1, z0, z1]) rfl (FormR.put hU textQ_non hv4)
set_option maxHeartbeats 4000000 in
theorem fm39 (D : Nat) (hRi : RightOk D) (w0 w : World) (P : Nat) (hT : Lib.Utf8Tabs 0 1 w0) (h0 : Below w0.heap.size w0 w) (hp0 : w0.heap.size ≤ P) (hp1 : P ≤ w.heap.size) :
    Calls Tryz.prog 79 #[.int .i64 39] w (FormR D .non (.row [.expr, .expr]) P w) := by
  have hU := Up.start h0 hp0 hp1
  go_enter Tryz.func79, Tryz.ntmps79
  go_wp2_with fail
  have hS := shapesQ_two hU.q (qExpr hRi (hU.tabs hT)) (qExpr hRi (hU.tabs hT)) 69
  try rw [show (w.alloc (.cells #[.nilFunc, .nilFunc] 71)).heap.size = w.heap.size + 1 by simp] at hS
  have hU := hU.alloc (.cells #[.func (.func 67) #[] #[], .func (.func 67) #[] #[]] 69)
  go_at_call 63
  refine (kidsQ_ok (D := D) hU.q [Sh.ev Nd.right .expr, Sh.ev Nd.right .expr] 2 _ rfl hS (by unfold maxLen; omega)).mono ?_
  rintro e w1 ⟨⟨v1, rfl, hv1⟩, hb1⟩
  have hU := hU.call hb1
  obtain ⟨g1, cp1, hve, _⟩ := id hv1
  subst hve
  obtain ⟨_, _, _, _, hsz, r0, r1, z0, z1⟩ := id hU
  go_wp2
  exact bodyPost_ret (v := .agg #[.func (.func 62) #[] #[], .func (.func g1) #[] cp1]) (by simp [results, Tryz.results79, go_sem, r0, r1, z0, z1]) rfl (FormR.put hU textQ_non hv1)
set_option maxHeartbeats 4000000 in
theorem fm45 (D : Nat) (hRi : RightOk D) (w0 w : World) (P : Nat) (hT : Lib.Utf8Tabs 0 1 w0) (h0 : Below w0.heap.size w0 w) (hp0 : w0.heap.size ≤ P) (hp1 : P ≤ w.heap.size) :
    Calls Tryz.prog 79 #[.int .i64 45] w (FormR D .non (.row [.expr, .expr]) P w) := by
  have hU := Up.start h0 hp0 hp1
  go_enter Tryz.func79, Tryz.ntmps79
  go_wp2_with fail
  have hS := shapesQ_two hU.q (qExpr hRi (hU.tabs hT)) (qExpr hRi (hU.tabs hT)) 69
  try rw [show (w.alloc (.cells #[.nilFunc, .nilFunc] 71)).heap.size = w.heap.size + 1 by simp] at hS
  have hU := hU.alloc (.cells #[.func (.func 67) #[] #[], .func (.func 67) #[] #[]] 69)
  go_at_call 63
  refine (kidsQ_ok (D := D) hU.q [Sh.ev Nd.right .expr, Sh.ev Nd.right .expr] 2 _ rfl hS (by unfold maxLen; omega)).mono ?_
  rintro e w1 ⟨⟨v1, rfl, hv1⟩, hb1⟩
  have hU := hU.call hb1
  obtain ⟨g1, cp1, hve, _⟩ := id hv1
  subst hve
  obtain ⟨_, _, _, _, hsz, r0, r1, z0, z1⟩ := id hU
  go_wp2
  exact bodyPost_ret (v := .agg #[.func (.func 62) #[] #[], .func (.func g1) #[] cp1]) (by simp [results, Tryz.results79, go_sem, r0, r1, z0, z1]) rfl (FormR.put hU textQ_non hv1)
set_option maxHeartbeats 4000000 in
theorem fm46 (D : Nat) (hRi : RightOk D) (w0 w : World) (P : Nat) (hT : Lib.Utf8Tabs 0 1 w0) (h0 : Below w0.heap.size w0 w) (hp0 : w0.heap.size ≤ P) (hp1 : P ≤ w.heap.size) :
    Calls Tryz.prog 79 #[.int .i64 46] w (FormR D .non (.row [.expr, .expr]) P w) := by
  have hU := Up.start h0 hp0 hp1
  go_enter Tryz.func79, Tryz.ntmps79
  go_wp2_with fail
  have hS := shapesQ_two hU.q (qExpr hRi (hU.tabs hT)) (qExpr hRi (hU.tabs hT)) 69
  try rw [show (w.alloc (.cells #[.nilFunc, .nilFunc] 71)).heap.size = w.heap.size + 1 by simp] at hS
  have hU := hU.alloc (.cells #[.func (.func 67) #[] #[], .func (.func 67) #[] #[]] 69)
  go_at_call 63
  refine (kidsQ_ok (D := D) hU.q [Sh.ev Nd.right .expr, Sh.ev Nd.right .expr] 2 _ rfl hS (by unfold maxLen; omega)).mono ?_
  rintro e w1 ⟨⟨v1, rfl, hv1⟩, hb1⟩
  have hU := hU.call hb1
  obtain ⟨g1, cp1, hve, _⟩ := id hv1
  subst hve
  obtain ⟨_, _, _, _, hsz, r0, r1, z0, z1⟩ := id hU
  go_wp2
  exact bodyPost_ret (v := .agg #[.func (.func 62) #[] #[], .func (.func g1) #[] cp1]) (by simp [results, Tryz.results79, go_sem, r0, r1, z0, z1]) rfl (FormR.put hU textQ_non hv1)
set_option maxHeartbeats 4000000 in
theorem fm54 (D : Nat) (hRi : RightOk D) (w0 w : World) (P : Nat) (hT : Lib.Utf8Tabs 0 1 w0) (h0 : Below w0.heap.size w0 w) (hp0 : w0.heap.size ≤ P) (hp1 : P ≤ w.heap.size) :
    Calls Tryz.prog 79 #[.int .i64 54] w (FormR D .non (.row [.expr, .expr]) P w) := by
  have hU := Up.start h0 hp0 hp1
  go_enter Tryz.func79, Tryz.ntmps79
  go_wp2_with fail
  have hS := shapesQ_two hU.q (qExpr hRi (hU.tabs hT)) (qExpr hRi (hU.tabs hT)) 69
  try rw [show (w.alloc (.cells #[.nilFunc, .nilFunc] 71)).heap.size = w.heap.size + 1 by simp] at hS
  have hU := hU.alloc (.cells #[.func (.func 67) #[] #[], .func (.func 67) #[] #[]] 69)
  go_at_call 63
  refine (kidsQ_ok (D := D) hU.q [Sh.ev Nd.right .expr, Sh.ev Nd.right .expr] 2 _ rfl hS (by unfold maxLen; omega)).mono ?_
  rintro e w1 ⟨⟨v1, rfl, hv1⟩, hb1⟩
  have hU := hU.call hb1
  obtain ⟨g1, cp1, hve, _⟩ := id hv1
  subst hve
  obtain ⟨_, _, _, _, hsz, r0, r1, z0, z1⟩ := id hU
  go_wp2
  exact bodyPost_ret (v := .agg #[.func (.func 62) #[] #[], .func (.func g1) #[] cp1]) (by simp [results, Tryz.results79, go_sem, r0, r1, z0, z1]) rfl (FormR.put hU textQ_non hv1)
end
end Go.Proofs.YtjefhdlncikhmaaGreatDoor
