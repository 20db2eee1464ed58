/- Joined by a program: PaF. -/
import Derived.Test.YtjndbcnmmnkilaaGreatDoorPF02
namespace Go.Proofs.YtjndbcnmmnkilaaGreatDoor
set_option linter.unusedVariables false
set_option linter.unusedSimpArgs false
set_option maxRecDepth 1000000
set_option maxHeartbeats 16000000
section
open List (length_append length_cons length_nil length_singleton)
structure Two (x y : List Tok) (e1 e2 : Int) (n : Nat) : Prop where
 le : n ≤ x.length
 al : ∀ j, j < n → x[j]? = y[j]?
 px : ∀ (j : Nat) (t : Tok), x[j]? = some t → t.pos = (j : Int)
 e1 : (x.length : Int) ≤ e1 + 1
section
variable {x y : List Tok} {e1 e2 : Int} {n : Nat}
theorem hd_get (e : Int) {l : List Tok} {j : Nat} {t : Tok} (h : l[j]? = some t) : hd e (l.drop j) = t := by
 obtain ⟨hl, h⟩ := List.getElem?_eq_some_iff.1 h
 rw [List.drop_eq_getElem_cons hl, h]; rfl
theorem Two.hd (h : Two x y e1 e2 n) {j : Nat} (hj : j < n) : Go.Proofs.YtjndbcnmmnkilaaGreatDoor.hd e2 (y.drop j) = Go.Proofs.YtjndbcnmmnkilaaGreatDoor.hd e1 (x.drop j) := by
 have hx : x[j]? = some (x[j]'(by have := h.le; omega)) := List.getElem?_eq_getElem _
 rw [hd_get e1 hx, hd_get e2 ((h.al j hj).symm.trans hx)]
theorem Two.isS (h : Two x y e1 e2 n) {j : Nat} (hj : j < n) (s : ByteArray) : Go.Proofs.YtjndbcnmmnkilaaGreatDoor.isS e2 s (y.drop j) = Go.Proofs.YtjndbcnmmnkilaaGreatDoor.isS e1 s (x.drop j) := by unfold Go.Proofs.YtjndbcnmmnkilaaGreatDoor.isS; rw [h.hd hj]
theorem Two.isW (h : Two x y e1 e2 n) {j : Nat} (hj : j < n) (s : ByteArray) : Go.Proofs.YtjndbcnmmnkilaaGreatDoor.isW e2 s (y.drop j) = Go.Proofs.YtjndbcnmmnkilaaGreatDoor.isW e1 s (x.drop j) := by unfold Go.Proofs.YtjndbcnmmnkilaaGreatDoor.isW; rw [h.hd hj]
theorem Two.isN (h : Two x y e1 e2 n) {j : Nat} (hj : j < n) : Go.Proofs.YtjndbcnmmnkilaaGreatDoor.isN (y.drop j) = Go.Proofs.YtjndbcnmmnkilaaGreatDoor.isN (x.drop j) := by
 have hx : x[j]? = some (x[j]'(by have := h.le; omega)) := List.getElem?_eq_getElem _
 unfold Go.Proofs.YtjndbcnmmnkilaaGreatDoor.isN; rw [hd_get 0 hx, hd_get 0 ((h.al j hj).symm.trans hx)]
theorem Two.begins (h : Two x y e1 e2 n) {j : Nat} (hj : j < n) : Go.Proofs.YtjndbcnmmnkilaaGreatDoor.begins e2 (y.drop j) = Go.Proofs.YtjndbcnmmnkilaaGreatDoor.begins e1 (x.drop j) := by unfold Go.Proofs.YtjndbcnmmnkilaaGreatDoor.begins; simp only [h.hd hj, h.isS hj, h.isW hj]
end
section
variable (x y : List Tok) (n : Nat)
def Sm {α : Type} (k : Nat) (R1 R2 : Rs α) : Prop :=
 (∀ a l, R1 = .ok a l → ∃ k', k ≤ k' ∧ l = x.drop k' ∧ (k' + 2 ≤ n → R2 = .ok a (y.drop k'))) ∧
 ∀ p, R1 = .bad 106 p → ((k : Int) ≤ p ∨ (x.length : Int) ≤ p + 1) ∧ (p + 2 ≤ (n : Int) → R2 = .bad 106 p)
end
section
variable {x y : List Tok} {e1 e2 : Int} {n : Nat} {α β : Type}
theorem Sm.ok {k k' : Nat} {a b : α} (hk : k ≤ k') (h : k' + 2 ≤ n → b = a) : Sm x y n k (Rs.ok a (x.drop k')) (Rs.ok b (y.drop k')) := by
 refine ⟨fun a' l e => ?_, fun p e => by cases e⟩
 cases e
 exact ⟨k', hk, rfl, fun hh => by rw [h hh]⟩
theorem Sm.badC {k : Nat} {c p : Int} {R2 : Rs α} (hc : c ≠ 106) : Sm x y n k (Rs.bad c p : Rs α) R2 := ⟨(fun a l e => by cases e), fun q e => by cases e; exact absurd rfl hc⟩
theorem Sm.oof {k : Nat} {R2 : Rs α} : Sm x y n k (Rs.oof : Rs α) R2 := ⟨(fun a l e => by cases e), fun q e => by cases e⟩
theorem Sm.badH (hT : Two x y e1 e2 n) {k k' : Nat} (hk : k ≤ k') : Sm x y n k (Rs.bad 106 (hd e1 (x.drop k')).pos : Rs α) (Rs.bad 106 (hd e2 (y.drop k')).pos) := by
 refine ⟨(fun a l e => by cases e), fun p e => ?_⟩
 injection e with _ e
 by_cases hl : k' < x.length
 ·have hx : x[k']? = some x[k'] := List.getElem?_eq_getElem hl; rw [hd_get e1 hx, hT.px k' _ hx] at e; subst e
  refine ⟨.inl lq17, fun hh => ?_⟩
  rw [hT.hd (show k' < n by omega), hd_get e1 hx, hT.px k' _ hx]
 ·rw [List.drop_eq_nil_of_le lq17] at e; have e : e1 = p := e; have := hT.le; have := hT.e1; exact ⟨.inr lq17, fun hh => absurd hh lq17⟩
theorem Sm.sub {k : Nat} {R1 R2 R3 : Rs α} (hle : n ≤ x.length) (h : k + 2 ≤ n → R2 = R3) (h' : Sm x y n k R1 R3) : Sm x y n k R1 R2 := by
 by_cases hk : k + 2 ≤ n
 ·rw [h hk]; exact h'
 ·refine ⟨fun a l e => ?_, fun p e => ?_⟩
  ·obtain ⟨k', h1, h2, _⟩ := h'.1 a l e; exact ⟨k', h1, h2, fun hh => absurd hh lq17⟩
  ·obtain ⟨h1, _⟩ := h'.2 p e; exact ⟨h1, fun hh => absurd hh lq17⟩
theorem Sm.to {k k' : Nat} {R1 R2 : Rs α} (hk : k ≤ k') (h : Sm x y n k' R1 R2) : Sm x y n k R1 R2 := by
 refine ⟨fun a l e => ?_, fun p e => ?_⟩
 ·obtain ⟨j, h1, h2⟩ := h.1 a l e; exact ⟨j, by omega, h2⟩
 ·obtain ⟨h1, h2⟩ := h.2 p e; exact ⟨by omega, h2⟩
theorem Sm.bind {k : Nat} {R1 R2 : Rs α} {f1 f2 : α → List Tok → Rs β} (hle : n ≤ x.length) (h : Sm x y n k R1 R2) (hf : ∀ a k', k ≤ k' → Sm x y n k' (f1 a (x.drop k')) (f2 a (y.drop k'))) : Sm x y n k (R1.bind f1) (R2.bind f2) := by
 cases R1 with
 | oof => exact Sm.oof
 | bad c p =>
  refine ⟨(fun a l e => by cases e), fun q e => ?_⟩
  injection e with e1 e2
  subst e1 e2; obtain ⟨h1, h2⟩ := h.2 _ rfl; exact ⟨h1, fun hh => by rw [h2 hh]; rfl⟩
 | ok a l =>
  obtain ⟨k', h1, rfl, h3⟩ := h.1 a l rfl
  refine Sm.to h1 (Sm.sub hle (R3 := f2 a (y.drop k')) (fun hh => by rw [h3 hh]; rfl) (hf a k' h1))
theorem Sm.iteB {k : Nat} {b1 b2 : Bool} {A1 B1 A2 B2 : Rs α} (hle : n ≤ x.length) (hc : k + 2 ≤ n → b2 = b1) (h1 : Sm x y n k A1 A2) (h2 : Sm x y n k B1 B2) : Sm x y n k (if b1 then A1 else B1) (if b2 then A2 else B2) := by
 refine Sm.sub hle (R3 := if b1 then A2 else B2) (fun hh => by rw [hc hh]) ?_
 cases b1
 ·exact h2
 ·exact h1
theorem Sm.iteP {k : Nat} {b1 b2 : Prop} [Decidable b1] [Decidable b2] {A1 B1 A2 B2 : Rs α} (hle : n ≤ x.length) (hc : k + 2 ≤ n → (b2 ↔ b1)) (h1 : Sm x y n k A1 A2) (h2 : Sm x y n k B1 B2) : Sm x y n k (if b1 then A1 else B1) (if b2 then A2 else B2) := by
 refine Sm.sub hle (R3 := if b1 then A2 else B2) (fun hh => by simp only [hc hh]) ?_
 split
 ·exact h1
 ·exact h2
theorem Sm.call {k k' : Nat} {R1 R2 R3 : Rs α} (hle : n ≤ x.length) (hk : k ≤ k') (h' : Sm x y n k' R1 R3) (h : k + 2 ≤ n → R2 = R3) : Sm x y n k R1 R2 := Sm.sub hle h (Sm.to hk h')
end
section
variable (x y : List Tok) (n : Nat)
structure FA (p1 p2 : Ps) : Prop where
 f_expr : ∀ (k' : Nat), Sm x y n k' (p1.qexpr (x.drop k')) (p2.qexpr (y.drop k'))
 f_or : ∀ (k' : Nat), Sm x y n k' (p1.qor (x.drop k')) (p2.qor (y.drop k'))
 f_orL : ∀ (n_1 : Nd) (k' : Nat), Sm x y n k' (p1.qorL n_1 (x.drop k')) (p2.qorL n_1 (y.drop k'))
 f_and : ∀ (k' : Nat), Sm x y n k' (p1.qand (x.drop k')) (p2.qand (y.drop k'))
 f_andL : ∀ (n_1 : Nd) (k' : Nat), Sm x y n k' (p1.qandL n_1 (x.drop k')) (p2.qandL n_1 (y.drop k'))
 f_not : ∀ (k' : Nat), Sm x y n k' (p1.qnot (x.drop k')) (p2.qnot (y.drop k'))
 f_compare : ∀ (k' : Nat), Sm x y n k' (p1.qcompare (x.drop k')) (p2.qcompare (y.drop k'))
 f_row : ∀ (k_1 : Nat) (k' : Nat), Sm x y n k' (p1.qrow k_1 (x.drop k')) (p2.qrow k_1 (y.drop k'))
 f_rowL : ∀ (k_1 : Nat) (n_1 : Nd) (k' : Nat), Sm x y n k' (p1.qrowL k_1 n_1 (x.drop k')) (p2.qrowL k_1 n_1 (y.drop k'))
 f_minus : ∀ (k' : Nat), Sm x y n k' (p1.qminus (x.drop k')) (p2.qminus (y.drop k'))
 f_postfix : ∀ (k' : Nat), Sm x y n k' (p1.qpostfix (x.drop k')) (p2.qpostfix (y.drop k'))
 f_postL : ∀ (n_1 : Nd) (k' : Nat), Sm x y n k' (p1.qpostL n_1 (x.drop k')) (p2.qpostL n_1 (y.drop k'))
 f_args : ∀ (st_1 : Nat) (ks_1 : List Nd) (k' : Nat), Sm x y n k' (p1.qargs st_1 ks_1 (x.drop k')) (p2.qargs st_1 ks_1 (y.drop k'))
 f_exprs : ∀ (k' : Nat), Sm x y n k' (p1.qexprs (x.drop k')) (p2.qexprs (y.drop k'))
 f_rest : ∀ (ks_1 : List Nd) (k' : Nat), Sm x y n k' (p1.qrest ks_1 (x.drop k')) (p2.qrest ks_1 (y.drop k'))
 f_atom : ∀ (k' : Nat), Sm x y n k' (p1.qatom (x.drop k')) (p2.qatom (y.drop k'))
 f_round : ∀ (at__1 : Int) (k' : Nat), Sm x y n k' (p1.qround at__1 (x.drop k')) (p2.qround at__1 (y.drop k'))
 f_comp : ∀ (n_1 : Nd) (k' : Nat), Sm x y n k' (p1.qcomp n_1 (x.drop k')) (p2.qcomp n_1 (y.drop k'))
 f_compL : ∀ (ks_1 : List Nd) (k' : Nat), Sm x y n k' (p1.qcompL ks_1 (x.drop k')) (p2.qcompL ks_1 (y.drop k'))
 f_square : ∀ (at__1 : Int) (k' : Nat), Sm x y n k' (p1.qsquare at__1 (x.drop k')) (p2.qsquare at__1 (y.drop k'))
 f_pair : ∀ (k_1 : Nd) (k' : Nat), Sm x y n k' (p1.qpair k_1 (x.drop k')) (p2.qpair k_1 (y.drop k'))
 f_item : ∀ (k' : Nat), Sm x y n k' (p1.qitem (x.drop k')) (p2.qitem (y.drop k'))
 f_items : ∀ (ks_1 : List Nd) (k' : Nat), Sm x y n k' (p1.qitems ks_1 (x.drop k')) (p2.qitems ks_1 (y.drop k'))
 f_curly : ∀ (at__1 : Int) (k' : Nat), Sm x y n k' (p1.qcurly at__1 (x.drop k')) (p2.qcurly at__1 (y.drop k'))
 f_targets : ∀ (k' : Nat), Sm x y n k' (p1.qtargets (x.drop k')) (p2.qtargets (y.drop k'))
 f_targL : ∀ (ks_1 : List Nd) (k' : Nat), Sm x y n k' (p1.qtargL ks_1 (x.drop k')) (p2.qtargL ks_1 (y.drop k'))
 f_assign : ∀ (at__1 : Int) (k' : Nat), Sm x y n k' (p1.qassign at__1 (x.drop k')) (p2.qassign at__1 (y.drop k'))
 f_names : ∀ (ks_1 : List Nd) (k' : Nat), Sm x y n k' (p1.qnames ks_1 (x.drop k')) (p2.qnames ks_1 (y.drop k'))
 f_simple : ∀ (at__1 : Int) (k' : Nat), Sm x y n k' (p1.qsimple at__1 (x.drop k')) (p2.qsimple at__1 (y.drop k'))
 f_block : ∀ (k' : Nat), Sm x y n k' (p1.qblock (x.drop k')) (p2.qblock (y.drop k'))
 f_stmts : ∀ (k_1 : Int) (ks_1 : List Nd) (k' : Nat), Sm x y n k' (p1.qstmts k_1 ks_1 (x.drop k')) (p2.qstmts k_1 ks_1 (y.drop k'))
 f_choice : ∀ (at__1 : Int) (k' : Nat), Sm x y n k' (p1.qchoice at__1 (x.drop k')) (p2.qchoice at__1 (y.drop k'))
 f_params : ∀ (given_1 : Bool) (ks_1 : List Nd) (k' : Nat), Sm x y n k' (p1.qparams given_1 ks_1 (x.drop k')) (p2.qparams given_1 ks_1 (y.drop k'))
 f_excepts : ∀ (bare_1 : Bool) (ks_1 : List Nd) (k' : Nat), Sm x y n k' (p1.qexcepts bare_1 ks_1 (x.drop k')) (p2.qexcepts bare_1 ks_1 (y.drop k'))
 f_stmt : ∀ (k' : Nat), Sm x y n k' (p1.qstmt (x.drop k')) (p2.qstmt (y.drop k'))
end
section
variable {x y : List Tok} {e1 e2 : Int} {n : Nat} {p1 p2 : Ps} (hT : Two x y e1 e2 n) (h : FA x y n p1 p2)
include hT
theorem need_S (s : ByteArray) (k : Nat) : Sm x y n k (needS e1 s (x.drop k)) (needS e2 s (y.drop k)) := by
 unfold needS
 rw [List.tail_drop, List.tail_drop]
 exact Sm.iteB hT.le (fun hh => hT.isS lq17 s) (Sm.ok lq17 (fun _ => rfl)) (Sm.badH hT (Nat.le_refl _))
theorem need_W (s : ByteArray) (k : Nat) : Sm x y n k (needW e1 s (x.drop k)) (needW e2 s (y.drop k)) := by
 unfold needW
 rw [List.tail_drop, List.tail_drop]
 exact Sm.iteB hT.le (fun hh => hT.isW lq17 s) (Sm.ok lq17 (fun _ => rfl)) (Sm.badH hT (Nat.le_refl _))
theorem need_K (s : Int) (k : Nat) : Sm x y n k (needK e1 s (x.drop k)) (needK e2 s (y.drop k)) := by
 unfold needK
 rw [List.tail_drop, List.tail_drop]
 exact Sm.iteP hT.le (fun hh => by rw [hT.hd lq17]) (Sm.ok lq17 (fun _ => rfl)) (Sm.badH hT (Nat.le_refl _))
theorem tok_N (nameB : ByteArray → Bool) (k : Nat) : Sm x y n k (tokN nameB e1 (x.drop k)) (tokN nameB e2 (y.drop k)) := by
 unfold tokN
 rw [List.tail_drop, List.tail_drop]
 exact Sm.iteP hT.le (fun hh => by rw [hT.hd lq17]) (Sm.sub hT.le (fun hh => by rw [hT.hd lq17]) (Sm.ok lq17 (fun _ => rfl))) (Sm.badH hT (Nat.le_refl _))
theorem tok_B (nameB : ByteArray → Bool) (k : Nat) {β : Type} {f1 f2 : Tok → List Tok → Rs β} (hf : ∀ t, Sm x y n k (f1 t (x.drop (k + 1))) (f2 t (y.drop (k + 1)))) : Sm x y n k ((tokN nameB e1 (x.drop k)).bind f1) ((tokN nameB e2 (y.drop k)).bind f2) := by
 unfold tokN
 rw [List.tail_drop, List.tail_drop]
 by_cases hk : k + 2 ≤ n
 ·rw [hT.hd (show k < n by omega)]
  split
  ·exact hf _
  ·have := Sm.badH (α := β) hT (Nat.le_refl k); rw [hT.hd (show k < n by omega)] at this; exact this
 ·split
  ·exact Sm.sub hT.le (fun hh => absurd hh hk) (hf _)
  ·exact Sm.sub hT.le (fun hh => absurd hh hk) (Sm.badH hT (Nat.le_refl k))
omit hT in
theorem ok_ite {α : Type} (b : Bool) (a : α) (l1 l2 : List Tok) : Rs.ok a (if b then l1 else l2) = if b then Rs.ok a l1 else Rs.ok a l2 := by cases b <;> rfl
end
section
theorem eAF {p : Prop} (h : p := by
 repeat' first
  | (with_reducible exact Sm.badC lq16)
  | (with_reducible exact Sm.oof)
  | (with_reducible refine Sm.ok lq17 lq1; done)
  | (with_reducible exact Sm.badH hT lq17)
  | (with_reducible exact Sm.sub hT.le lq1 (Sm.badH hT lq17))
  | ((with_reducible first | refine Sm.call hT.le lq17 (h.f_expr _) ?_ | refine Sm.call hT.le lq17 (h.f_or _) ?_ | refine Sm.call hT.le lq17 (h.f_orL _ _) ?_ | refine Sm.call hT.le lq17 (h.f_and _) ?_ | refine Sm.call hT.le lq17 (h.f_andL _ _) ?_ | refine Sm.call hT.le lq17 (h.f_not _) ?_ | refine Sm.call hT.le lq17 (h.f_compare _) ?_ | refine Sm.call hT.le lq17 (h.f_row _ _) ?_ | refine Sm.call hT.le lq17 (h.f_rowL _ _ _) ?_ | refine Sm.call hT.le lq17 (h.f_minus _) ?_ | refine Sm.call hT.le lq17 (h.f_postfix _) ?_ | refine Sm.call hT.le lq17 (h.f_postL _ _) ?_ | refine Sm.call hT.le lq17 (h.f_args _ _ _) ?_ | refine Sm.call hT.le lq17 (h.f_exprs _) ?_ | refine Sm.call hT.le lq17 (h.f_rest _ _) ?_ | refine Sm.call hT.le lq17 (h.f_atom _) ?_ | refine Sm.call hT.le lq17 (h.f_round _ _) ?_ | refine Sm.call hT.le lq17 (h.f_comp _ _) ?_ | refine Sm.call hT.le lq17 (h.f_compL _ _) ?_ | refine Sm.call hT.le lq17 (h.f_square _ _) ?_ | refine Sm.call hT.le lq17 (h.f_pair _ _) ?_ | refine Sm.call hT.le lq17 (h.f_item _) ?_ | refine Sm.call hT.le lq17 (h.f_items _ _) ?_ | refine Sm.call hT.le lq17 (h.f_curly _ _) ?_ | refine Sm.call hT.le lq17 (h.f_targets _) ?_ | refine Sm.call hT.le lq17 (h.f_targL _ _) ?_ | refine Sm.call hT.le lq17 (h.f_assign _ _) ?_ | refine Sm.call hT.le lq17 (h.f_names _ _) ?_ | refine Sm.call hT.le lq17 (h.f_simple _ _) ?_ | refine Sm.call hT.le lq17 (h.f_block _) ?_ | refine Sm.call hT.le lq17 (h.f_stmts _ _ _) ?_ | refine Sm.call hT.le lq17 (h.f_choice _ _) ?_ | refine Sm.call hT.le lq17 (h.f_params _ _ _) ?_ | refine Sm.call hT.le lq17 (h.f_excepts _ _ _) ?_ | refine Sm.call hT.le lq17 (h.f_stmt _) ?_); exact lq1; done)
  | ((with_reducible first | refine Sm.bind hT.le (Sm.call hT.le lq17 (h.f_expr _) ?_) (fun a k' hk => ?_) | refine Sm.bind hT.le (Sm.call hT.le lq17 (h.f_or _) ?_) (fun a k' hk => ?_) | refine Sm.bind hT.le (Sm.call hT.le lq17 (h.f_orL _ _) ?_) (fun a k' hk => ?_) | refine Sm.bind hT.le (Sm.call hT.le lq17 (h.f_and _) ?_) (fun a k' hk => ?_) | refine Sm.bind hT.le (Sm.call hT.le lq17 (h.f_andL _ _) ?_) (fun a k' hk => ?_) | refine Sm.bind hT.le (Sm.call hT.le lq17 (h.f_not _) ?_) (fun a k' hk => ?_) | refine Sm.bind hT.le (Sm.call hT.le lq17 (h.f_compare _) ?_) (fun a k' hk => ?_) | refine Sm.bind hT.le (Sm.call hT.le lq17 (h.f_row _ _) ?_) (fun a k' hk => ?_) | refine Sm.bind hT.le (Sm.call hT.le lq17 (h.f_rowL _ _ _) ?_) (fun a k' hk => ?_) | refine Sm.bind hT.le (Sm.call hT.le lq17 (h.f_minus _) ?_) (fun a k' hk => ?_) | refine Sm.bind hT.le (Sm.call hT.le lq17 (h.f_postfix _) ?_) (fun a k' hk => ?_) | refine Sm.bind hT.le (Sm.call hT.le lq17 (h.f_postL _ _) ?_) (fun a k' hk => ?_) | refine Sm.bind hT.le (Sm.call hT.le lq17 (h.f_args _ _ _) ?_) (fun a k' hk => ?_) | refine Sm.bind hT.le (Sm.call hT.le lq17 (h.f_exprs _) ?_) (fun a k' hk => ?_) | refine Sm.bind hT.le (Sm.call hT.le lq17 (h.f_rest _ _) ?_) (fun a k' hk => ?_) | refine Sm.bind hT.le (Sm.call hT.le lq17 (h.f_atom _) ?_) (fun a k' hk => ?_) | refine Sm.bind hT.le (Sm.call hT.le lq17 (h.f_round _ _) ?_) (fun a k' hk => ?_) | refine Sm.bind hT.le (Sm.call hT.le lq17 (h.f_comp _ _) ?_) (fun a k' hk => ?_) | refine Sm.bind hT.le (Sm.call hT.le lq17 (h.f_compL _ _) ?_) (fun a k' hk => ?_) | refine Sm.bind hT.le (Sm.call hT.le lq17 (h.f_square _ _) ?_) (fun a k' hk => ?_) | refine Sm.bind hT.le (Sm.call hT.le lq17 (h.f_pair _ _) ?_) (fun a k' hk => ?_) | refine Sm.bind hT.le (Sm.call hT.le lq17 (h.f_item _) ?_) (fun a k' hk => ?_) | refine Sm.bind hT.le (Sm.call hT.le lq17 (h.f_items _ _) ?_) (fun a k' hk => ?_) | refine Sm.bind hT.le (Sm.call hT.le lq17 (h.f_curly _ _) ?_) (fun a k' hk => ?_) | refine Sm.bind hT.le (Sm.call hT.le lq17 (h.f_targets _) ?_) (fun a k' hk => ?_) | refine Sm.bind hT.le (Sm.call hT.le lq17 (h.f_targL _ _) ?_) (fun a k' hk => ?_) | refine Sm.bind hT.le (Sm.call hT.le lq17 (h.f_assign _ _) ?_) (fun a k' hk => ?_) | refine Sm.bind hT.le (Sm.call hT.le lq17 (h.f_names _ _) ?_) (fun a k' hk => ?_) | refine Sm.bind hT.le (Sm.call hT.le lq17 (h.f_simple _ _) ?_) (fun a k' hk => ?_) | refine Sm.bind hT.le (Sm.call hT.le lq17 (h.f_block _) ?_) (fun a k' hk => ?_) | refine Sm.bind hT.le (Sm.call hT.le lq17 (h.f_stmts _ _ _) ?_) (fun a k' hk => ?_) | refine Sm.bind hT.le (Sm.call hT.le lq17 (h.f_choice _ _) ?_) (fun a k' hk => ?_) | refine Sm.bind hT.le (Sm.call hT.le lq17 (h.f_params _ _ _) ?_) (fun a k' hk => ?_) | refine Sm.bind hT.le (Sm.call hT.le lq17 (h.f_excepts _ _ _) ?_) (fun a k' hk => ?_) | refine Sm.bind hT.le (Sm.call hT.le lq17 (h.f_stmt _) ?_) (fun a k' hk => ?_)); exact lq1; (try simp only [List.tail_drop]))
  | (with_reducible refine Sm.bind hT.le (Sm.to lq17 (need_S hT _ _)) (fun a k' hk => ?_); (try simp only [List.tail_drop]))
  | (with_reducible refine Sm.bind hT.le (Sm.to lq17 (need_W hT _ _)) (fun a k' hk => ?_); (try simp only [List.tail_drop]))
  | (with_reducible refine Sm.bind hT.le (Sm.to lq17 (need_K hT _ _)) (fun a k' hk => ?_); (try simp only [List.tail_drop]))
  | (with_reducible refine Sm.bind hT.le (Sm.to lq17 (tok_N hT _ _)) (fun a k' hk => ?_); (try simp only [List.tail_drop]))
  | (with_reducible refine Sm.iteB hT.le lq1 ?_ ?_)
  | (with_reducible refine Sm.iteP hT.le (by intro hh; first | exact Iff.rfl | (simp (disch := omega) only [hT.hd, hT.isS, hT.isW, hT.isN, hT.begins, List.tail_drop])) ?_ ?_)
  | (with_reducible refine Sm.bind hT.le (R1 := ite _ _ _) ?_ (fun a k' hk => ?_) <;> (try simp only [List.tail_drop]))
  | (with_reducible refine Sm.bind hT.le (R1 := Rs.bind _ _) ?_ (fun a k' hk => ?_) <;> (try simp only [List.tail_drop]))
  | split) : p := h
variable {x y : List Tok} {e1 e2 : Int} {n : Nat} {p1 p2 : Ps} (hT : Two x y e1 e2 n) (h : FA x y n p1 p2)
include hT
variable {nameB : ByteArray → Bool} {goodB : ByteArray → Bool} {numOf : ByteArray → Option (List Int)}
include h
theorem fa_expr (k : Nat) : Sm x y n k ((step nameB goodB numOf e1 p1).qexpr (x.drop k)) ((step nameB goodB numOf e2 p2).qexpr (y.drop k)) := by
 show Sm x y n k (s_expr e1 p1 (x.drop k)) (s_expr e2 p2 (y.drop k))
 unfold s_expr
 try simp only [List.tail_drop]
 exact eAF
theorem fa_or (k : Nat) : Sm x y n k ((step nameB goodB numOf e1 p1).qor (x.drop k)) ((step nameB goodB numOf e2 p2).qor (y.drop k)) := by
 show Sm x y n k (s_or p1 (x.drop k)) (s_or p2 (y.drop k))
 unfold s_or
 try simp only [List.tail_drop]
 exact eAF
theorem fa_orL (n_1 : Nd) (k : Nat) : Sm x y n k ((step nameB goodB numOf e1 p1).qorL n_1 (x.drop k)) ((step nameB goodB numOf e2 p2).qorL n_1 (y.drop k)) := by
 show Sm x y n k (s_orL e1 p1 n_1 (x.drop k)) (s_orL e2 p2 n_1 (y.drop k))
 unfold s_orL
 try simp only [List.tail_drop]
 exact eAF
theorem fa_and (k : Nat) : Sm x y n k ((step nameB goodB numOf e1 p1).qand (x.drop k)) ((step nameB goodB numOf e2 p2).qand (y.drop k)) := by
 show Sm x y n k (s_and p1 (x.drop k)) (s_and p2 (y.drop k))
 unfold s_and
 try simp only [List.tail_drop]
 exact eAF
theorem fa_andL (n_1 : Nd) (k : Nat) : Sm x y n k ((step nameB goodB numOf e1 p1).qandL n_1 (x.drop k)) ((step nameB goodB numOf e2 p2).qandL n_1 (y.drop k)) := by
 show Sm x y n k (s_andL e1 p1 n_1 (x.drop k)) (s_andL e2 p2 n_1 (y.drop k))
 unfold s_andL
 try simp only [List.tail_drop]
 exact eAF
theorem fa_not (k : Nat) : Sm x y n k ((step nameB goodB numOf e1 p1).qnot (x.drop k)) ((step nameB goodB numOf e2 p2).qnot (y.drop k)) := by
 show Sm x y n k (s_not e1 p1 (x.drop k)) (s_not e2 p2 (y.drop k))
 unfold s_not
 try simp only [List.tail_drop]
 exact eAF
theorem fa_compare (k : Nat) : Sm x y n k ((step nameB goodB numOf e1 p1).qcompare (x.drop k)) ((step nameB goodB numOf e2 p2).qcompare (y.drop k)) := by
 show Sm x y n k (s_compare e1 p1 (x.drop k)) (s_compare e2 p2 (y.drop k))
 unfold s_compare
 try simp only [List.tail_drop]
 exact eAF
theorem fa_row (k_1 : Nat) (k : Nat) : Sm x y n k ((step nameB goodB numOf e1 p1).qrow k_1 (x.drop k)) ((step nameB goodB numOf e2 p2).qrow k_1 (y.drop k)) := by
 show Sm x y n k (s_row p1 k_1 (x.drop k)) (s_row p2 k_1 (y.drop k))
 unfold s_row
 refine Sm.bind hT.le ?_ (fun a k' hk => h.f_rowL _ _ _)
 cases k_1 with
 | zero => exact h.f_minus _
 | succ k => exact h.f_row _ _
theorem fa_rowL (k_1 : Nat) (n_1 : Nd) (k : Nat) : Sm x y n k ((step nameB goodB numOf e1 p1).qrowL k_1 n_1 (x.drop k)) ((step nameB goodB numOf e2 p2).qrowL k_1 n_1 (y.drop k)) := by
 show Sm x y n k (s_rowL e1 p1 k_1 n_1 (x.drop k)) (s_rowL e2 p2 k_1 n_1 (y.drop k))
 unfold s_rowL
 simp only [List.tail_drop]
 refine Sm.iteB hT.le (fun hh => by simp (disch := omega) only [hT.isS]) ?_ (Sm.ok (Nat.le_refl _) fun _ => rfl)
 refine Sm.bind hT.le ?_ (fun a k' hk => Sm.call hT.le (Nat.le_refl _) (h.f_rowL _ _ _) (fun hh => by simp (disch := omega) only [hT.hd]))
 cases k_1 with
 | zero => exact Sm.to lq17 (h.f_minus _)
 | succ k => exact Sm.to lq17 (h.f_row _ _)
theorem fa_minus (k : Nat) : Sm x y n k ((step nameB goodB numOf e1 p1).qminus (x.drop k)) ((step nameB goodB numOf e2 p2).qminus (y.drop k)) := by
 show Sm x y n k (s_minus e1 p1 (x.drop k)) (s_minus e2 p2 (y.drop k))
 unfold s_minus
 try simp only [List.tail_drop]
 exact eAF
theorem fa_postfix (k : Nat) : Sm x y n k ((step nameB goodB numOf e1 p1).qpostfix (x.drop k)) ((step nameB goodB numOf e2 p2).qpostfix (y.drop k)) := by
 show Sm x y n k (s_postfix p1 (x.drop k)) (s_postfix p2 (y.drop k))
 unfold s_postfix
 try simp only [List.tail_drop]
 exact eAF
theorem fa_postL (n_1 : Nd) (k : Nat) : Sm x y n k ((step nameB goodB numOf e1 p1).qpostL n_1 (x.drop k)) ((step nameB goodB numOf e2 p2).qpostL n_1 (y.drop k)) := by
 show Sm x y n k (s_postL nameB e1 p1 n_1 (x.drop k)) (s_postL nameB e2 p2 n_1 (y.drop k))
 unfold s_postL
 try simp only [List.tail_drop]
 exact eAF
theorem fa_args (st_1 : Nat) (ks_1 : List Nd) (k : Nat) : Sm x y n k ((step nameB goodB numOf e1 p1).qargs st_1 ks_1 (x.drop k)) ((step nameB goodB numOf e2 p2).qargs st_1 ks_1 (y.drop k)) := by
 show Sm x y n k (s_args nameB e1 p1 st_1 ks_1 (x.drop k)) (s_args nameB e2 p2 st_1 ks_1 (y.drop k))
 unfold s_args
 try simp only [List.tail_drop]
 exact eAF
theorem fa_exprs (k : Nat) : Sm x y n k ((step nameB goodB numOf e1 p1).qexprs (x.drop k)) ((step nameB goodB numOf e2 p2).qexprs (y.drop k)) := by
 show Sm x y n k (s_exprs e1 p1 (x.drop k)) (s_exprs e2 p2 (y.drop k))
 unfold s_exprs
 try simp only [List.tail_drop]
 exact eAF
theorem fa_rest (ks_1 : List Nd) (k : Nat) : Sm x y n k ((step nameB goodB numOf e1 p1).qrest ks_1 (x.drop k)) ((step nameB goodB numOf e2 p2).qrest ks_1 (y.drop k)) := by
 show Sm x y n k (s_rest e1 p1 ks_1 (x.drop k)) (s_rest e2 p2 ks_1 (y.drop k))
 unfold s_rest
 try simp only [List.tail_drop]
 exact eAF
theorem fa_atom (k : Nat) : Sm x y n k ((step nameB goodB numOf e1 p1).qatom (x.drop k)) ((step nameB goodB numOf e2 p2).qatom (y.drop k)) := by
 show Sm x y n k (s_atom nameB goodB numOf e1 p1 (x.drop k)) (s_atom nameB goodB numOf e2 p2 (y.drop k))
 unfold s_atom
 simp only [List.tail_drop]
 have key : ∀ (κ : Int) (nt : Option (List Int)), Sm x y n k (match κ with
  | 1 => (tokN nameB e1 (x.drop k)).bind fun t r => .ok (Nd.mk 31 (hd e1 (x.drop k)).pos t.text false [] []) r
  | 3 => (match nt with | some m => .ok (Nd.mk 32 (hd e1 (x.drop k)).pos ⟨#[]⟩ false m []) (x.drop (k + 1)) | none => .bad 106 (hd e1 (x.drop k)).pos)
  | 4 => if goodB (hd e1 (x.drop k)).text then .ok (Nd.mk 33 (hd e1 (x.drop k)).pos (hd e1 (x.drop k)).text false [] []) (x.drop (k + 1)) else .bad 106 (hd e1 (x.drop k)).pos
  | _ => if isW e1 ⟨#[78, 111, 110, 101]⟩ (x.drop k) || isW e1 ⟨#[84, 114, 117, 101]⟩ (x.drop k) || isW e1 ⟨#[70, 97, 108, 115, 101]⟩ (x.drop k) then .ok (Nd.mk 34 (hd e1 (x.drop k)).pos (hd e1 (x.drop k)).text false [] []) (x.drop (k + 1)) else if isS e1 ⟨#[40]⟩ (x.drop k) then p1.qround (hd e1 (x.drop k)).pos (x.drop (k + 1)) else if isS e1 ⟨#[91]⟩ (x.drop k) then p1.qsquare (hd e1 (x.drop k)).pos (x.drop (k + 1)) else if isS e1 ⟨#[123]⟩ (x.drop k) then p1.qcurly (hd e1 (x.drop k)).pos (x.drop (k + 1)) else .bad 106 (hd e1 (x.drop k)).pos) (match κ with
  | 1 => (tokN nameB e2 (y.drop k)).bind fun t r => .ok (Nd.mk 31 (hd e2 (y.drop k)).pos t.text false [] []) r
  | 3 => (match nt with | some m => .ok (Nd.mk 32 (hd e2 (y.drop k)).pos ⟨#[]⟩ false m []) (y.drop (k + 1)) | none => .bad 106 (hd e2 (y.drop k)).pos)
  | 4 => if goodB (hd e2 (y.drop k)).text then .ok (Nd.mk 33 (hd e2 (y.drop k)).pos (hd e2 (y.drop k)).text false [] []) (y.drop (k + 1)) else .bad 106 (hd e2 (y.drop k)).pos
  | _ => if isW e2 ⟨#[78, 111, 110, 101]⟩ (y.drop k) || isW e2 ⟨#[84, 114, 117, 101]⟩ (y.drop k) || isW e2 ⟨#[70, 97, 108, 115, 101]⟩ (y.drop k) then .ok (Nd.mk 34 (hd e2 (y.drop k)).pos (hd e2 (y.drop k)).text false [] []) (y.drop (k + 1)) else if isS e2 ⟨#[40]⟩ (y.drop k) then p2.qround (hd e2 (y.drop k)).pos (y.drop (k + 1)) else if isS e2 ⟨#[91]⟩ (y.drop k) then p2.qsquare (hd e2 (y.drop k)).pos (y.drop (k + 1)) else if isS e2 ⟨#[123]⟩ (y.drop k) then p2.qcurly (hd e2 (y.drop k)).pos (y.drop (k + 1)) else .bad 106 (hd e2 (y.drop k)).pos) := by
  intro κ nt
  rcases nt with _ | m <;> split <;> exact eAF
 exact Sm.sub hT.le (fun hh => by rw [hT.hd (show k < n by omega)]; rfl) (key (hd e1 (x.drop k)).kind (numOf (hd e1 (x.drop k)).text))
theorem fa_round (at__1 : Int) (k : Nat) : Sm x y n k ((step nameB goodB numOf e1 p1).qround at__1 (x.drop k)) ((step nameB goodB numOf e2 p2).qround at__1 (y.drop k)) := by
 show Sm x y n k (s_round e1 p1 at__1 (x.drop k)) (s_round e2 p2 at__1 (y.drop k))
 unfold s_round
 try simp only [List.tail_drop]
 exact eAF
theorem fa_comp (n_1 : Nd) (k : Nat) : Sm x y n k ((step nameB goodB numOf e1 p1).qcomp n_1 (x.drop k)) ((step nameB goodB numOf e2 p2).qcomp n_1 (y.drop k)) := by
 show Sm x y n k (s_comp e1 p1 n_1 (x.drop k)) (s_comp e2 p2 n_1 (y.drop k))
 unfold s_comp
 try simp only [List.tail_drop]
 exact eAF
theorem fa_compL (ks_1 : List Nd) (k : Nat) : Sm x y n k ((step nameB goodB numOf e1 p1).qcompL ks_1 (x.drop k)) ((step nameB goodB numOf e2 p2).qcompL ks_1 (y.drop k)) := by
 show Sm x y n k (s_compL e1 p1 ks_1 (x.drop k)) (s_compL e2 p2 ks_1 (y.drop k))
 unfold s_compL
 try simp only [List.tail_drop]
 exact eAF
theorem fa_square (at__1 : Int) (k : Nat) : Sm x y n k ((step nameB goodB numOf e1 p1).qsquare at__1 (x.drop k)) ((step nameB goodB numOf e2 p2).qsquare at__1 (y.drop k)) := by
 show Sm x y n k (s_square e1 p1 at__1 (x.drop k)) (s_square e2 p2 at__1 (y.drop k))
 unfold s_square
 try simp only [List.tail_drop]
 exact eAF
theorem fa_pair (k_1 : Nd) (k : Nat) : Sm x y n k ((step nameB goodB numOf e1 p1).qpair k_1 (x.drop k)) ((step nameB goodB numOf e2 p2).qpair k_1 (y.drop k)) := by
 show Sm x y n k (s_pair e1 p1 k_1 (x.drop k)) (s_pair e2 p2 k_1 (y.drop k))
 unfold s_pair
 try simp only [List.tail_drop]
 exact eAF
theorem fa_item (k : Nat) : Sm x y n k ((step nameB goodB numOf e1 p1).qitem (x.drop k)) ((step nameB goodB numOf e2 p2).qitem (y.drop k)) := by
 show Sm x y n k (s_item e1 p1 (x.drop k)) (s_item e2 p2 (y.drop k))
 unfold s_item
 try simp only [List.tail_drop]
 exact eAF
theorem fa_items (ks_1 : List Nd) (k : Nat) : Sm x y n k ((step nameB goodB numOf e1 p1).qitems ks_1 (x.drop k)) ((step nameB goodB numOf e2 p2).qitems ks_1 (y.drop k)) := by
 show Sm x y n k (s_items e1 p1 ks_1 (x.drop k)) (s_items e2 p2 ks_1 (y.drop k))
 unfold s_items
 try simp only [List.tail_drop]
 exact eAF
theorem fa_curly (at__1 : Int) (k : Nat) : Sm x y n k ((step nameB goodB numOf e1 p1).qcurly at__1 (x.drop k)) ((step nameB goodB numOf e2 p2).qcurly at__1 (y.drop k)) := by
 show Sm x y n k (s_curly e1 p1 at__1 (x.drop k)) (s_curly e2 p2 at__1 (y.drop k))
 unfold s_curly
 try simp only [List.tail_drop]
 exact eAF
theorem fa_targets (k : Nat) : Sm x y n k ((step nameB goodB numOf e1 p1).qtargets (x.drop k)) ((step nameB goodB numOf e2 p2).qtargets (y.drop k)) := by
 show Sm x y n k (s_targets p1 (x.drop k)) (s_targets p2 (y.drop k))
 unfold s_targets
 refine Sm.bind hT.le (h.f_postfix _) (fun a k' hk => Sm.bind hT.le (h.f_targL _ _) (fun ks k'' hk' => ?_))
 cases badT ks with
 | some a => exact Sm.badC lq16
 | none => exact Sm.ok (Nat.le_refl _) fun _ => rfl
theorem fa_targL (ks_1 : List Nd) (k : Nat) : Sm x y n k ((step nameB goodB numOf e1 p1).qtargL ks_1 (x.drop k)) ((step nameB goodB numOf e2 p2).qtargL ks_1 (y.drop k)) := by
 show Sm x y n k (s_targL e1 p1 ks_1 (x.drop k)) (s_targL e2 p2 ks_1 (y.drop k))
 unfold s_targL
 try simp only [List.tail_drop]
 exact eAF
theorem fa_assign (at__1 : Int) (k : Nat) : Sm x y n k ((step nameB goodB numOf e1 p1).qassign at__1 (x.drop k)) ((step nameB goodB numOf e2 p2).qassign at__1 (y.drop k)) := by
 show Sm x y n k (s_assign e1 p1 at__1 (x.drop k)) (s_assign e2 p2 at__1 (y.drop k))
 unfold s_assign
 try simp only [List.tail_drop]
 exact eAF
theorem fa_names (ks_1 : List Nd) (k : Nat) : Sm x y n k ((step nameB goodB numOf e1 p1).qnames ks_1 (x.drop k)) ((step nameB goodB numOf e2 p2).qnames ks_1 (y.drop k)) := by
 show Sm x y n k (s_names nameB e1 p1 ks_1 (x.drop k)) (s_names nameB e2 p2 ks_1 (y.drop k))
 unfold s_names
 try simp only [List.tail_drop]
 exact eAF
theorem fa_simple (at__1 : Int) (k : Nat) : Sm x y n k ((step nameB goodB numOf e1 p1).qsimple at__1 (x.drop k)) ((step nameB goodB numOf e2 p2).qsimple at__1 (y.drop k)) := by
 show Sm x y n k (s_simple e1 p1 at__1 (x.drop k)) (s_simple e2 p2 at__1 (y.drop k))
 unfold s_simple
 try simp only [List.tail_drop]
 exact eAF
theorem fa_block (k : Nat) : Sm x y n k ((step nameB goodB numOf e1 p1).qblock (x.drop k)) ((step nameB goodB numOf e2 p2).qblock (y.drop k)) := by
 show Sm x y n k (s_block e1 p1 (x.drop k)) (s_block e2 p2 (y.drop k))
 unfold s_block
 try simp only [List.tail_drop]
 exact eAF
theorem fa_stmts (k_1 : Int) (ks_1 : List Nd) (k : Nat) : Sm x y n k ((step nameB goodB numOf e1 p1).qstmts k_1 ks_1 (x.drop k)) ((step nameB goodB numOf e2 p2).qstmts k_1 ks_1 (y.drop k)) := by
 show Sm x y n k (s_stmts e1 p1 k_1 ks_1 (x.drop k)) (s_stmts e2 p2 k_1 ks_1 (y.drop k))
 unfold s_stmts
 try simp only [List.tail_drop]
 exact eAF
theorem fa_choice (at__1 : Int) (k : Nat) : Sm x y n k ((step nameB goodB numOf e1 p1).qchoice at__1 (x.drop k)) ((step nameB goodB numOf e2 p2).qchoice at__1 (y.drop k)) := by
 show Sm x y n k (s_choice e1 p1 at__1 (x.drop k)) (s_choice e2 p2 at__1 (y.drop k))
 unfold s_choice
 try simp only [List.tail_drop]
 exact eAF
theorem fa_params (given_1 : Bool) (ks_1 : List Nd) (k : Nat) : Sm x y n k ((step nameB goodB numOf e1 p1).qparams given_1 ks_1 (x.drop k)) ((step nameB goodB numOf e2 p2).qparams given_1 ks_1 (y.drop k)) := by
 show Sm x y n k (s_params nameB e1 p1 given_1 ks_1 (x.drop k)) (s_params nameB e2 p2 given_1 ks_1 (y.drop k))
 unfold s_params
 simp only [List.tail_drop, ok_ite]
 refine Sm.iteB hT.le lq1 ?_ ?_
 ·skip
  exact eAF
 ·refine tok_B hT nameB _ (fun t => ?_)
  simp only [List.tail_drop]; exact eAF
theorem fa_excepts (bare_1 : Bool) (ks_1 : List Nd) (k : Nat) : Sm x y n k ((step nameB goodB numOf e1 p1).qexcepts bare_1 ks_1 (x.drop k)) ((step nameB goodB numOf e2 p2).qexcepts bare_1 ks_1 (y.drop k)) := by
 show Sm x y n k (s_excepts nameB e1 p1 bare_1 ks_1 (x.drop k)) (s_excepts nameB e2 p2 bare_1 ks_1 (y.drop k))
 unfold s_excepts
 try simp only [List.tail_drop]
 exact eAF
theorem fa_stmt (k : Nat) : Sm x y n k ((step nameB goodB numOf e1 p1).qstmt (x.drop k)) ((step nameB goodB numOf e2 p2).qstmt (y.drop k)) := by
 show Sm x y n k (s_stmt nameB e1 p1 (x.drop k)) (s_stmt nameB e2 p2 (y.drop k))
 unfold s_stmt
 try simp only [List.tail_drop]
 exact eAF
theorem fa_step : FA x y n (step nameB goodB numOf e1 p1) (step nameB goodB numOf e2 p2) where
 f_expr := fa_expr hT h
 f_or := fa_or hT h
 f_orL := fa_orL hT h
 f_and := fa_and hT h
 f_andL := fa_andL hT h
 f_not := fa_not hT h
 f_compare := fa_compare hT h
 f_row := fa_row hT h
 f_rowL := fa_rowL hT h
 f_minus := fa_minus hT h
 f_postfix := fa_postfix hT h
 f_postL := fa_postL hT h
 f_args := fa_args hT h
 f_exprs := fa_exprs hT h
 f_rest := fa_rest hT h
 f_atom := fa_atom hT h
 f_round := fa_round hT h
 f_comp := fa_comp hT h
 f_compL := fa_compL hT h
 f_square := fa_square hT h
 f_pair := fa_pair hT h
 f_item := fa_item hT h
 f_items := fa_items hT h
 f_curly := fa_curly hT h
 f_targets := fa_targets hT h
 f_targL := fa_targL hT h
 f_assign := fa_assign hT h
 f_names := fa_names hT h
 f_simple := fa_simple hT h
 f_block := fa_block hT h
 f_stmts := fa_stmts hT h
 f_choice := fa_choice hT h
 f_params := fa_params hT h
 f_excepts := fa_excepts hT h
 f_stmt := fa_stmt hT h
omit h in
theorem fa_all (nameB : ByteArray → Bool) (goodB : ByteArray → Bool) (numOf : ByteArray → Option (List Int)) : ∀ D, FA x y n (Pp nameB goodB numOf e1 D) (Pp nameB goodB numOf e2 D)
 | 0 => by constructor <;> intros <;> exact Sm.oof
 | D + 1 => fa_step hT (fa_all nameB goodB numOf D)
end
end
end Go.Proofs.YtjndbcnmmnkilaaGreatDoor
