/- Joined by a program: PaG. -/
import Derived.Test.YtjndbcnmmnkilaaGreatDoorPF02
namespace Go.Proofs.YtjndbcnmmnkilaaGreatDoor
set_option linter.unusedVariables false
set_option linter.unusedSimpArgs false
set_option maxRecDepth 1000000
set_option maxHeartbeats 16000000
section
open List (length_append length_cons length_nil length_singleton)
def Lf {α : Type} (n m : Nat) (x : Rs α) : Prop := ∀ a l, x = .ok a l → l.length + m ≤ n
theorem Lf.ok {α : Type} {n m : Nat} {a : α} {l : List Tok} (h : l.length + m ≤ n) : Lf n m (Rs.ok a l) := by intro b r e; cases e; exact h
theorem Lf.okT {α : Type} {n m : Nat} {a : α} {l : List Tok} (h : l.length + m ≤ n) : Lf n m (Rs.ok a l.tail) := by intro b r e; cases e; rw [List.length_tail]; omega
theorem Lf.bad {α : Type} {n m : Nat} {c a : Int} : Lf n m (Rs.bad c a : Rs α) := by intro b r e; cases e
theorem Lf.bind {α β : Type} {n m k : Nat} {x : Rs α} {f : α → List Tok → Rs β} (h : Lf n k x) (hf : ∀ a l, l.length + k ≤ n → Lf n m (f a l)) : Lf n m (x.bind f) := by
 cases x with
 | ok a l => exact hf a l (h a l rfl)
 | bad c a => exact Lf.bad
 | oof => exact fun b r e => by cases e
theorem Lf.to {α : Type} {n m n' m' : Nat} {x : Rs α} (h : Lf n m x) (hle : m' + n ≤ n' + m) : Lf n' m' x := fun a l e => by have := h a l e; omega
theorem Lf.bindC {α β : Type} {n n' m k : Nat} {x : Rs α} {f : α → List Tok → Rs β} (h : Lf n' k x) (hle : n' ≤ n) (hf : ∀ a l, l.length + k ≤ n' → Lf n m (f a l)) : Lf n m (x.bind f) := by
 cases x with
 | ok a l => exact hf a l (h a l rfl)
 | bad c a => exact Lf.bad
 | oof => exact fun b r e => by cases e
section
variable {e : Int}
theorem tlKf {k : Int} {l : List Tok} (h : (hd e l).kind = k) (hk : k ≠ 9) : l.tail.length + 1 = l.length := by
 cases l with
 | nil => exact absurd h.symm hk
 | cons t l => rfl
theorem tlSf {s : ByteArray} {l : List Tok} (h : isS e s l = true) : l.tail.length + 1 = l.length := by
 cases l with
 | nil => cases h
 | cons t l => rfl
theorem tlWf {s : ByteArray} {l : List Tok} (h : isW e s l = true) : l.tail.length + 1 = l.length := by
 cases l with
 | nil => cases h
 | cons t l => rfl
theorem tlAf {ss : List ByteArray} {l : List Tok} (h : ss.any (fun s => isS e s l) = true) : l.tail.length + 1 = l.length := by
 rw [List.any_eq_true] at h
 obtain ⟨s, _, h⟩ := h
 exact tlSf h
theorem Lf.iteS {α : Type} {n m : Nat} {s : ByteArray} {l : List Tok} {A B : Rs α} (h : l.tail.length + 1 = l.length → Lf n m A) (h' : Lf n m B) : Lf n m (if isS e s l then A else B) := by
 split
 ·exact h (tlSf ‹_›)
 ·exact h'
theorem Lf.iteW {α : Type} {n m : Nat} {s : ByteArray} {l : List Tok} {A B : Rs α} (h : l.tail.length + 1 = l.length → Lf n m A) (h' : Lf n m B) : Lf n m (if isW e s l then A else B) := by
 split
 ·exact h (tlWf ‹_›)
 ·exact h'
theorem Lf.iteA {α : Type} {n m : Nat} {ss : List ByteArray} {l : List Tok} {A B : Rs α} (h : l.tail.length + 1 = l.length → Lf n m A) (h' : Lf n m B) : Lf n m (if ss.any (fun s => isS e s l) then A else B) := by
 split
 ·exact h (tlAf ‹_›)
 ·exact h'
theorem Lf.iteAW {α : Type} {n m : Nat} {s : ByteArray} {ss : List ByteArray} {l : List Tok} {A B : Rs α} (h : l.tail.length + 1 = l.length → Lf n m A) (h' : Lf n m B) : Lf n m (if ss.any (fun s => isS e s l) || isW e s l then A else B) := by
 split
 ·rename_i hh
  rw [Bool.or_eq_true] at hh; exact h (hh.elim tlAf tlWf)
 ·exact h'
theorem Lf.iteW3 {α : Type} {n m : Nat} {s t u : ByteArray} {l : List Tok} {A B : Rs α} (h : l.tail.length + 1 = l.length → Lf n m A) (h' : Lf n m B) : Lf n m (if isW e s l || isW e t l || isW e u l then A else B) := by
 split
 ·rename_i hh
  rw [Bool.or_eq_true, Bool.or_eq_true] at hh; exact h (hh.elim (fun hh => hh.elim tlWf tlWf) tlWf)
 ·exact h'
theorem Lf.needS {s : ByteArray} {l : List Tok} : Lf l.length 1 (needS e s l) := by
 unfold Go.Proofs.YtjndbcnmmnkilaaGreatDoor.needS
 exact Lf.iteS (fun h => Lf.ok lq17) Lf.bad
theorem Lf.needW {s : ByteArray} {l : List Tok} : Lf l.length 1 (needW e s l) := by
 unfold Go.Proofs.YtjndbcnmmnkilaaGreatDoor.needW
 exact Lf.iteW (fun h => Lf.ok lq17) Lf.bad
theorem Lf.needK {k : Int} {l : List Tok} (hk : k ≠ 9) : Lf l.length 1 (needK e k l) := by
 unfold Go.Proofs.YtjndbcnmmnkilaaGreatDoor.needK
 cases l with
 | nil => rw [if_neg (by intro h; exact hk h.symm)]; exact Lf.bad
 | cons t l => split; exact Lf.ok lq18; exact Lf.bad
theorem Lf.tokN {nameB : ByteArray → Bool} {l : List Tok} : Lf l.length 1 (tokN nameB e l) := by
 unfold Go.Proofs.YtjndbcnmmnkilaaGreatDoor.tokN
 cases l with
 | nil => rw [if_neg (by intro h; exact absurd h.1 (by show ¬ ((9 : Int) = 1); omega))]; exact Lf.bad
 | cons t l => split; exact Lf.ok lq18; exact Lf.bad
structure EF (p : Ps) : Prop where
 eexpr : ∀ (l : List Tok), Lf l.length 1 (p.qexpr l)
 eor : ∀ (l : List Tok), Lf l.length 1 (p.qor l)
 eorL : ∀ (n : Nd) (l : List Tok), Lf l.length 0 (p.qorL n l)
 eand : ∀ (l : List Tok), Lf l.length 1 (p.qand l)
 eandL : ∀ (n : Nd) (l : List Tok), Lf l.length 0 (p.qandL n l)
 enot : ∀ (l : List Tok), Lf l.length 1 (p.qnot l)
 ecompare : ∀ (l : List Tok), Lf l.length 1 (p.qcompare l)
 erow : ∀ (k : Nat) (l : List Tok), Lf l.length 1 (p.qrow k l)
 erowL : ∀ (k : Nat) (n : Nd) (l : List Tok), Lf l.length 0 (p.qrowL k n l)
 eminus : ∀ (l : List Tok), Lf l.length 1 (p.qminus l)
 epostfix : ∀ (l : List Tok), Lf l.length 1 (p.qpostfix l)
 epostL : ∀ (n : Nd) (l : List Tok), Lf l.length 0 (p.qpostL n l)
 eargs : ∀ (st : Nat) (ks : List Nd) (l : List Tok), Lf l.length 0 (p.qargs st ks l)
 eexprs : ∀ (l : List Tok), Lf l.length 1 (p.qexprs l)
 erest : ∀ (ks : List Nd) (l : List Tok), Lf l.length 0 (p.qrest ks l)
 eatom : ∀ (l : List Tok), Lf l.length 1 (p.qatom l)
 eround : ∀ (at_ : Int) (l : List Tok), Lf l.length 0 (p.qround at_ l)
 ecomp : ∀ (n : Nd) (l : List Tok), Lf l.length 0 (p.qcomp n l)
 ecompL : ∀ (ks : List Nd) (l : List Tok), Lf l.length 0 (p.qcompL ks l)
 esquare : ∀ (at_ : Int) (l : List Tok), Lf l.length 0 (p.qsquare at_ l)
 epair : ∀ (k : Nd) (l : List Tok), Lf l.length 0 (p.qpair k l)
 eitem : ∀ (l : List Tok), Lf l.length 0 (p.qitem l)
 eitems : ∀ (ks : List Nd) (l : List Tok), Lf l.length 0 (p.qitems ks l)
 ecurly : ∀ (at_ : Int) (l : List Tok), Lf l.length 0 (p.qcurly at_ l)
 etargets : ∀ (l : List Tok), Lf l.length 0 (p.qtargets l)
 etargL : ∀ (ks : List Nd) (l : List Tok), Lf l.length 0 (p.qtargL ks l)
 eassign : ∀ (at_ : Int) (l : List Tok), Lf l.length 1 (p.qassign at_ l)
 enames : ∀ (ks : List Nd) (l : List Tok), Lf l.length 0 (p.qnames ks l)
 esimple : ∀ (at_ : Int) (l : List Tok), Lf l.length 1 (p.qsimple at_ l)
 eblock : ∀ (l : List Tok), Lf l.length 0 (p.qblock l)
 estmts : ∀ (k : Int) (ks : List Nd) (l : List Tok), Lf l.length 0 (p.qstmts k ks l)
 echoice : ∀ (at_ : Int) (l : List Tok), Lf l.length 0 (p.qchoice at_ l)
 eparams : ∀ (given : Bool) (ks : List Nd) (l : List Tok), Lf l.length 0 (p.qparams given ks l)
 eexcepts : ∀ (bare : Bool) (ks : List Nd) (l : List Tok), Lf l.length 0 (p.qexcepts bare ks l)
 estmt : ∀ (l : List Tok), Lf l.length 1 (p.qstmt l)
variable {nameB : ByteArray → Bool} {goodB : ByteArray → Bool} {numOf : ByteArray → Option (List Int)}
theorem eAf {p : Prop} (h : p := by
 repeat' first
  | with_reducible exact Lf.bad
  | ((with_reducible refine Lf.ok ?_); (first | omega | (simp only [List.length_tail] at *; omega)); done)
  | ((with_reducible refine Lf.ok ?_); (first | (have ht := tlKf ‹(hd e _).kind = (3 : Int)› lq16; omega) | (have ht := tlKf ‹(hd e _).kind = (4 : Int)› lq16; omega)); done)
  | ((with_reducible refine Lf.okT ?_); (first | omega | (simp only [List.length_tail] at *; omega)); done)
  | ((with_reducible first | refine Lf.to (h.eexpr _) ?_ | refine Lf.to (h.eor _) ?_ | refine Lf.to (h.eorL _ _) ?_ | refine Lf.to (h.eand _) ?_ | refine Lf.to (h.eandL _ _) ?_ | refine Lf.to (h.enot _) ?_ | refine Lf.to (h.ecompare _) ?_ | refine Lf.to (h.erow _ _) ?_ | refine Lf.to (h.erowL _ _ _) ?_ | refine Lf.to (h.eminus _) ?_ | refine Lf.to (h.epostfix _) ?_ | refine Lf.to (h.epostL _ _) ?_ | refine Lf.to (h.eargs _ _ _) ?_ | refine Lf.to (h.eexprs _) ?_ | refine Lf.to (h.erest _ _) ?_ | refine Lf.to (h.eatom _) ?_ | refine Lf.to (h.eround _ _) ?_ | refine Lf.to (h.ecomp _ _) ?_ | refine Lf.to (h.ecompL _ _) ?_ | refine Lf.to (h.esquare _ _) ?_ | refine Lf.to (h.epair _ _) ?_ | refine Lf.to (h.eitem _) ?_ | refine Lf.to (h.eitems _ _) ?_ | refine Lf.to (h.ecurly _ _) ?_ | refine Lf.to (h.etargets _) ?_ | refine Lf.to (h.etargL _ _) ?_ | refine Lf.to (h.eassign _ _) ?_ | refine Lf.to (h.enames _ _) ?_ | refine Lf.to (h.esimple _ _) ?_ | refine Lf.to (h.eblock _) ?_ | refine Lf.to (h.estmts _ _ _) ?_ | refine Lf.to (h.echoice _ _) ?_ | refine Lf.to (h.eparams _ _ _) ?_ | refine Lf.to (h.eexcepts _ _ _) ?_ | refine Lf.to (h.estmt _) ?_) <;> (first | omega | (simp only [List.length_tail] at *; omega)); done)
  | ((with_reducible first | refine Lf.bindC (h.eexpr _) ?_ (fun a l hl => ?_) | refine Lf.bindC (h.eor _) ?_ (fun a l hl => ?_) | refine Lf.bindC (h.eorL _ _) ?_ (fun a l hl => ?_) | refine Lf.bindC (h.eand _) ?_ (fun a l hl => ?_) | refine Lf.bindC (h.eandL _ _) ?_ (fun a l hl => ?_) | refine Lf.bindC (h.enot _) ?_ (fun a l hl => ?_) | refine Lf.bindC (h.ecompare _) ?_ (fun a l hl => ?_) | refine Lf.bindC (h.erow _ _) ?_ (fun a l hl => ?_) | refine Lf.bindC (h.erowL _ _ _) ?_ (fun a l hl => ?_) | refine Lf.bindC (h.eminus _) ?_ (fun a l hl => ?_) | refine Lf.bindC (h.epostfix _) ?_ (fun a l hl => ?_) | refine Lf.bindC (h.epostL _ _) ?_ (fun a l hl => ?_) | refine Lf.bindC (h.eargs _ _ _) ?_ (fun a l hl => ?_) | refine Lf.bindC (h.eexprs _) ?_ (fun a l hl => ?_) | refine Lf.bindC (h.erest _ _) ?_ (fun a l hl => ?_) | refine Lf.bindC (h.eatom _) ?_ (fun a l hl => ?_) | refine Lf.bindC (h.eround _ _) ?_ (fun a l hl => ?_) | refine Lf.bindC (h.ecomp _ _) ?_ (fun a l hl => ?_) | refine Lf.bindC (h.ecompL _ _) ?_ (fun a l hl => ?_) | refine Lf.bindC (h.esquare _ _) ?_ (fun a l hl => ?_) | refine Lf.bindC (h.epair _ _) ?_ (fun a l hl => ?_) | refine Lf.bindC (h.eitem _) ?_ (fun a l hl => ?_) | refine Lf.bindC (h.eitems _ _) ?_ (fun a l hl => ?_) | refine Lf.bindC (h.ecurly _ _) ?_ (fun a l hl => ?_) | refine Lf.bindC (h.etargets _) ?_ (fun a l hl => ?_) | refine Lf.bindC (h.etargL _ _) ?_ (fun a l hl => ?_) | refine Lf.bindC (h.eassign _ _) ?_ (fun a l hl => ?_) | refine Lf.bindC (h.enames _ _) ?_ (fun a l hl => ?_) | refine Lf.bindC (h.esimple _ _) ?_ (fun a l hl => ?_) | refine Lf.bindC (h.eblock _) ?_ (fun a l hl => ?_) | refine Lf.bindC (h.estmts _ _ _) ?_ (fun a l hl => ?_) | refine Lf.bindC (h.echoice _ _) ?_ (fun a l hl => ?_) | refine Lf.bindC (h.eparams _ _ _) ?_ (fun a l hl => ?_) | refine Lf.bindC (h.eexcepts _ _ _) ?_ (fun a l hl => ?_) | refine Lf.bindC (h.estmt _) ?_ (fun a l hl => ?_)); all_goals (first | ((first | omega | (simp only [List.length_tail] at *; omega)); done) | skip))
  | (with_reducible refine Lf.bindC Lf.needS lq9 (fun a l hl => ?_))
  | (with_reducible refine Lf.bindC Lf.needW lq9 (fun a l hl => ?_))
  | (with_reducible refine Lf.bindC Lf.tokN lq9 (fun a l hl => ?_))
  | (with_reducible refine Lf.bindC (Lf.needK lq16) lq9 (fun a l hl => ?_))
  | (with_reducible refine Lf.iteS (fun ht => ?_) ?_)
  | (with_reducible refine Lf.iteW (fun ht => ?_) ?_)
  | (with_reducible refine Lf.iteA (fun ht => ?_) ?_)
  | (with_reducible refine Lf.iteAW (fun ht => ?_) ?_)
  | (with_reducible refine Lf.iteW3 (fun ht => ?_) ?_)
  | (with_reducible refine Lf.bind (x := ite _ _ _) (k := 0) ?_ (fun a l hl => ?_))
  | (with_reducible refine Lf.bind (x := Rs.bind _ _) (k := 0) ?_ (fun a l hl => ?_))
  | split) : p := h
theorem eBf {p : Prop} (h : p := by
 repeat' first
  | with_reducible exact Lf.bad
  | ((with_reducible refine Lf.ok ?_); (first | omega | (simp only [List.length_tail] at *; omega)); done)
  | ((with_reducible refine Lf.ok ?_); (first | (have ht := tlKf ‹(hd e _).kind = (3 : Int)› lq16; omega) | (have ht := tlKf ‹(hd e _).kind = (4 : Int)› lq16; omega)); done)
  | ((with_reducible refine Lf.okT ?_); (first | omega | (simp only [List.length_tail] at *; omega)); done)
  | ((with_reducible first | refine Lf.to (h.eexpr _) ?_ | refine Lf.to (h.eor _) ?_ | refine Lf.to (h.eorL _ _) ?_ | refine Lf.to (h.eand _) ?_ | refine Lf.to (h.eandL _ _) ?_ | refine Lf.to (h.enot _) ?_ | refine Lf.to (h.ecompare _) ?_ | refine Lf.to (h.erow _ _) ?_ | refine Lf.to (h.erowL _ _ _) ?_ | refine Lf.to (h.eminus _) ?_ | refine Lf.to (h.epostfix _) ?_ | refine Lf.to (h.epostL _ _) ?_ | refine Lf.to (h.eargs _ _ _) ?_ | refine Lf.to (h.eexprs _) ?_ | refine Lf.to (h.erest _ _) ?_ | refine Lf.to (h.eatom _) ?_ | refine Lf.to (h.eround _ _) ?_ | refine Lf.to (h.ecomp _ _) ?_ | refine Lf.to (h.ecompL _ _) ?_ | refine Lf.to (h.esquare _ _) ?_ | refine Lf.to (h.epair _ _) ?_ | refine Lf.to (h.eitem _) ?_ | refine Lf.to (h.eitems _ _) ?_ | refine Lf.to (h.ecurly _ _) ?_ | refine Lf.to (h.etargets _) ?_ | refine Lf.to (h.etargL _ _) ?_ | refine Lf.to (h.eassign _ _) ?_ | refine Lf.to (h.enames _ _) ?_ | refine Lf.to (h.esimple _ _) ?_ | refine Lf.to (h.eblock _) ?_ | refine Lf.to (h.estmts _ _ _) ?_ | refine Lf.to (h.echoice _ _) ?_ | refine Lf.to (h.eparams _ _ _) ?_ | refine Lf.to (h.eexcepts _ _ _) ?_ | refine Lf.to (h.estmt _) ?_) <;> (first | omega | (simp only [List.length_tail] at *; omega)); done)
  | ((with_reducible first | refine Lf.bindC (h.eexpr _) ?_ (fun a l hl => ?_) | refine Lf.bindC (h.eor _) ?_ (fun a l hl => ?_) | refine Lf.bindC (h.eorL _ _) ?_ (fun a l hl => ?_) | refine Lf.bindC (h.eand _) ?_ (fun a l hl => ?_) | refine Lf.bindC (h.eandL _ _) ?_ (fun a l hl => ?_) | refine Lf.bindC (h.enot _) ?_ (fun a l hl => ?_) | refine Lf.bindC (h.ecompare _) ?_ (fun a l hl => ?_) | refine Lf.bindC (h.erow _ _) ?_ (fun a l hl => ?_) | refine Lf.bindC (h.erowL _ _ _) ?_ (fun a l hl => ?_) | refine Lf.bindC (h.eminus _) ?_ (fun a l hl => ?_) | refine Lf.bindC (h.epostfix _) ?_ (fun a l hl => ?_) | refine Lf.bindC (h.epostL _ _) ?_ (fun a l hl => ?_) | refine Lf.bindC (h.eargs _ _ _) ?_ (fun a l hl => ?_) | refine Lf.bindC (h.eexprs _) ?_ (fun a l hl => ?_) | refine Lf.bindC (h.erest _ _) ?_ (fun a l hl => ?_) | refine Lf.bindC (h.eatom _) ?_ (fun a l hl => ?_) | refine Lf.bindC (h.eround _ _) ?_ (fun a l hl => ?_) | refine Lf.bindC (h.ecomp _ _) ?_ (fun a l hl => ?_) | refine Lf.bindC (h.ecompL _ _) ?_ (fun a l hl => ?_) | refine Lf.bindC (h.esquare _ _) ?_ (fun a l hl => ?_) | refine Lf.bindC (h.epair _ _) ?_ (fun a l hl => ?_) | refine Lf.bindC (h.eitem _) ?_ (fun a l hl => ?_) | refine Lf.bindC (h.eitems _ _) ?_ (fun a l hl => ?_) | refine Lf.bindC (h.ecurly _ _) ?_ (fun a l hl => ?_) | refine Lf.bindC (h.etargets _) ?_ (fun a l hl => ?_) | refine Lf.bindC (h.etargL _ _) ?_ (fun a l hl => ?_) | refine Lf.bindC (h.eassign _ _) ?_ (fun a l hl => ?_) | refine Lf.bindC (h.enames _ _) ?_ (fun a l hl => ?_) | refine Lf.bindC (h.esimple _ _) ?_ (fun a l hl => ?_) | refine Lf.bindC (h.eblock _) ?_ (fun a l hl => ?_) | refine Lf.bindC (h.estmts _ _ _) ?_ (fun a l hl => ?_) | refine Lf.bindC (h.echoice _ _) ?_ (fun a l hl => ?_) | refine Lf.bindC (h.eparams _ _ _) ?_ (fun a l hl => ?_) | refine Lf.bindC (h.eexcepts _ _ _) ?_ (fun a l hl => ?_) | refine Lf.bindC (h.estmt _) ?_ (fun a l hl => ?_)); all_goals (first | ((first | omega | (simp only [List.length_tail] at *; omega)); done) | skip))
  | (with_reducible refine Lf.bindC Lf.needS lq9 (fun a l hl => ?_))
  | (with_reducible refine Lf.bindC Lf.needW lq9 (fun a l hl => ?_))
  | (with_reducible refine Lf.bindC Lf.tokN lq9 (fun a l hl => ?_))
  | (with_reducible refine Lf.bindC (Lf.needK lq16) lq9 (fun a l hl => ?_))
  | (with_reducible refine Lf.iteS (fun ht => ?_) ?_)
  | (with_reducible refine Lf.iteW (fun ht => ?_) ?_)
  | (with_reducible refine Lf.iteA (fun ht => ?_) ?_)
  | (with_reducible refine Lf.iteAW (fun ht => ?_) ?_)
  | (with_reducible refine Lf.iteW3 (fun ht => ?_) ?_)
  | (with_reducible refine Lf.bind (x := ite _ _ _) (k := 1) ?_ (fun a l hl => ?_))
  | (with_reducible refine Lf.bind (x := Rs.bind _ _) (k := 1) ?_ (fun a l hl => ?_))
  | split) : p := h
theorem lf_expr {p : Ps} (h : EF p) (l : List Tok) : Lf l.length 1 ((step nameB goodB numOf e p).qexpr l) := by
 show Lf l.length 1 (s_expr e p l)
 unfold s_expr
 exact eAf
theorem lf_or {p : Ps} (h : EF p) (l : List Tok) : Lf l.length 1 ((step nameB goodB numOf e p).qor l) := by
 show Lf l.length 1 (s_or p l)
 unfold s_or
 exact eAf
theorem lf_orL {p : Ps} (h : EF p) (n : Nd) (l : List Tok) : Lf l.length 0 ((step nameB goodB numOf e p).qorL n l) := by
 show Lf l.length 0 (s_orL e p n l)
 unfold s_orL
 exact eAf
theorem lf_and {p : Ps} (h : EF p) (l : List Tok) : Lf l.length 1 ((step nameB goodB numOf e p).qand l) := by
 show Lf l.length 1 (s_and p l)
 unfold s_and
 exact eAf
theorem lf_andL {p : Ps} (h : EF p) (n : Nd) (l : List Tok) : Lf l.length 0 ((step nameB goodB numOf e p).qandL n l) := by
 show Lf l.length 0 (s_andL e p n l)
 unfold s_andL
 exact eAf
theorem lf_not {p : Ps} (h : EF p) (l : List Tok) : Lf l.length 1 ((step nameB goodB numOf e p).qnot l) := by
 show Lf l.length 1 (s_not e p l)
 unfold s_not
 exact eAf
theorem lf_compare {p : Ps} (h : EF p) (l : List Tok) : Lf l.length 1 ((step nameB goodB numOf e p).qcompare l) := by
 show Lf l.length 1 (s_compare e p l)
 unfold s_compare
 exact eAf
theorem lf_row {p : Ps} (h : EF p) (k : Nat) (l : List Tok) : Lf l.length 1 ((step nameB goodB numOf e p).qrow k l) := by
 show Lf l.length 1 (s_row p k l)
 unfold s_row
 exact eAf
theorem lf_rowL {p : Ps} (h : EF p) (k : Nat) (n : Nd) (l : List Tok) : Lf l.length 0 ((step nameB goodB numOf e p).qrowL k n l) := by
 show Lf l.length 0 (s_rowL e p k n l)
 unfold s_rowL
 exact eAf
theorem lf_minus {p : Ps} (h : EF p) (l : List Tok) : Lf l.length 1 ((step nameB goodB numOf e p).qminus l) := by
 show Lf l.length 1 (s_minus e p l)
 unfold s_minus
 exact eAf
theorem lf_postfix {p : Ps} (h : EF p) (l : List Tok) : Lf l.length 1 ((step nameB goodB numOf e p).qpostfix l) := by
 show Lf l.length 1 (s_postfix p l)
 unfold s_postfix
 exact eAf
theorem lf_postL {p : Ps} (h : EF p) (n : Nd) (l : List Tok) : Lf l.length 0 ((step nameB goodB numOf e p).qpostL n l) := by
 show Lf l.length 0 (s_postL nameB e p n l)
 unfold s_postL
 exact eAf
theorem lf_args {p : Ps} (h : EF p) (st : Nat) (ks : List Nd) (l : List Tok) : Lf l.length 0 ((step nameB goodB numOf e p).qargs st ks l) := by
 show Lf l.length 0 (s_args nameB e p st ks l)
 unfold s_args
 exact eAf
theorem lf_exprs {p : Ps} (h : EF p) (l : List Tok) : Lf l.length 1 ((step nameB goodB numOf e p).qexprs l) := by
 show Lf l.length 1 (s_exprs e p l)
 unfold s_exprs
 exact eAf
theorem lf_rest {p : Ps} (h : EF p) (ks : List Nd) (l : List Tok) : Lf l.length 0 ((step nameB goodB numOf e p).qrest ks l) := by
 show Lf l.length 0 (s_rest e p ks l)
 unfold s_rest
 exact eAf
theorem lf_atom {p : Ps} (h : EF p) (l : List Tok) : Lf l.length 1 ((step nameB goodB numOf e p).qatom l) := by
 show Lf l.length 1 (s_atom nameB goodB numOf e p l)
 unfold s_atom
 exact eAf
theorem lf_round {p : Ps} (h : EF p) (at_ : Int) (l : List Tok) : Lf l.length 0 ((step nameB goodB numOf e p).qround at_ l) := by
 show Lf l.length 0 (s_round e p at_ l)
 unfold s_round
 exact eAf
theorem lf_comp {p : Ps} (h : EF p) (n : Nd) (l : List Tok) : Lf l.length 0 ((step nameB goodB numOf e p).qcomp n l) := by
 show Lf l.length 0 (s_comp e p n l)
 unfold s_comp
 exact eAf
theorem lf_compL {p : Ps} (h : EF p) (ks : List Nd) (l : List Tok) : Lf l.length 0 ((step nameB goodB numOf e p).qcompL ks l) := by
 show Lf l.length 0 (s_compL e p ks l)
 unfold s_compL
 exact eAf
theorem lf_square {p : Ps} (h : EF p) (at_ : Int) (l : List Tok) : Lf l.length 0 ((step nameB goodB numOf e p).qsquare at_ l) := by
 show Lf l.length 0 (s_square e p at_ l)
 unfold s_square
 exact eAf
theorem lf_pair {p : Ps} (h : EF p) (k : Nd) (l : List Tok) : Lf l.length 0 ((step nameB goodB numOf e p).qpair k l) := by
 show Lf l.length 0 (s_pair e p k l)
 unfold s_pair
 exact eAf
theorem lf_item {p : Ps} (h : EF p) (l : List Tok) : Lf l.length 0 ((step nameB goodB numOf e p).qitem l) := by
 show Lf l.length 0 (s_item e p l)
 unfold s_item
 exact eAf
theorem lf_items {p : Ps} (h : EF p) (ks : List Nd) (l : List Tok) : Lf l.length 0 ((step nameB goodB numOf e p).qitems ks l) := by
 show Lf l.length 0 (s_items e p ks l)
 unfold s_items
 exact eAf
theorem lf_curly {p : Ps} (h : EF p) (at_ : Int) (l : List Tok) : Lf l.length 0 ((step nameB goodB numOf e p).qcurly at_ l) := by
 show Lf l.length 0 (s_curly e p at_ l)
 unfold s_curly
 exact eAf
theorem lf_targets {p : Ps} (h : EF p) (l : List Tok) : Lf l.length 0 ((step nameB goodB numOf e p).qtargets l) := by
 show Lf l.length 0 (s_targets p l)
 unfold s_targets
 exact eAf
theorem lf_targL {p : Ps} (h : EF p) (ks : List Nd) (l : List Tok) : Lf l.length 0 ((step nameB goodB numOf e p).qtargL ks l) := by
 show Lf l.length 0 (s_targL e p ks l)
 unfold s_targL
 exact eAf
theorem lf_assign {p : Ps} (h : EF p) (at_ : Int) (l : List Tok) : Lf l.length 1 ((step nameB goodB numOf e p).qassign at_ l) := by
 show Lf l.length 1 (s_assign e p at_ l)
 unfold s_assign
 exact eAf
theorem lf_names {p : Ps} (h : EF p) (ks : List Nd) (l : List Tok) : Lf l.length 0 ((step nameB goodB numOf e p).qnames ks l) := by
 show Lf l.length 0 (s_names nameB e p ks l)
 unfold s_names
 exact eAf
theorem lf_simple {p : Ps} (h : EF p) (at_ : Int) (l : List Tok) : Lf l.length 1 ((step nameB goodB numOf e p).qsimple at_ l) := by
 show Lf l.length 1 (s_simple e p at_ l)
 unfold s_simple
 exact eAf
theorem lf_block {p : Ps} (h : EF p) (l : List Tok) : Lf l.length 0 ((step nameB goodB numOf e p).qblock l) := by
 show Lf l.length 0 (s_block e p l)
 unfold s_block
 exact eAf
theorem lf_stmts {p : Ps} (h : EF p) (k : Int) (ks : List Nd) (l : List Tok) : Lf l.length 0 ((step nameB goodB numOf e p).qstmts k ks l) := by
 show Lf l.length 0 (s_stmts e p k ks l)
 unfold s_stmts
 exact eAf
theorem lf_choice {p : Ps} (h : EF p) (at_ : Int) (l : List Tok) : Lf l.length 0 ((step nameB goodB numOf e p).qchoice at_ l) := by
 show Lf l.length 0 (s_choice e p at_ l)
 unfold s_choice
 exact eAf
theorem lf_params {p : Ps} (h : EF p) (given : Bool) (ks : List Nd) (l : List Tok) : Lf l.length 0 ((step nameB goodB numOf e p).qparams given ks l) := by
 show Lf l.length 0 (s_params nameB e p given ks l)
 unfold s_params
 exact eAf
theorem lf_excepts {p : Ps} (h : EF p) (bare : Bool) (ks : List Nd) (l : List Tok) : Lf l.length 0 ((step nameB goodB numOf e p).qexcepts bare ks l) := by
 show Lf l.length 0 (s_excepts nameB e p bare ks l)
 unfold s_excepts
 exact eBf
theorem lf_stmt {p : Ps} (h : EF p) (l : List Tok) : Lf l.length 1 ((step nameB goodB numOf e p).qstmt l) := by
 show Lf l.length 1 (s_stmt nameB e p l)
 unfold s_stmt
 exact eBf
theorem ef_step {p : Ps} (h : EF p) : EF (step nameB goodB numOf e p) where
 eexpr := lf_expr h
 eor := lf_or h
 eorL := lf_orL h
 eand := lf_and h
 eandL := lf_andL h
 enot := lf_not h
 ecompare := lf_compare h
 erow := lf_row h
 erowL := lf_rowL h
 eminus := lf_minus h
 epostfix := lf_postfix h
 epostL := lf_postL h
 eargs := lf_args h
 eexprs := lf_exprs h
 erest := lf_rest h
 eatom := lf_atom h
 eround := lf_round h
 ecomp := lf_comp h
 ecompL := lf_compL h
 esquare := lf_square h
 epair := lf_pair h
 eitem := lf_item h
 eitems := lf_items h
 ecurly := lf_curly h
 etargets := lf_targets h
 etargL := lf_targL h
 eassign := lf_assign h
 enames := lf_names h
 esimple := lf_simple h
 eblock := lf_block h
 estmts := lf_stmts h
 echoice := lf_choice h
 eparams := lf_params h
 eexcepts := lf_excepts h
 estmt := lf_stmt h
theorem ef_all (nameB : ByteArray → Bool) (goodB : ByteArray → Bool) (numOf : ByteArray → Option (List Int)) (e : Int) : ∀ D, EF (Pp nameB goodB numOf e D)
 | 0 => by constructor <;> intros <;> exact fun b r e => by cases e
 | D + 1 => ef_step (ef_all nameB goodB numOf e D)
end
end
end Go.Proofs.YtjndbcnmmnkilaaGreatDoor
