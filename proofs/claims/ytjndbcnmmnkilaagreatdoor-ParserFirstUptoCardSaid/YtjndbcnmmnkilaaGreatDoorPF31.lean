/- Joined by a program: PaL. -/
import Derived.Test.YtjndbcnmmnkilaaGreatDoorPF02
namespace Go.Proofs.YtjndbcnmmnkilaaGreatDoor
set_option linter.unusedVariables false
set_option linter.unusedSimpArgs false
set_option maxRecDepth 1000000
set_option maxHeartbeats 16000000
section
open List (length_append length_cons length_nil length_singleton)
def Len {α : Type} (n m : Nat) (x : Rs α) : Prop := x ≠ .oof ∧ ∀ a l, x = .ok a l → l.length + m ≤ n
theorem Len.ok {α : Type} {n m : Nat} {a : α} {l : List Tok} (h : l.length + m ≤ n) : Len n m (Rs.ok a l) := ⟨by simp, by intro b r e; cases e; exact h⟩
theorem Len.okT {α : Type} {n m : Nat} {a : α} {l : List Tok} (h : l.length + m ≤ n) : Len n m (Rs.ok a l.tail) := ⟨by simp, by intro b r e; cases e; rw [List.length_tail]; omega⟩
theorem Len.bad {α : Type} {n m : Nat} {c a : Int} : Len n m (Rs.bad c a : Rs α) := ⟨by simp, by intro b r e; cases e⟩
theorem Len.bind {α β : Type} {n m k : Nat} {x : Rs α} {f : α → List Tok → Rs β} (h : Len n k x) (hf : ∀ a l, l.length + k ≤ n → Len n m (f a l)) : Len n m (x.bind f) := by
 cases x with
 | ok a l => exact hf a l (h.2 a l rfl)
 | bad c a => exact Len.bad
 | oof => exact absurd rfl h.1
theorem Len.to {α : Type} {n m n' m' : Nat} {x : Rs α} (h : Len n m x) (hle : m' + n ≤ n' + m) : Len n' m' x := ⟨h.1, fun a l e => by have := h.2 a l e; omega⟩
theorem Len.bindC {α β : Type} {n n' m k : Nat} {x : Rs α} {f : α → List Tok → Rs β} (h : Len n' k x) (hle : n' ≤ n) (hf : ∀ a l, l.length + k ≤ n' → Len n m (f a l)) : Len n m (x.bind f) := by
 cases x with
 | ok a l => exact hf a l (h.2 a l rfl)
 | bad c a => exact Len.bad
 | oof => exact absurd rfl h.1
section
variable {e : Int}
theorem tlK {k : Int} {l : List Tok} (h : (hd e l).kind = k) (hk : k ≠ 9) : l.tail.length + 1 = l.length := by
 cases l with
 | nil => exact absurd h.symm hk
 | cons t l => rfl
theorem tlS {s : ByteArray} {l : List Tok} (h : isS e s l = true) : l.tail.length + 1 = l.length := by
 cases l with
 | nil => cases h
 | cons t l => rfl
theorem tlW {s : ByteArray} {l : List Tok} (h : isW e s l = true) : l.tail.length + 1 = l.length := by
 cases l with
 | nil => cases h
 | cons t l => rfl
theorem tlA {ss : List ByteArray} {l : List Tok} (h : ss.any (fun s => isS e s l) = true) : l.tail.length + 1 = l.length := by
 rw [List.any_eq_true] at h
 obtain ⟨s, _, h⟩ := h
 exact tlS h
theorem Len.iteS {α : Type} {n m : Nat} {s : ByteArray} {l : List Tok} {A B : Rs α} (h : l.tail.length + 1 = l.length → Len n m A) (h' : Len n m B) : Len n m (if isS e s l then A else B) := by
 split
 ·exact h (tlS ‹_›)
 ·exact h'
theorem Len.iteW {α : Type} {n m : Nat} {s : ByteArray} {l : List Tok} {A B : Rs α} (h : l.tail.length + 1 = l.length → Len n m A) (h' : Len n m B) : Len n m (if isW e s l then A else B) := by
 split
 ·exact h (tlW ‹_›)
 ·exact h'
theorem Len.iteA {α : Type} {n m : Nat} {ss : List ByteArray} {l : List Tok} {A B : Rs α} (h : l.tail.length + 1 = l.length → Len n m A) (h' : Len n m B) : Len n m (if ss.any (fun s => isS e s l) then A else B) := by
 split
 ·exact h (tlA ‹_›)
 ·exact h'
theorem Len.iteAW {α : Type} {n m : Nat} {s : ByteArray} {ss : List ByteArray} {l : List Tok} {A B : Rs α} (h : l.tail.length + 1 = l.length → Len n m A) (h' : Len n m B) : Len n m (if ss.any (fun s => isS e s l) || isW e s l then A else B) := by
 split
 ·rename_i hh
  rw [Bool.or_eq_true] at hh; exact h (hh.elim tlA tlW)
 ·exact h'
theorem Len.iteW3 {α : Type} {n m : Nat} {s t u : ByteArray} {l : List Tok} {A B : Rs α} (h : l.tail.length + 1 = l.length → Len n m A) (h' : Len n m B) : Len n m (if isW e s l || isW e t l || isW e u l then A else B) := by
 split
 ·rename_i hh
  rw [Bool.or_eq_true, Bool.or_eq_true] at hh; exact h (hh.elim (fun hh => hh.elim tlW tlW) tlW)
 ·exact h'
theorem Len.needS {s : ByteArray} {l : List Tok} : Len l.length 1 (needS e s l) := by
 unfold Go.Proofs.YtjndbcnmmnkilaaGreatDoor.needS
 exact Len.iteS (fun h => Len.ok lq17) Len.bad
theorem Len.needW {s : ByteArray} {l : List Tok} : Len l.length 1 (needW e s l) := by
 unfold Go.Proofs.YtjndbcnmmnkilaaGreatDoor.needW
 exact Len.iteW (fun h => Len.ok lq17) Len.bad
theorem Len.needK {k : Int} {l : List Tok} (hk : k ≠ 9) : Len l.length 1 (needK e k l) := by
 unfold Go.Proofs.YtjndbcnmmnkilaaGreatDoor.needK
 cases l with
 | nil => rw [if_neg (by intro h; exact hk h.symm)]; exact Len.bad
 | cons t l => split; exact Len.ok lq18; exact Len.bad
theorem Len.tokN {nameB : ByteArray → Bool} {l : List Tok} : Len l.length 1 (tokN nameB e l) := by
 unfold Go.Proofs.YtjndbcnmmnkilaaGreatDoor.tokN
 cases l with
 | nil => rw [if_neg (by intro h; exact absurd h.1 (by show ¬ ((9 : Int) = 1); omega))]; exact Len.bad
 | cons t l => split; exact Len.ok lq18; exact Len.bad
structure EA (p : Ps) (D : Nat) : Prop where
 eexpr : ∀ (l : List Tok), 20 * l.length + 13 ≤ D → Len l.length 1 (p.qexpr l)
 eor : ∀ (l : List Tok), 20 * l.length + 12 ≤ D → Len l.length 1 (p.qor l)
 eorL : ∀ (n : Nd) (l : List Tok), 20 * l.length + 1 ≤ D → Len l.length 0 (p.qorL n l)
 eand : ∀ (l : List Tok), 20 * l.length + 11 ≤ D → Len l.length 1 (p.qand l)
 eandL : ∀ (n : Nd) (l : List Tok), 20 * l.length + 1 ≤ D → Len l.length 0 (p.qandL n l)
 enot : ∀ (l : List Tok), 20 * l.length + 10 ≤ D → Len l.length 1 (p.qnot l)
 ecompare : ∀ (l : List Tok), 20 * l.length + 9 ≤ D → Len l.length 1 (p.qcompare l)
 erow : ∀ (k : Nat) (l : List Tok), k ≤ 4 → 20 * l.length + (4 + k) ≤ D → Len l.length 1 (p.qrow k l)
 erowL : ∀ (k : Nat) (n : Nd) (l : List Tok), k ≤ 4 → 20 * l.length + 1 ≤ D → Len l.length 0 (p.qrowL k n l)
 eminus : ∀ (l : List Tok), 20 * l.length + 3 ≤ D → Len l.length 1 (p.qminus l)
 epostfix : ∀ (l : List Tok), 20 * l.length + 2 ≤ D → Len l.length 1 (p.qpostfix l)
 epostL : ∀ (n : Nd) (l : List Tok), 20 * l.length + 1 ≤ D → Len l.length 0 (p.qpostL n l)
 eargs : ∀ (st : Nat) (ks : List Nd) (l : List Tok), 20 * l.length + 14 ≤ D → Len l.length 0 (p.qargs st ks l)
 eexprs : ∀ (l : List Tok), 20 * l.length + 14 ≤ D → Len l.length 1 (p.qexprs l)
 erest : ∀ (ks : List Nd) (l : List Tok), 20 * l.length + 1 ≤ D → Len l.length 0 (p.qrest ks l)
 eatom : ∀ (l : List Tok), 20 * l.length + 1 ≤ D → Len l.length 1 (p.qatom l)
 eround : ∀ (at_ : Int) (l : List Tok), 20 * l.length + 15 ≤ D → Len l.length 0 (p.qround at_ l)
 ecomp : ∀ (n : Nd) (l : List Tok), 20 * l.length + 1 ≤ D → Len l.length 0 (p.qcomp n l)
 ecompL : ∀ (ks : List Nd) (l : List Tok), 20 * l.length + 1 ≤ D → Len l.length 0 (p.qcompL ks l)
 esquare : ∀ (at_ : Int) (l : List Tok), 20 * l.length + 15 ≤ D → Len l.length 0 (p.qsquare at_ l)
 epair : ∀ (k : Nd) (l : List Tok), 20 * l.length + 1 ≤ D → Len l.length 0 (p.qpair k l)
 eitem : ∀ (l : List Tok), 20 * l.length + 14 ≤ D → Len l.length 0 (p.qitem l)
 eitems : ∀ (ks : List Nd) (l : List Tok), 20 * l.length + 1 ≤ D → Len l.length 0 (p.qitems ks l)
 ecurly : ∀ (at_ : Int) (l : List Tok), 20 * l.length + 15 ≤ D → Len l.length 0 (p.qcurly at_ l)
 etargets : ∀ (l : List Tok), 20 * l.length + 3 ≤ D → Len l.length 0 (p.qtargets l)
 etargL : ∀ (ks : List Nd) (l : List Tok), 20 * l.length + 1 ≤ D → Len l.length 0 (p.qtargL ks l)
 eassign : ∀ (at_ : Int) (l : List Tok), 20 * l.length + 15 ≤ D → Len l.length 1 (p.qassign at_ l)
 enames : ∀ (ks : List Nd) (l : List Tok), 20 * l.length + 1 ≤ D → Len l.length 0 (p.qnames ks l)
 esimple : ∀ (at_ : Int) (l : List Tok), 20 * l.length + 16 ≤ D → Len l.length 1 (p.qsimple at_ l)
 eblock : ∀ (l : List Tok), 20 * l.length + 1 ≤ D → Len l.length 0 (p.qblock l)
 estmts : ∀ (k : Int) (ks : List Nd) (l : List Tok), 20 * l.length + 18 ≤ D → Len l.length 0 (p.qstmts k ks l)
 echoice : ∀ (at_ : Int) (l : List Tok), 20 * l.length + 14 ≤ D → Len l.length 0 (p.qchoice at_ l)
 eparams : ∀ (given : Bool) (ks : List Nd) (l : List Tok), 20 * l.length + 1 ≤ D → Len l.length 0 (p.qparams given ks l)
 eexcepts : ∀ (bare : Bool) (ks : List Nd) (l : List Tok), 20 * l.length + 1 ≤ D → Len l.length 0 (p.qexcepts bare ks l)
 estmt : ∀ (l : List Tok), 20 * l.length + 17 ≤ D → Len l.length 1 (p.qstmt l)
variable {nameB : ByteArray → Bool} {goodB : ByteArray → Bool} {numOf : ByteArray → Option (List Int)}
theorem eA {p : Prop} (h : p := by
 repeat' first
  | with_reducible exact Len.bad
  | ((with_reducible refine Len.ok ?_); (first | omega | (simp only [List.length_tail] at *; omega)); done)
  | ((with_reducible refine Len.ok ?_); (first | (have ht := tlK ‹(hd e _).kind = (3 : Int)› lq16; omega) | (have ht := tlK ‹(hd e _).kind = (4 : Int)› lq16; omega)); done)
  | ((with_reducible refine Len.okT ?_); (first | omega | (simp only [List.length_tail] at *; omega)); done)
  | ((with_reducible first | refine Len.to (h.eexpr _ ?_) ?_ | refine Len.to (h.eor _ ?_) ?_ | refine Len.to (h.eorL _ _ ?_) ?_ | refine Len.to (h.eand _ ?_) ?_ | refine Len.to (h.eandL _ _ ?_) ?_ | refine Len.to (h.enot _ ?_) ?_ | refine Len.to (h.ecompare _ ?_) ?_ | refine Len.to (h.erow _ _ ?_ ?_) ?_ | refine Len.to (h.erowL _ _ _ ?_ ?_) ?_ | refine Len.to (h.eminus _ ?_) ?_ | refine Len.to (h.epostfix _ ?_) ?_ | refine Len.to (h.epostL _ _ ?_) ?_ | refine Len.to (h.eargs _ _ _ ?_) ?_ | refine Len.to (h.eexprs _ ?_) ?_ | refine Len.to (h.erest _ _ ?_) ?_ | refine Len.to (h.eatom _ ?_) ?_ | refine Len.to (h.eround _ _ ?_) ?_ | refine Len.to (h.ecomp _ _ ?_) ?_ | refine Len.to (h.ecompL _ _ ?_) ?_ | refine Len.to (h.esquare _ _ ?_) ?_ | refine Len.to (h.epair _ _ ?_) ?_ | refine Len.to (h.eitem _ ?_) ?_ | refine Len.to (h.eitems _ _ ?_) ?_ | refine Len.to (h.ecurly _ _ ?_) ?_ | refine Len.to (h.etargets _ ?_) ?_ | refine Len.to (h.etargL _ _ ?_) ?_ | refine Len.to (h.eassign _ _ ?_) ?_ | refine Len.to (h.enames _ _ ?_) ?_ | refine Len.to (h.esimple _ _ ?_) ?_ | refine Len.to (h.eblock _ ?_) ?_ | refine Len.to (h.estmts _ _ _ ?_) ?_ | refine Len.to (h.echoice _ _ ?_) ?_ | refine Len.to (h.eparams _ _ _ ?_) ?_ | refine Len.to (h.eexcepts _ _ _ ?_) ?_ | refine Len.to (h.estmt _ ?_) ?_) <;> (first | omega | (simp only [List.length_tail] at *; omega)); done)
  | ((with_reducible first | refine Len.bindC (h.eexpr _ ?_) ?_ (fun a l hl => ?_) | refine Len.bindC (h.eor _ ?_) ?_ (fun a l hl => ?_) | refine Len.bindC (h.eorL _ _ ?_) ?_ (fun a l hl => ?_) | refine Len.bindC (h.eand _ ?_) ?_ (fun a l hl => ?_) | refine Len.bindC (h.eandL _ _ ?_) ?_ (fun a l hl => ?_) | refine Len.bindC (h.enot _ ?_) ?_ (fun a l hl => ?_) | refine Len.bindC (h.ecompare _ ?_) ?_ (fun a l hl => ?_) | refine Len.bindC (h.erow _ _ ?_ ?_) ?_ (fun a l hl => ?_) | refine Len.bindC (h.erowL _ _ _ ?_ ?_) ?_ (fun a l hl => ?_) | refine Len.bindC (h.eminus _ ?_) ?_ (fun a l hl => ?_) | refine Len.bindC (h.epostfix _ ?_) ?_ (fun a l hl => ?_) | refine Len.bindC (h.epostL _ _ ?_) ?_ (fun a l hl => ?_) | refine Len.bindC (h.eargs _ _ _ ?_) ?_ (fun a l hl => ?_) | refine Len.bindC (h.eexprs _ ?_) ?_ (fun a l hl => ?_) | refine Len.bindC (h.erest _ _ ?_) ?_ (fun a l hl => ?_) | refine Len.bindC (h.eatom _ ?_) ?_ (fun a l hl => ?_) | refine Len.bindC (h.eround _ _ ?_) ?_ (fun a l hl => ?_) | refine Len.bindC (h.ecomp _ _ ?_) ?_ (fun a l hl => ?_) | refine Len.bindC (h.ecompL _ _ ?_) ?_ (fun a l hl => ?_) | refine Len.bindC (h.esquare _ _ ?_) ?_ (fun a l hl => ?_) | refine Len.bindC (h.epair _ _ ?_) ?_ (fun a l hl => ?_) | refine Len.bindC (h.eitem _ ?_) ?_ (fun a l hl => ?_) | refine Len.bindC (h.eitems _ _ ?_) ?_ (fun a l hl => ?_) | refine Len.bindC (h.ecurly _ _ ?_) ?_ (fun a l hl => ?_) | refine Len.bindC (h.etargets _ ?_) ?_ (fun a l hl => ?_) | refine Len.bindC (h.etargL _ _ ?_) ?_ (fun a l hl => ?_) | refine Len.bindC (h.eassign _ _ ?_) ?_ (fun a l hl => ?_) | refine Len.bindC (h.enames _ _ ?_) ?_ (fun a l hl => ?_) | refine Len.bindC (h.esimple _ _ ?_) ?_ (fun a l hl => ?_) | refine Len.bindC (h.eblock _ ?_) ?_ (fun a l hl => ?_) | refine Len.bindC (h.estmts _ _ _ ?_) ?_ (fun a l hl => ?_) | refine Len.bindC (h.echoice _ _ ?_) ?_ (fun a l hl => ?_) | refine Len.bindC (h.eparams _ _ _ ?_) ?_ (fun a l hl => ?_) | refine Len.bindC (h.eexcepts _ _ _ ?_) ?_ (fun a l hl => ?_) | refine Len.bindC (h.estmt _ ?_) ?_ (fun a l hl => ?_)); all_goals (first | ((first | omega | (simp only [List.length_tail] at *; omega)); done) | skip))
  | (with_reducible refine Len.bindC Len.needS lq9 (fun a l hl => ?_))
  | (with_reducible refine Len.bindC Len.needW lq9 (fun a l hl => ?_))
  | (with_reducible refine Len.bindC Len.tokN lq9 (fun a l hl => ?_))
  | (with_reducible refine Len.bindC (Len.needK lq16) lq9 (fun a l hl => ?_))
  | (with_reducible refine Len.iteS (fun ht => ?_) ?_)
  | (with_reducible refine Len.iteW (fun ht => ?_) ?_)
  | (with_reducible refine Len.iteA (fun ht => ?_) ?_)
  | (with_reducible refine Len.iteAW (fun ht => ?_) ?_)
  | (with_reducible refine Len.iteW3 (fun ht => ?_) ?_)
  | (with_reducible refine Len.bind (x := ite _ _ _) (k := 0) ?_ (fun a l hl => ?_))
  | (with_reducible refine Len.bind (x := Rs.bind _ _) (k := 0) ?_ (fun a l hl => ?_))
  | split) : p := h
theorem eB {p : Prop} (h : p := by
 repeat' first
  | with_reducible exact Len.bad
  | ((with_reducible refine Len.ok ?_); (first | omega | (simp only [List.length_tail] at *; omega)); done)
  | ((with_reducible refine Len.ok ?_); (first | (have ht := tlK ‹(hd e _).kind = (3 : Int)› lq16; omega) | (have ht := tlK ‹(hd e _).kind = (4 : Int)› lq16; omega)); done)
  | ((with_reducible refine Len.okT ?_); (first | omega | (simp only [List.length_tail] at *; omega)); done)
  | ((with_reducible first | refine Len.to (h.eexpr _ ?_) ?_ | refine Len.to (h.eor _ ?_) ?_ | refine Len.to (h.eorL _ _ ?_) ?_ | refine Len.to (h.eand _ ?_) ?_ | refine Len.to (h.eandL _ _ ?_) ?_ | refine Len.to (h.enot _ ?_) ?_ | refine Len.to (h.ecompare _ ?_) ?_ | refine Len.to (h.erow _ _ ?_ ?_) ?_ | refine Len.to (h.erowL _ _ _ ?_ ?_) ?_ | refine Len.to (h.eminus _ ?_) ?_ | refine Len.to (h.epostfix _ ?_) ?_ | refine Len.to (h.epostL _ _ ?_) ?_ | refine Len.to (h.eargs _ _ _ ?_) ?_ | refine Len.to (h.eexprs _ ?_) ?_ | refine Len.to (h.erest _ _ ?_) ?_ | refine Len.to (h.eatom _ ?_) ?_ | refine Len.to (h.eround _ _ ?_) ?_ | refine Len.to (h.ecomp _ _ ?_) ?_ | refine Len.to (h.ecompL _ _ ?_) ?_ | refine Len.to (h.esquare _ _ ?_) ?_ | refine Len.to (h.epair _ _ ?_) ?_ | refine Len.to (h.eitem _ ?_) ?_ | refine Len.to (h.eitems _ _ ?_) ?_ | refine Len.to (h.ecurly _ _ ?_) ?_ | refine Len.to (h.etargets _ ?_) ?_ | refine Len.to (h.etargL _ _ ?_) ?_ | refine Len.to (h.eassign _ _ ?_) ?_ | refine Len.to (h.enames _ _ ?_) ?_ | refine Len.to (h.esimple _ _ ?_) ?_ | refine Len.to (h.eblock _ ?_) ?_ | refine Len.to (h.estmts _ _ _ ?_) ?_ | refine Len.to (h.echoice _ _ ?_) ?_ | refine Len.to (h.eparams _ _ _ ?_) ?_ | refine Len.to (h.eexcepts _ _ _ ?_) ?_ | refine Len.to (h.estmt _ ?_) ?_) <;> (first | omega | (simp only [List.length_tail] at *; omega)); done)
  | ((with_reducible first | refine Len.bindC (h.eexpr _ ?_) ?_ (fun a l hl => ?_) | refine Len.bindC (h.eor _ ?_) ?_ (fun a l hl => ?_) | refine Len.bindC (h.eorL _ _ ?_) ?_ (fun a l hl => ?_) | refine Len.bindC (h.eand _ ?_) ?_ (fun a l hl => ?_) | refine Len.bindC (h.eandL _ _ ?_) ?_ (fun a l hl => ?_) | refine Len.bindC (h.enot _ ?_) ?_ (fun a l hl => ?_) | refine Len.bindC (h.ecompare _ ?_) ?_ (fun a l hl => ?_) | refine Len.bindC (h.erow _ _ ?_ ?_) ?_ (fun a l hl => ?_) | refine Len.bindC (h.erowL _ _ _ ?_ ?_) ?_ (fun a l hl => ?_) | refine Len.bindC (h.eminus _ ?_) ?_ (fun a l hl => ?_) | refine Len.bindC (h.epostfix _ ?_) ?_ (fun a l hl => ?_) | refine Len.bindC (h.epostL _ _ ?_) ?_ (fun a l hl => ?_) | refine Len.bindC (h.eargs _ _ _ ?_) ?_ (fun a l hl => ?_) | refine Len.bindC (h.eexprs _ ?_) ?_ (fun a l hl => ?_) | refine Len.bindC (h.erest _ _ ?_) ?_ (fun a l hl => ?_) | refine Len.bindC (h.eatom _ ?_) ?_ (fun a l hl => ?_) | refine Len.bindC (h.eround _ _ ?_) ?_ (fun a l hl => ?_) | refine Len.bindC (h.ecomp _ _ ?_) ?_ (fun a l hl => ?_) | refine Len.bindC (h.ecompL _ _ ?_) ?_ (fun a l hl => ?_) | refine Len.bindC (h.esquare _ _ ?_) ?_ (fun a l hl => ?_) | refine Len.bindC (h.epair _ _ ?_) ?_ (fun a l hl => ?_) | refine Len.bindC (h.eitem _ ?_) ?_ (fun a l hl => ?_) | refine Len.bindC (h.eitems _ _ ?_) ?_ (fun a l hl => ?_) | refine Len.bindC (h.ecurly _ _ ?_) ?_ (fun a l hl => ?_) | refine Len.bindC (h.etargets _ ?_) ?_ (fun a l hl => ?_) | refine Len.bindC (h.etargL _ _ ?_) ?_ (fun a l hl => ?_) | refine Len.bindC (h.eassign _ _ ?_) ?_ (fun a l hl => ?_) | refine Len.bindC (h.enames _ _ ?_) ?_ (fun a l hl => ?_) | refine Len.bindC (h.esimple _ _ ?_) ?_ (fun a l hl => ?_) | refine Len.bindC (h.eblock _ ?_) ?_ (fun a l hl => ?_) | refine Len.bindC (h.estmts _ _ _ ?_) ?_ (fun a l hl => ?_) | refine Len.bindC (h.echoice _ _ ?_) ?_ (fun a l hl => ?_) | refine Len.bindC (h.eparams _ _ _ ?_) ?_ (fun a l hl => ?_) | refine Len.bindC (h.eexcepts _ _ _ ?_) ?_ (fun a l hl => ?_) | refine Len.bindC (h.estmt _ ?_) ?_ (fun a l hl => ?_)); all_goals (first | ((first | omega | (simp only [List.length_tail] at *; omega)); done) | skip))
  | (with_reducible refine Len.bindC Len.needS lq9 (fun a l hl => ?_))
  | (with_reducible refine Len.bindC Len.needW lq9 (fun a l hl => ?_))
  | (with_reducible refine Len.bindC Len.tokN lq9 (fun a l hl => ?_))
  | (with_reducible refine Len.bindC (Len.needK lq16) lq9 (fun a l hl => ?_))
  | (with_reducible refine Len.iteS (fun ht => ?_) ?_)
  | (with_reducible refine Len.iteW (fun ht => ?_) ?_)
  | (with_reducible refine Len.iteA (fun ht => ?_) ?_)
  | (with_reducible refine Len.iteAW (fun ht => ?_) ?_)
  | (with_reducible refine Len.iteW3 (fun ht => ?_) ?_)
  | (with_reducible refine Len.bind (x := ite _ _ _) (k := 1) ?_ (fun a l hl => ?_))
  | (with_reducible refine Len.bind (x := Rs.bind _ _) (k := 1) ?_ (fun a l hl => ?_))
  | split) : p := h
theorem len_expr {p : Ps} {D : Nat} (h : EA p D) (l : List Tok) : 20 * l.length + 13 ≤ D + 1 → Len l.length 1 ((step nameB goodB numOf e p).qexpr l) := by
 show 20 * l.length + 13 ≤ D + 1 → Len l.length 1 (s_expr e p l)
 intro hD
 unfold s_expr
 exact eA
theorem len_or {p : Ps} {D : Nat} (h : EA p D) (l : List Tok) : 20 * l.length + 12 ≤ D + 1 → Len l.length 1 ((step nameB goodB numOf e p).qor l) := by
 show 20 * l.length + 12 ≤ D + 1 → Len l.length 1 (s_or p l)
 intro hD
 unfold s_or
 exact eA
theorem len_orL {p : Ps} {D : Nat} (h : EA p D) (n : Nd) (l : List Tok) : 20 * l.length + 1 ≤ D + 1 → Len l.length 0 ((step nameB goodB numOf e p).qorL n l) := by
 show 20 * l.length + 1 ≤ D + 1 → Len l.length 0 (s_orL e p n l)
 intro hD
 unfold s_orL
 exact eA
theorem len_and {p : Ps} {D : Nat} (h : EA p D) (l : List Tok) : 20 * l.length + 11 ≤ D + 1 → Len l.length 1 ((step nameB goodB numOf e p).qand l) := by
 show 20 * l.length + 11 ≤ D + 1 → Len l.length 1 (s_and p l)
 intro hD
 unfold s_and
 exact eA
theorem len_andL {p : Ps} {D : Nat} (h : EA p D) (n : Nd) (l : List Tok) : 20 * l.length + 1 ≤ D + 1 → Len l.length 0 ((step nameB goodB numOf e p).qandL n l) := by
 show 20 * l.length + 1 ≤ D + 1 → Len l.length 0 (s_andL e p n l)
 intro hD
 unfold s_andL
 exact eA
theorem len_not {p : Ps} {D : Nat} (h : EA p D) (l : List Tok) : 20 * l.length + 10 ≤ D + 1 → Len l.length 1 ((step nameB goodB numOf e p).qnot l) := by
 show 20 * l.length + 10 ≤ D + 1 → Len l.length 1 (s_not e p l)
 intro hD
 unfold s_not
 exact eA
theorem len_compare {p : Ps} {D : Nat} (h : EA p D) (l : List Tok) : 20 * l.length + 9 ≤ D + 1 → Len l.length 1 ((step nameB goodB numOf e p).qcompare l) := by
 show 20 * l.length + 9 ≤ D + 1 → Len l.length 1 (s_compare e p l)
 intro hD
 unfold s_compare
 exact eA
theorem len_row {p : Ps} {D : Nat} (h : EA p D) (k : Nat) (l : List Tok) : k ≤ 4 → 20 * l.length + (4 + k) ≤ D + 1 → Len l.length 1 ((step nameB goodB numOf e p).qrow k l) := by
 show k ≤ 4 → 20 * l.length + (4 + k) ≤ D + 1 → Len l.length 1 (s_row p k l)
 intro hk
 intro hD
 unfold s_row
 exact eA
theorem len_rowL {p : Ps} {D : Nat} (h : EA p D) (k : Nat) (n : Nd) (l : List Tok) : k ≤ 4 → 20 * l.length + 1 ≤ D + 1 → Len l.length 0 ((step nameB goodB numOf e p).qrowL k n l) := by
 show k ≤ 4 → 20 * l.length + 1 ≤ D + 1 → Len l.length 0 (s_rowL e p k n l)
 intro hk
 intro hD
 unfold s_rowL
 exact eA
theorem len_minus {p : Ps} {D : Nat} (h : EA p D) (l : List Tok) : 20 * l.length + 3 ≤ D + 1 → Len l.length 1 ((step nameB goodB numOf e p).qminus l) := by
 show 20 * l.length + 3 ≤ D + 1 → Len l.length 1 (s_minus e p l)
 intro hD
 unfold s_minus
 exact eA
theorem len_postfix {p : Ps} {D : Nat} (h : EA p D) (l : List Tok) : 20 * l.length + 2 ≤ D + 1 → Len l.length 1 ((step nameB goodB numOf e p).qpostfix l) := by
 show 20 * l.length + 2 ≤ D + 1 → Len l.length 1 (s_postfix p l)
 intro hD
 unfold s_postfix
 exact eA
theorem len_postL {p : Ps} {D : Nat} (h : EA p D) (n : Nd) (l : List Tok) : 20 * l.length + 1 ≤ D + 1 → Len l.length 0 ((step nameB goodB numOf e p).qpostL n l) := by
 show 20 * l.length + 1 ≤ D + 1 → Len l.length 0 (s_postL nameB e p n l)
 intro hD
 unfold s_postL
 exact eA
theorem len_args {p : Ps} {D : Nat} (h : EA p D) (st : Nat) (ks : List Nd) (l : List Tok) : 20 * l.length + 14 ≤ D + 1 → Len l.length 0 ((step nameB goodB numOf e p).qargs st ks l) := by
 show 20 * l.length + 14 ≤ D + 1 → Len l.length 0 (s_args nameB e p st ks l)
 intro hD
 unfold s_args
 exact eA
theorem len_exprs {p : Ps} {D : Nat} (h : EA p D) (l : List Tok) : 20 * l.length + 14 ≤ D + 1 → Len l.length 1 ((step nameB goodB numOf e p).qexprs l) := by
 show 20 * l.length + 14 ≤ D + 1 → Len l.length 1 (s_exprs e p l)
 intro hD
 unfold s_exprs
 exact eA
theorem len_rest {p : Ps} {D : Nat} (h : EA p D) (ks : List Nd) (l : List Tok) : 20 * l.length + 1 ≤ D + 1 → Len l.length 0 ((step nameB goodB numOf e p).qrest ks l) := by
 show 20 * l.length + 1 ≤ D + 1 → Len l.length 0 (s_rest e p ks l)
 intro hD
 unfold s_rest
 exact eA
theorem len_atom {p : Ps} {D : Nat} (h : EA p D) (l : List Tok) : 20 * l.length + 1 ≤ D + 1 → Len l.length 1 ((step nameB goodB numOf e p).qatom l) := by
 show 20 * l.length + 1 ≤ D + 1 → Len l.length 1 (s_atom nameB goodB numOf e p l)
 intro hD
 unfold s_atom
 exact eA
theorem len_round {p : Ps} {D : Nat} (h : EA p D) (at_ : Int) (l : List Tok) : 20 * l.length + 15 ≤ D + 1 → Len l.length 0 ((step nameB goodB numOf e p).qround at_ l) := by
 show 20 * l.length + 15 ≤ D + 1 → Len l.length 0 (s_round e p at_ l)
 intro hD
 unfold s_round
 exact eA
theorem len_comp {p : Ps} {D : Nat} (h : EA p D) (n : Nd) (l : List Tok) : 20 * l.length + 1 ≤ D + 1 → Len l.length 0 ((step nameB goodB numOf e p).qcomp n l) := by
 show 20 * l.length + 1 ≤ D + 1 → Len l.length 0 (s_comp e p n l)
 intro hD
 unfold s_comp
 exact eA
theorem len_compL {p : Ps} {D : Nat} (h : EA p D) (ks : List Nd) (l : List Tok) : 20 * l.length + 1 ≤ D + 1 → Len l.length 0 ((step nameB goodB numOf e p).qcompL ks l) := by
 show 20 * l.length + 1 ≤ D + 1 → Len l.length 0 (s_compL e p ks l)
 intro hD
 unfold s_compL
 exact eA
theorem len_square {p : Ps} {D : Nat} (h : EA p D) (at_ : Int) (l : List Tok) : 20 * l.length + 15 ≤ D + 1 → Len l.length 0 ((step nameB goodB numOf e p).qsquare at_ l) := by
 show 20 * l.length + 15 ≤ D + 1 → Len l.length 0 (s_square e p at_ l)
 intro hD
 unfold s_square
 exact eA
theorem len_pair {p : Ps} {D : Nat} (h : EA p D) (k : Nd) (l : List Tok) : 20 * l.length + 1 ≤ D + 1 → Len l.length 0 ((step nameB goodB numOf e p).qpair k l) := by
 show 20 * l.length + 1 ≤ D + 1 → Len l.length 0 (s_pair e p k l)
 intro hD
 unfold s_pair
 exact eA
theorem len_item {p : Ps} {D : Nat} (h : EA p D) (l : List Tok) : 20 * l.length + 14 ≤ D + 1 → Len l.length 0 ((step nameB goodB numOf e p).qitem l) := by
 show 20 * l.length + 14 ≤ D + 1 → Len l.length 0 (s_item e p l)
 intro hD
 unfold s_item
 exact eA
theorem len_items {p : Ps} {D : Nat} (h : EA p D) (ks : List Nd) (l : List Tok) : 20 * l.length + 1 ≤ D + 1 → Len l.length 0 ((step nameB goodB numOf e p).qitems ks l) := by
 show 20 * l.length + 1 ≤ D + 1 → Len l.length 0 (s_items e p ks l)
 intro hD
 unfold s_items
 exact eA
theorem len_curly {p : Ps} {D : Nat} (h : EA p D) (at_ : Int) (l : List Tok) : 20 * l.length + 15 ≤ D + 1 → Len l.length 0 ((step nameB goodB numOf e p).qcurly at_ l) := by
 show 20 * l.length + 15 ≤ D + 1 → Len l.length 0 (s_curly e p at_ l)
 intro hD
 unfold s_curly
 exact eA
theorem len_targets {p : Ps} {D : Nat} (h : EA p D) (l : List Tok) : 20 * l.length + 3 ≤ D + 1 → Len l.length 0 ((step nameB goodB numOf e p).qtargets l) := by
 show 20 * l.length + 3 ≤ D + 1 → Len l.length 0 (s_targets p l)
 intro hD
 unfold s_targets
 exact eA
theorem len_targL {p : Ps} {D : Nat} (h : EA p D) (ks : List Nd) (l : List Tok) : 20 * l.length + 1 ≤ D + 1 → Len l.length 0 ((step nameB goodB numOf e p).qtargL ks l) := by
 show 20 * l.length + 1 ≤ D + 1 → Len l.length 0 (s_targL e p ks l)
 intro hD
 unfold s_targL
 exact eA
theorem len_assign {p : Ps} {D : Nat} (h : EA p D) (at_ : Int) (l : List Tok) : 20 * l.length + 15 ≤ D + 1 → Len l.length 1 ((step nameB goodB numOf e p).qassign at_ l) := by
 show 20 * l.length + 15 ≤ D + 1 → Len l.length 1 (s_assign e p at_ l)
 intro hD
 unfold s_assign
 exact eA
theorem len_names {p : Ps} {D : Nat} (h : EA p D) (ks : List Nd) (l : List Tok) : 20 * l.length + 1 ≤ D + 1 → Len l.length 0 ((step nameB goodB numOf e p).qnames ks l) := by
 show 20 * l.length + 1 ≤ D + 1 → Len l.length 0 (s_names nameB e p ks l)
 intro hD
 unfold s_names
 exact eA
theorem len_simple {p : Ps} {D : Nat} (h : EA p D) (at_ : Int) (l : List Tok) : 20 * l.length + 16 ≤ D + 1 → Len l.length 1 ((step nameB goodB numOf e p).qsimple at_ l) := by
 show 20 * l.length + 16 ≤ D + 1 → Len l.length 1 (s_simple e p at_ l)
 intro hD
 unfold s_simple
 exact eA
theorem len_block {p : Ps} {D : Nat} (h : EA p D) (l : List Tok) : 20 * l.length + 1 ≤ D + 1 → Len l.length 0 ((step nameB goodB numOf e p).qblock l) := by
 show 20 * l.length + 1 ≤ D + 1 → Len l.length 0 (s_block e p l)
 intro hD
 unfold s_block
 exact eA
theorem len_stmts {p : Ps} {D : Nat} (h : EA p D) (k : Int) (ks : List Nd) (l : List Tok) : 20 * l.length + 18 ≤ D + 1 → Len l.length 0 ((step nameB goodB numOf e p).qstmts k ks l) := by
 show 20 * l.length + 18 ≤ D + 1 → Len l.length 0 (s_stmts e p k ks l)
 intro hD
 unfold s_stmts
 exact eA
theorem len_choice {p : Ps} {D : Nat} (h : EA p D) (at_ : Int) (l : List Tok) : 20 * l.length + 14 ≤ D + 1 → Len l.length 0 ((step nameB goodB numOf e p).qchoice at_ l) := by
 show 20 * l.length + 14 ≤ D + 1 → Len l.length 0 (s_choice e p at_ l)
 intro hD
 unfold s_choice
 exact eA
theorem len_params {p : Ps} {D : Nat} (h : EA p D) (given : Bool) (ks : List Nd) (l : List Tok) : 20 * l.length + 1 ≤ D + 1 → Len l.length 0 ((step nameB goodB numOf e p).qparams given ks l) := by
 show 20 * l.length + 1 ≤ D + 1 → Len l.length 0 (s_params nameB e p given ks l)
 intro hD
 unfold s_params
 exact eA
theorem len_excepts {p : Ps} {D : Nat} (h : EA p D) (bare : Bool) (ks : List Nd) (l : List Tok) : 20 * l.length + 1 ≤ D + 1 → Len l.length 0 ((step nameB goodB numOf e p).qexcepts bare ks l) := by
 show 20 * l.length + 1 ≤ D + 1 → Len l.length 0 (s_excepts nameB e p bare ks l)
 intro hD
 unfold s_excepts
 exact eB
theorem len_stmt {p : Ps} {D : Nat} (h : EA p D) (l : List Tok) : 20 * l.length + 17 ≤ D + 1 → Len l.length 1 ((step nameB goodB numOf e p).qstmt l) := by
 show 20 * l.length + 17 ≤ D + 1 → Len l.length 1 (s_stmt nameB e p l)
 intro hD
 unfold s_stmt
 exact eB
theorem ea_step {p : Ps} {D : Nat} (h : EA p D) : EA (step nameB goodB numOf e p) (D + 1) where
 eexpr := len_expr h
 eor := len_or h
 eorL := len_orL h
 eand := len_and h
 eandL := len_andL h
 enot := len_not h
 ecompare := len_compare h
 erow := len_row h
 erowL := len_rowL h
 eminus := len_minus h
 epostfix := len_postfix h
 epostL := len_postL h
 eargs := len_args h
 eexprs := len_exprs h
 erest := len_rest h
 eatom := len_atom h
 eround := len_round h
 ecomp := len_comp h
 ecompL := len_compL h
 esquare := len_square h
 epair := len_pair h
 eitem := len_item h
 eitems := len_items h
 ecurly := len_curly h
 etargets := len_targets h
 etargL := len_targL h
 eassign := len_assign h
 enames := len_names h
 esimple := len_simple h
 eblock := len_block h
 estmts := len_stmts h
 echoice := len_choice h
 eparams := len_params h
 eexcepts := len_excepts h
 estmt := len_stmt h
theorem ea_all (nameB : ByteArray → Bool) (goodB : ByteArray → Bool) (numOf : ByteArray → Option (List Int)) (e : Int) : ∀ D, EA (Pp nameB goodB numOf e D) D
 | 0 => by constructor <;> intros <;> omega
 | D + 1 => ea_step (ea_all nameB goodB numOf e D)
theorem pp_enough (nameB : ByteArray → Bool) (goodB : ByteArray → Bool) (numOf : ByteArray → Option (List Int)) (e : Int) (l : List Tok) (D : Nat) (hD : 20 * l.length + 18 ≤ D) (k : Int) : (Pp nameB goodB numOf e D).qstmts k [] l ≠ .oof := ((ea_all nameB goodB numOf e D).estmts k [] l hD).1
end
end
end Go.Proofs.YtjndbcnmmnkilaaGreatDoor
