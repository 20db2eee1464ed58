/- Joined by a program: PaH. -/
import Derived.Test.YtjndbcnmmnkilaaGreatDoorPF02
namespace Go.Proofs.YtjndbcnmmnkilaaGreatDoor
set_option linter.unusedVariables false
set_option linter.unusedSimpArgs false
set_option maxRecDepth 1000000
set_option maxHeartbeats 16000000
section
open List (length_append length_cons length_nil length_singleton)
section
variable (P : Int → Prop)
mutual
def NP : Nd → Prop
 | .mk _ p _ _ _ ks => P p ∧ LN ks
def LN : List Nd → Prop
 | [] => True
 | t :: r => NP t ∧ LN r
end
def Lp (l : List Tok) : Prop := ∀ t ∈ l, P t.pos
class Tells (α : Type) where
 hp : (Int → Prop) → α → Prop
instance : Tells Nd := ⟨NP⟩
instance : Tells (List Nd) := ⟨LN⟩
instance : Tells Tok := ⟨fun P t => P t.pos⟩
instance : Tells (Nat × Nd) := ⟨fun P a => NP P a.2⟩
instance : Tells (Bool × Nd) := ⟨fun P a => NP P a.2⟩
instance : Tells Unit := ⟨fun _ _ => True⟩
instance : Tells ByteArray := ⟨fun _ _ => True⟩
def Gd {α : Type} [Tells α] : Rs α → Prop
 | .ok a l => Tells.hp P a ∧ Lp P l
 | .bad _ p => P p
 | .oof => True
end
section
variable {P : Int → Prop} {e : Int} {l : List Tok} {ks ks' : List Nd} {n t : Nd}
theorem NP.mk {k p : Int} {t : ByteArray} {g : Bool} {m : List Int} (hp : P p) (h : LN P ks) : NP P (.mk k p t g m ks) := by rw [NP]; exact ⟨hp, h⟩
theorem NP.pos (h : NP P n) : P n.pos := by cases n; rw [NP] at h; exact h.1
theorem NP.kids (h : NP P n) : LN P n.kids := by cases n; rw [NP] at h; exact h.2
theorem LN.nil : LN P [] := by rw [LN]; trivial
theorem LN.cons (h : NP P t) (h' : LN P ks) : LN P (t :: ks) := by rw [LN]; exact ⟨h, h'⟩
theorem LN.head (h : LN P (t :: ks)) : NP P t := by rw [LN] at h; exact h.1
theorem LN.rest (h : LN P (t :: ks)) : LN P ks := by rw [LN] at h; exact h.2
theorem LN.app (h : LN P ks) (h' : LN P ks') : LN P (ks ++ ks') := by
 induction ks with
 | nil => exact h'
 | cons a r ih => exact LN.cons h.head (ih h.rest)
theorem Lp.tail (h : Lp P l) : Lp P l.tail := fun t ht => h t (List.mem_of_mem_tail ht)
theorem Lp.hd (h : Lp P l) (he : P e) : P (hd e l).pos := by
 cases l with
 | nil => exact he
 | cons t r => exact h t (List.mem_cons_self ..)
theorem badT_np {a : Int} (h : LN P ks) (hb : badT ks = some a) : P a := by
 induction ks with
 | nil => cases hb
 | cons t r ih =>
  unfold badT at hb
  first
   | (split at hb
      ·exact ih h.rest hb
      ·cases hb; exact h.head.pos)
   | (split at hb
      ·cases hb; exact h.head.pos
      ·exact ih h.rest hb)
section
variable {α β : Type} [Tells α] [Tells β]
theorem Gd.ok {a : α} (h : Tells.hp P a) (h' : Lp P l) : Gd P (Rs.ok a l) := ⟨h, h'⟩
theorem Gd.bad {c p : Int} (h : P p) : Gd P (Rs.bad c p : Rs α) := h
theorem Gd.bind {x : Rs α} {f : α → List Tok → Rs β} (h : Gd P x) (hf : ∀ a l, Tells.hp P a → Lp P l → Gd P (f a l)) : Gd P (x.bind f) := by
 cases x with
 | ok a l => exact hf a l h.1 h.2
 | bad c a => exact h
 | oof => exact trivial
end
theorem Gd.needS {s : ByteArray} (hl : Lp P l) (he : P e) : Gd P (needS e s l) := by unfold Go.Proofs.YtjndbcnmmnkilaaGreatDoor.needS; split; exact Gd.ok trivial hl.tail; exact Gd.bad (hl.hd he)
theorem Gd.needW {s : ByteArray} (hl : Lp P l) (he : P e) : Gd P (needW e s l) := by unfold Go.Proofs.YtjndbcnmmnkilaaGreatDoor.needW; split; exact Gd.ok trivial hl.tail; exact Gd.bad (hl.hd he)
theorem Gd.needK {k : Int} (hl : Lp P l) (he : P e) : Gd P (needK e k l) := by unfold Go.Proofs.YtjndbcnmmnkilaaGreatDoor.needK; split; exact Gd.ok trivial hl.tail; exact Gd.bad (hl.hd he)
theorem Gd.tokN {nB : ByteArray → Bool} (hl : Lp P l) (he : P e) : Gd P (tokN nB e l) := by unfold Go.Proofs.YtjndbcnmmnkilaaGreatDoor.tokN; split; exact Gd.ok (hl.hd he) hl.tail; exact Gd.bad (hl.hd he)
structure GA (P : Int → Prop) (p : Ps) : Prop where
 gexpr : ∀ (l : List Tok), Lp P l → Gd P (p.qexpr l)
 gor : ∀ (l : List Tok), Lp P l → Gd P (p.qor l)
 gorL : ∀ (n : Nd) (l : List Tok), NP P n → Lp P l → Gd P (p.qorL n l)
 gand : ∀ (l : List Tok), Lp P l → Gd P (p.qand l)
 gandL : ∀ (n : Nd) (l : List Tok), NP P n → Lp P l → Gd P (p.qandL n l)
 gnot : ∀ (l : List Tok), Lp P l → Gd P (p.qnot l)
 gcompare : ∀ (l : List Tok), Lp P l → Gd P (p.qcompare l)
 grow : ∀ (k : Nat) (l : List Tok), Lp P l → Gd P (p.qrow k l)
 growL : ∀ (k : Nat) (n : Nd) (l : List Tok), NP P n → Lp P l → Gd P (p.qrowL k n l)
 gminus : ∀ (l : List Tok), Lp P l → Gd P (p.qminus l)
 gpostfix : ∀ (l : List Tok), Lp P l → Gd P (p.qpostfix l)
 gpostL : ∀ (n : Nd) (l : List Tok), NP P n → Lp P l → Gd P (p.qpostL n l)
 gargs : ∀ (st : Nat) (ks : List Nd) (l : List Tok), LN P ks → Lp P l → Gd P (p.qargs st ks l)
 gexprs : ∀ (l : List Tok), Lp P l → Gd P (p.qexprs l)
 grest : ∀ (ks : List Nd) (l : List Tok), LN P ks → Lp P l → Gd P (p.qrest ks l)
 gatom : ∀ (l : List Tok), Lp P l → Gd P (p.qatom l)
 ground : ∀ (at_ : Int) (l : List Tok), P at_ → Lp P l → Gd P (p.qround at_ l)
 gcomp : ∀ (n : Nd) (l : List Tok), NP P n → Lp P l → Gd P (p.qcomp n l)
 gcompL : ∀ (ks : List Nd) (l : List Tok), LN P ks → Lp P l → Gd P (p.qcompL ks l)
 gsquare : ∀ (at_ : Int) (l : List Tok), P at_ → Lp P l → Gd P (p.qsquare at_ l)
 gpair : ∀ (k : Nd) (l : List Tok), NP P k → Lp P l → Gd P (p.qpair k l)
 gitem : ∀ (l : List Tok), Lp P l → Gd P (p.qitem l)
 gitems : ∀ (ks : List Nd) (l : List Tok), LN P ks → Lp P l → Gd P (p.qitems ks l)
 gcurly : ∀ (at_ : Int) (l : List Tok), P at_ → Lp P l → Gd P (p.qcurly at_ l)
 gtargets : ∀ (l : List Tok), Lp P l → Gd P (p.qtargets l)
 gtargL : ∀ (ks : List Nd) (l : List Tok), LN P ks → Lp P l → Gd P (p.qtargL ks l)
 gassign : ∀ (at_ : Int) (l : List Tok), P at_ → Lp P l → Gd P (p.qassign at_ l)
 gnames : ∀ (ks : List Nd) (l : List Tok), LN P ks → Lp P l → Gd P (p.qnames ks l)
 gsimple : ∀ (at_ : Int) (l : List Tok), P at_ → Lp P l → Gd P (p.qsimple at_ l)
 gblock : ∀ (l : List Tok), Lp P l → Gd P (p.qblock l)
 gstmts : ∀ (k : Int) (ks : List Nd) (l : List Tok), LN P ks → Lp P l → Gd P (p.qstmts k ks l)
 gchoice : ∀ (at_ : Int) (l : List Tok), P at_ → Lp P l → Gd P (p.qchoice at_ l)
 gparams : ∀ (given : Bool) (ks : List Nd) (l : List Tok), LN P ks → Lp P l → Gd P (p.qparams given ks l)
 gexcepts : ∀ (bare : Bool) (ks : List Nd) (l : List Tok), LN P ks → Lp P l → Gd P (p.qexcepts bare ks l)
 gstmt : ∀ (l : List Tok), Lp P l → Gd P (p.qstmt l)
variable {nameB : ByteArray → Bool} {goodB : ByteArray → Bool} {numOf : ByteArray → Option (List Int)}
theorem gA {p : Prop} (h : p := by
 repeat' first
  | ((with_reducible refine Gd.bad ?_); ((repeat' first | assumption | exact trivial | with_reducible_and_instances exact LN.nil | exact NP.pos (by assumption) | exact NP.kids (by assumption) | exact LN.head (by assumption) | with_reducible_and_instances refine NP.mk ?_ ?_ | with_reducible_and_instances refine LN.cons ?_ ?_ | with_reducible_and_instances refine LN.app ?_ ?_ | with_reducible refine Lp.tail ?_ | with_reducible_and_instances refine Lp.hd ?_ ?_ | exact badT_np (by assumption) (by assumption) | split); done))
  | ((with_reducible refine Gd.ok ?_ ?_) <;> ((repeat' first | assumption | exact trivial | with_reducible_and_instances exact LN.nil | exact NP.pos (by assumption) | exact NP.kids (by assumption) | exact LN.head (by assumption) | with_reducible_and_instances refine NP.mk ?_ ?_ | with_reducible_and_instances refine LN.cons ?_ ?_ | with_reducible_and_instances refine LN.app ?_ ?_ | with_reducible refine Lp.tail ?_ | with_reducible_and_instances refine Lp.hd ?_ ?_ | exact badT_np (by assumption) (by assumption) | split); done))
  | ((with_reducible first | refine h.gexpr _ ?_ | refine h.gor _ ?_ | refine h.gorL _ _ ?_ ?_ | refine h.gand _ ?_ | refine h.gandL _ _ ?_ ?_ | refine h.gnot _ ?_ | refine h.gcompare _ ?_ | refine h.grow _ _ ?_ | refine h.growL _ _ _ ?_ ?_ | refine h.gminus _ ?_ | refine h.gpostfix _ ?_ | refine h.gpostL _ _ ?_ ?_ | refine h.gargs _ _ _ ?_ ?_ | refine h.gexprs _ ?_ | refine h.grest _ _ ?_ ?_ | refine h.gatom _ ?_ | refine h.ground _ _ ?_ ?_ | refine h.gcomp _ _ ?_ ?_ | refine h.gcompL _ _ ?_ ?_ | refine h.gsquare _ _ ?_ ?_ | refine h.gpair _ _ ?_ ?_ | refine h.gitem _ ?_ | refine h.gitems _ _ ?_ ?_ | refine h.gcurly _ _ ?_ ?_ | refine h.gtargets _ ?_ | refine h.gtargL _ _ ?_ ?_ | refine h.gassign _ _ ?_ ?_ | refine h.gnames _ _ ?_ ?_ | refine h.gsimple _ _ ?_ ?_ | refine h.gblock _ ?_ | refine h.gstmts _ _ _ ?_ ?_ | refine h.gchoice _ _ ?_ ?_ | refine h.gparams _ _ _ ?_ ?_ | refine h.gexcepts _ _ _ ?_ ?_ | refine h.gstmt _ ?_) <;> ((repeat' first | assumption | exact trivial | with_reducible_and_instances exact LN.nil | exact NP.pos (by assumption) | exact NP.kids (by assumption) | exact LN.head (by assumption) | with_reducible_and_instances refine NP.mk ?_ ?_ | with_reducible_and_instances refine LN.cons ?_ ?_ | with_reducible_and_instances refine LN.app ?_ ?_ | with_reducible refine Lp.tail ?_ | with_reducible_and_instances refine Lp.hd ?_ ?_ | exact badT_np (by assumption) (by assumption) | split); done))
  | ((with_reducible first | refine Gd.needS ?_ ?_ | refine Gd.needW ?_ ?_ | refine Gd.needK ?_ ?_ | refine Gd.tokN ?_ ?_) <;> ((repeat' first | assumption | exact trivial | with_reducible_and_instances exact LN.nil | exact NP.pos (by assumption) | exact NP.kids (by assumption) | exact LN.head (by assumption) | with_reducible_and_instances refine NP.mk ?_ ?_ | with_reducible_and_instances refine LN.cons ?_ ?_ | with_reducible_and_instances refine LN.app ?_ ?_ | with_reducible refine Lp.tail ?_ | with_reducible_and_instances refine Lp.hd ?_ ?_ | exact badT_np (by assumption) (by assumption) | split); done))
  | (with_reducible refine Gd.bind ?_ (fun a l ha hl => ?_))
  | (intros; split)) : p := h
theorem gd_expr {p : Ps} (h : GA P p) (he : P e) (l : List Tok) (hl : Lp P l) : Gd P ((step nameB goodB numOf e p).qexpr l) := by
 show Gd P (s_expr e p l)
 unfold s_expr
 exact gA
theorem gd_or {p : Ps} (h : GA P p) (he : P e) (l : List Tok) (hl : Lp P l) : Gd P ((step nameB goodB numOf e p).qor l) := by
 show Gd P (s_or p l)
 unfold s_or
 exact gA
theorem gd_orL {p : Ps} (h : GA P p) (he : P e) (n : Nd) (l : List Tok) (h0 : NP P n) (hl : Lp P l) : Gd P ((step nameB goodB numOf e p).qorL n l) := by
 show Gd P (s_orL e p n l)
 unfold s_orL
 exact gA
theorem gd_and {p : Ps} (h : GA P p) (he : P e) (l : List Tok) (hl : Lp P l) : Gd P ((step nameB goodB numOf e p).qand l) := by
 show Gd P (s_and p l)
 unfold s_and
 exact gA
theorem gd_andL {p : Ps} (h : GA P p) (he : P e) (n : Nd) (l : List Tok) (h0 : NP P n) (hl : Lp P l) : Gd P ((step nameB goodB numOf e p).qandL n l) := by
 show Gd P (s_andL e p n l)
 unfold s_andL
 exact gA
theorem gd_not {p : Ps} (h : GA P p) (he : P e) (l : List Tok) (hl : Lp P l) : Gd P ((step nameB goodB numOf e p).qnot l) := by
 show Gd P (s_not e p l)
 unfold s_not
 exact gA
theorem gd_compare {p : Ps} (h : GA P p) (he : P e) (l : List Tok) (hl : Lp P l) : Gd P ((step nameB goodB numOf e p).qcompare l) := by
 show Gd P (s_compare e p l)
 unfold s_compare
 exact gA
theorem gd_row {p : Ps} (h : GA P p) (he : P e) (k : Nat) (l : List Tok) (hl : Lp P l) : Gd P ((step nameB goodB numOf e p).qrow k l) := by
 show Gd P (s_row p k l)
 unfold s_row
 exact gA
theorem gd_rowL {p : Ps} (h : GA P p) (he : P e) (k : Nat) (n : Nd) (l : List Tok) (h0 : NP P n) (hl : Lp P l) : Gd P ((step nameB goodB numOf e p).qrowL k n l) := by
 show Gd P (s_rowL e p k n l)
 unfold s_rowL
 exact gA
theorem gd_minus {p : Ps} (h : GA P p) (he : P e) (l : List Tok) (hl : Lp P l) : Gd P ((step nameB goodB numOf e p).qminus l) := by
 show Gd P (s_minus e p l)
 unfold s_minus
 exact gA
theorem gd_postfix {p : Ps} (h : GA P p) (he : P e) (l : List Tok) (hl : Lp P l) : Gd P ((step nameB goodB numOf e p).qpostfix l) := by
 show Gd P (s_postfix p l)
 unfold s_postfix
 exact gA
theorem gd_postL {p : Ps} (h : GA P p) (he : P e) (n : Nd) (l : List Tok) (h0 : NP P n) (hl : Lp P l) : Gd P ((step nameB goodB numOf e p).qpostL n l) := by
 show Gd P (s_postL nameB e p n l)
 unfold s_postL
 exact gA
theorem gd_args {p : Ps} (h : GA P p) (he : P e) (st : Nat) (ks : List Nd) (l : List Tok) (h0 : LN P ks) (hl : Lp P l) : Gd P ((step nameB goodB numOf e p).qargs st ks l) := by
 show Gd P (s_args nameB e p st ks l)
 unfold s_args
 exact gA
theorem gd_exprs {p : Ps} (h : GA P p) (he : P e) (l : List Tok) (hl : Lp P l) : Gd P ((step nameB goodB numOf e p).qexprs l) := by
 show Gd P (s_exprs e p l)
 unfold s_exprs
 exact gA
theorem gd_rest {p : Ps} (h : GA P p) (he : P e) (ks : List Nd) (l : List Tok) (h0 : LN P ks) (hl : Lp P l) : Gd P ((step nameB goodB numOf e p).qrest ks l) := by
 show Gd P (s_rest e p ks l)
 unfold s_rest
 exact gA
theorem gd_atom {p : Ps} (h : GA P p) (he : P e) (l : List Tok) (hl : Lp P l) : Gd P ((step nameB goodB numOf e p).qatom l) := by
 show Gd P (s_atom nameB goodB numOf e p l)
 unfold s_atom
 exact gA
theorem gd_round {p : Ps} (h : GA P p) (he : P e) (at_ : Int) (l : List Tok) (h0 : P at_) (hl : Lp P l) : Gd P ((step nameB goodB numOf e p).qround at_ l) := by
 show Gd P (s_round e p at_ l)
 unfold s_round
 exact gA
theorem gd_comp {p : Ps} (h : GA P p) (he : P e) (n : Nd) (l : List Tok) (h0 : NP P n) (hl : Lp P l) : Gd P ((step nameB goodB numOf e p).qcomp n l) := by
 show Gd P (s_comp e p n l)
 unfold s_comp
 exact gA
theorem gd_compL {p : Ps} (h : GA P p) (he : P e) (ks : List Nd) (l : List Tok) (h0 : LN P ks) (hl : Lp P l) : Gd P ((step nameB goodB numOf e p).qcompL ks l) := by
 show Gd P (s_compL e p ks l)
 unfold s_compL
 exact gA
theorem gd_square {p : Ps} (h : GA P p) (he : P e) (at_ : Int) (l : List Tok) (h0 : P at_) (hl : Lp P l) : Gd P ((step nameB goodB numOf e p).qsquare at_ l) := by
 show Gd P (s_square e p at_ l)
 unfold s_square
 exact gA
theorem gd_pair {p : Ps} (h : GA P p) (he : P e) (k : Nd) (l : List Tok) (h0 : NP P k) (hl : Lp P l) : Gd P ((step nameB goodB numOf e p).qpair k l) := by
 show Gd P (s_pair e p k l)
 unfold s_pair
 exact gA
theorem gd_item {p : Ps} (h : GA P p) (he : P e) (l : List Tok) (hl : Lp P l) : Gd P ((step nameB goodB numOf e p).qitem l) := by
 show Gd P (s_item e p l)
 unfold s_item
 exact gA
theorem gd_items {p : Ps} (h : GA P p) (he : P e) (ks : List Nd) (l : List Tok) (h0 : LN P ks) (hl : Lp P l) : Gd P ((step nameB goodB numOf e p).qitems ks l) := by
 show Gd P (s_items e p ks l)
 unfold s_items
 exact gA
theorem gd_curly {p : Ps} (h : GA P p) (he : P e) (at_ : Int) (l : List Tok) (h0 : P at_) (hl : Lp P l) : Gd P ((step nameB goodB numOf e p).qcurly at_ l) := by
 show Gd P (s_curly e p at_ l)
 unfold s_curly
 exact gA
theorem gd_targets {p : Ps} (h : GA P p) (he : P e) (l : List Tok) (hl : Lp P l) : Gd P ((step nameB goodB numOf e p).qtargets l) := by
 show Gd P (s_targets p l)
 unfold s_targets
 exact gA
theorem gd_targL {p : Ps} (h : GA P p) (he : P e) (ks : List Nd) (l : List Tok) (h0 : LN P ks) (hl : Lp P l) : Gd P ((step nameB goodB numOf e p).qtargL ks l) := by
 show Gd P (s_targL e p ks l)
 unfold s_targL
 exact gA
theorem gd_assign {p : Ps} (h : GA P p) (he : P e) (at_ : Int) (l : List Tok) (h0 : P at_) (hl : Lp P l) : Gd P ((step nameB goodB numOf e p).qassign at_ l) := by
 show Gd P (s_assign e p at_ l)
 unfold s_assign
 exact gA
theorem gd_names {p : Ps} (h : GA P p) (he : P e) (ks : List Nd) (l : List Tok) (h0 : LN P ks) (hl : Lp P l) : Gd P ((step nameB goodB numOf e p).qnames ks l) := by
 show Gd P (s_names nameB e p ks l)
 unfold s_names
 exact gA
theorem gd_simple {p : Ps} (h : GA P p) (he : P e) (at_ : Int) (l : List Tok) (h0 : P at_) (hl : Lp P l) : Gd P ((step nameB goodB numOf e p).qsimple at_ l) := by
 show Gd P (s_simple e p at_ l)
 unfold s_simple
 exact gA
theorem gd_block {p : Ps} (h : GA P p) (he : P e) (l : List Tok) (hl : Lp P l) : Gd P ((step nameB goodB numOf e p).qblock l) := by
 show Gd P (s_block e p l)
 unfold s_block
 exact gA
theorem gd_stmts {p : Ps} (h : GA P p) (he : P e) (k : Int) (ks : List Nd) (l : List Tok) (h0 : LN P ks) (hl : Lp P l) : Gd P ((step nameB goodB numOf e p).qstmts k ks l) := by
 show Gd P (s_stmts e p k ks l)
 unfold s_stmts
 exact gA
theorem gd_choice {p : Ps} (h : GA P p) (he : P e) (at_ : Int) (l : List Tok) (h0 : P at_) (hl : Lp P l) : Gd P ((step nameB goodB numOf e p).qchoice at_ l) := by
 show Gd P (s_choice e p at_ l)
 unfold s_choice
 exact gA
theorem gd_params {p : Ps} (h : GA P p) (he : P e) (given : Bool) (ks : List Nd) (l : List Tok) (h0 : LN P ks) (hl : Lp P l) : Gd P ((step nameB goodB numOf e p).qparams given ks l) := by
 show Gd P (s_params nameB e p given ks l)
 unfold s_params
 exact gA
theorem gd_excepts {p : Ps} (h : GA P p) (he : P e) (bare : Bool) (ks : List Nd) (l : List Tok) (h0 : LN P ks) (hl : Lp P l) : Gd P ((step nameB goodB numOf e p).qexcepts bare ks l) := by
 show Gd P (s_excepts nameB e p bare ks l)
 unfold s_excepts
 exact gA
theorem gd_stmt {p : Ps} (h : GA P p) (he : P e) (l : List Tok) (hl : Lp P l) : Gd P ((step nameB goodB numOf e p).qstmt l) := by
 show Gd P (s_stmt nameB e p l)
 unfold s_stmt
 exact gA
theorem ga_step {p : Ps} (h : GA P p) (he : P e) : GA P (step nameB goodB numOf e p) where
 gexpr := gd_expr h he
 gor := gd_or h he
 gorL := gd_orL h he
 gand := gd_and h he
 gandL := gd_andL h he
 gnot := gd_not h he
 gcompare := gd_compare h he
 grow := gd_row h he
 growL := gd_rowL h he
 gminus := gd_minus h he
 gpostfix := gd_postfix h he
 gpostL := gd_postL h he
 gargs := gd_args h he
 gexprs := gd_exprs h he
 grest := gd_rest h he
 gatom := gd_atom h he
 ground := gd_round h he
 gcomp := gd_comp h he
 gcompL := gd_compL h he
 gsquare := gd_square h he
 gpair := gd_pair h he
 gitem := gd_item h he
 gitems := gd_items h he
 gcurly := gd_curly h he
 gtargets := gd_targets h he
 gtargL := gd_targL h he
 gassign := gd_assign h he
 gnames := gd_names h he
 gsimple := gd_simple h he
 gblock := gd_block h he
 gstmts := gd_stmts h he
 gchoice := gd_choice h he
 gparams := gd_params h he
 gexcepts := gd_excepts h he
 gstmt := gd_stmt h he
theorem ga_all (nameB : ByteArray → Bool) (goodB : ByteArray → Bool) (numOf : ByteArray → Option (List Int)) (he : P e) : ∀ D, GA P (Pp nameB goodB numOf e D)
 | 0 => by constructor <;> intros <;> exact trivial
 | D + 1 => ga_step (ga_all nameB goodB numOf he D) he
end
end
end Go.Proofs.YtjndbcnmmnkilaaGreatDoor
