/- Joined by a program: Right, Shp3, Shp4. -/
import Derived.Test.YtjndbcnmmnkilaaGreatDoorPF40
namespace Go.Proofs.YtjndbcnmmnkilaaGreatDoor
set_option linter.unusedVariables false
set_option linter.unusedSimpArgs false
set_option maxRecDepth 1000000
set_option maxHeartbeats 16000000
section
open List (length_append length_cons length_nil length_singleton)
def nameB (s : List UInt8) : Bool := match s with
 | [] => false
 | c :: r => isLet c && r.all isWd && !wordB (c :: r)
def noNumB (t : Nd) : Bool := !t.neg && t.mag.length == 0
def numB (t : Nd) : Bool := !t.neg && decide (t.mag.length ≤ 256) && !(t.mag.getLast? == some 0)
def isTargetK (k : Int) : Bool := k == 31 || k == 53 || k == 54
inductive Sh where
 | expr | stmt | target | targets | block | none
 | of (k : Int)
 | or2 (a b : Sh)
def Sh.ev (R : Nd → Bool) : Sh → Nd → Bool
 | .expr, t => !(t.kind == 39) && !(t.kind == 40) && !(t.kind == 52) && decide (31 ≤ t.kind) && R t
 | .stmt, t => decide (3 ≤ t.kind) && decide (t.kind ≤ 21) && !(t.kind == 19) && R t
 | .target, t => isTargetK t.kind && R t
 | .targets, t => (isTargetK t.kind && R t) || (t.kind == 23 && R t)
 | .block, t => t.kind == 2 && decide (0 < t.kids.length) && R t
 | .none, t => t.kind == 0 && t.text.size == 0 && noNumB t && t.kids.length == 0
 | .of k, t => t.kind == k && R t
 | .or2 a b, t => a.ev R t || b.ev R t
def paramsB (R : Nd → Bool) : Bool → List Nd → Bool
 | _, [] => true
 | g, p :: r =>
  if !(p.kind == 19) || !R p then false
  else match p.kids with
   | [] => r.isEmpty
   | q :: _ => if !(q.kind == 0) then paramsB R true r else if g then false else paramsB R g r
def catchB (R : Nd → Bool) : List Nd → Bool
 | [] => true
 | x :: r => x.kind == 22 && R x && !((match x.kids with | [] => false | q :: _ => q.kind == 0) && !r.isEmpty) && catchB R r
inductive Fm where
 | row (l : List Sh)
 | some (n : Nat) (s : Sh)
 | dfn | prm | tri | exc | cll
 | cmp (s : Sh)
def Fm.ev (R : Nd → Bool) : Fm → Nd → Bool
 | .row l, t => rowB t.kids (l.map (Sh.ev R))
 | .some n s, t => decide (n ≤ t.kids.length) && t.kids.all (s.ev R)
 | .dfn, t => decide (1 ≤ t.kids.length) && paramsB R false t.kids.dropLast && (t.kids.drop (t.kids.length - 1)).all (Sh.block.ev R)
 | .prm, t => t.kids.length == 0 || rowB t.kids [(Sh.or2 .none .expr).ev R]
 | .tri, t => decide (2 ≤ t.kids.length) && (t.kids.take 1).all (Sh.block.ev R) && catchB R (t.kids.drop 1)
 | .exc, t => rowB t.kids [(Sh.or2 .none .expr).ev R, Sh.block.ev R] && (t.text.size == 0 || nameB t.text.data.toList && !(t.kids.take 1).any (fun q => q.kind == 0))
 | .cmp s, t => decide (3 ≤ t.kids.length) && rowB (t.kids.take 3) [s.ev R, Sh.targets.ev R, Sh.expr.ev R] && (t.kids.drop 3).all (Sh.expr.ev R)
 | .cll, t => decide (1 ≤ t.kids.length) && (t.kids.take 1).all (Sh.expr.ev R) && (let r := ((t.kids.drop 1).dropWhile (Sh.expr.ev R)).dropWhile ((Sh.of 52).ev R); r.isEmpty || rowB r [(Sh.of 40).ev R])
inductive Tx where
 | non | name | exc | good
 | words (l : List (List UInt8))
def Tx.ev : Tx → ByteArray → Bool
 | .non, s => s.size == 0
 | .name, s => nameB s.data.toList
 | .exc, s => s.size == 0 || nameB s.data.toList
 | .good, s => goodB s
 | .words l, s => l.contains s.data.toList
def signsL : List (List UInt8) := [[43], [45], [42], [47, 47], [37], [38], [124], [94]]
def compsL : List (List UInt8) := [[61, 61], [33, 61], [60], [60, 61], [62], [62, 61], [105, 110], [110, 111, 116, 32, 105, 110], [105, 115], [105, 115, 32, 110, 111, 116]]
def constsL : List (List UInt8) := [[78, 111, 110, 101], [84, 114, 117, 101], [70, 97, 108, 115, 101]]
def forms : List (Int × Tx × Fm) := [(1, .non, .row [.of 2]), (2, .non, .some 0 .stmt), (3, .non, .row [.expr]), (4, .non, .row [.target, .expr]), (5, .non, .row [.of 23, .expr]), (6, .words signsL, .row [.target, .expr]), (7, .non, .row [.target]),
 (8, .non, .row []), (9, .non, .row []), (10, .non, .row []), (11, .non, .row [.or2 .none .expr]), (12, .non, .row [.or2 .none .expr]), (13, .non, .some 1 (.of 31)), (14, .non, .some 1 (.of 31)), (15, .non, .row [.expr, .block, .or2 .none .block]), (16, .non, .row [.expr, .block]),
 (17, .non, .row [.targets, .expr, .block]), (18, .name, .dfn), (19, .name, .prm), (20, .name, .row [.or2 .none .expr, .block]), (21, .non, .tri), (22, .exc, .exc), (23, .non, .some 2 .target),
 (31, .name, .row []), (32, .non, .row []), (33, .good, .row []), (34, .words constsL, .row []), (35, .non, .some 0 .expr), (36, .non, .some 0 .expr), (37, .non, .some 1 .expr), (38, .non, .some 0 (.or2 (.of 39) (.of 40))), (39, .non, .row [.expr, .expr]), (45, .non, .row [.expr, .expr]), (46, .non, .row [.expr, .expr]), (54, .non, .row [.expr, .expr]),
 (40, .non, .row [.expr]), (47, .non, .row [.expr]), (50, .non, .row [.expr]), (41, .non, .cmp .expr), (42, .non, .cmp .expr), (43, .non, .cmp (.of 39)), (44, .non, .row [.expr, .expr, .expr]), (48, .words compsL, .row [.expr, .expr]), (49, .words signsL, .row [.expr, .expr]), (51, .non, .cll), (52, .name, .row [.expr]), (53, .name, .row [.expr])]
def formOf (k : Int) : Option (Tx × Fm) := (forms.find? (fun x => x.1 == k)).map (·.2)
def rightN : Nat → Nd → Bool
 | 0, _ => false
 | n + 1, T => match formOf T.kind with
  | none => false
  | some x => x.1.ev T.text && (if T.kind = 32 then numB T else noNumB T) && x.2.ev (rightN n) T
def Nd.right (T : Nd) : Bool := rightN T.depth T
section
variable {R R' : Nd → Bool}
theorem Sh.congr {t : Nd} (h : R t = R' t) : ∀ s : Sh, s.ev R t = s.ev R' t
 | .expr => by simp only [Sh.ev, h]
 | .stmt => by simp only [Sh.ev, h]
 | .target => by simp only [Sh.ev, h]
 | .targets => by simp only [Sh.ev, h]
 | .block => by simp only [Sh.ev, h]
 | .none => rfl
 | .of k => by simp only [Sh.ev, h]
 | .or2 a b => by simp only [Sh.ev, Sh.congr h a, Sh.congr h b]
theorem rowB_congr : ∀ (l : List Nd) (L : List Sh), (∀ t ∈ l, R t = R' t) → rowB l (L.map (Sh.ev R)) = rowB l (L.map (Sh.ev R'))
 | [], [], _ => rfl
 | [], _ :: _, _ => rfl
 | _ :: _, [], _ => rfl
 | t :: r, s :: q, h => by
  simp only [List.map_cons, rowB]; rw [Sh.congr (h t (List.mem_cons_self ..)) s, rowB_congr r q (fun t ht => h t (List.mem_cons_of_mem _ ht))]
theorem all_congr (s : Sh) : ∀ (l : List Nd), (∀ t ∈ l, R t = R' t) → l.all (s.ev R) = l.all (s.ev R')
 | [], _ => rfl
 | t :: r, h => by rw [List.all_cons, List.all_cons, Sh.congr (h t (List.mem_cons_self ..)) s, all_congr s r (fun t ht => h t (List.mem_cons_of_mem _ ht))]
theorem params_congr : ∀ (l : List Nd) (g : Bool), (∀ t ∈ l, R t = R' t) → paramsB R g l = paramsB R' g l
 | [], g, _ => by simp [paramsB]
 | p :: r, g, h => by
  have h1 := h p (List.mem_cons_self ..); have h2 := fun g => params_congr r g (fun t ht => h t (List.mem_cons_of_mem _ ht))
  simp only [paramsB, h1, h2]
theorem catch_congr : ∀ (l : List Nd), (∀ t ∈ l, R t = R' t) → catchB R l = catchB R' l
 | [], _ => rfl
 | p :: r, h => by
  have h1 := h p (List.mem_cons_self ..); have h2 := catch_congr r (fun t ht => h t (List.mem_cons_of_mem _ ht)); simp only [catchB, h1, h2]
theorem dropWhile_congr (s : Sh) : ∀ (l : List Nd), (∀ t ∈ l, R t = R' t) → l.dropWhile (s.ev R) = l.dropWhile (s.ev R')
 | [], _ => rfl
 | t :: r, h => by
  rw [List.dropWhile_cons, List.dropWhile_cons, Sh.congr (h t (List.mem_cons_self ..)) s, dropWhile_congr s r (fun t ht => h t (List.mem_cons_of_mem _ ht))]
theorem mem_dropWhile {p : Nd → Bool} {l : List Nd} {t : Nd} (h : t ∈ l.dropWhile p) : t ∈ l := (List.dropWhile_sublist p).mem h
theorem Fm.congr {T : Nd} (h : ∀ t ∈ T.kids, R t = R' t) : ∀ f : Fm, f.ev R T = f.ev R' T
 | .row l => rowB_congr _ l h
 | .some n s => by simp only [Fm.ev, all_congr s T.kids h]
 | .dfn => by
  simp only [Fm.ev]; rw [params_congr _ _ (fun t ht => h t ((List.dropLast_sublist _).mem ht)), all_congr .block _ (fun t ht => h t (List.mem_of_mem_drop ht))]
 | .prm => by
  simp only [Fm.ev]; have := rowB_congr T.kids [Sh.or2 .none .expr] h; simp only [List.map_cons, List.map_nil] at this; rw [this]
 | .tri => by
  simp only [Fm.ev]; rw [catch_congr _ (fun t ht => h t (List.mem_of_mem_drop ht)), all_congr .block _ (fun t ht => h t (List.mem_of_mem_take ht))]
 | .exc => by
  simp only [Fm.ev]; have := rowB_congr T.kids [Sh.or2 .none .expr, Sh.block] h; simp only [List.map_cons, List.map_nil] at this; rw [this]
 | .cmp s => by
  simp only [Fm.ev]; have := rowB_congr (T.kids.take 3) [s, Sh.targets, Sh.expr] (fun t ht => h t (List.mem_of_mem_take ht)); simp only [List.map_cons, List.map_nil] at this; rw [this, all_congr .expr _ (fun t ht => h t (List.mem_of_mem_drop ht))]
 | .cll => by
  simp only [Fm.ev]; rw [all_congr .expr _ (fun t ht => h t (List.mem_of_mem_take ht)), dropWhile_congr .expr _ (fun t ht => h t (List.mem_of_mem_drop ht))]; rw [dropWhile_congr (.of 52) _ (fun t ht => h t (List.mem_of_mem_drop (mem_dropWhile ht)))]; have := rowB_congr (((T.kids.drop 1).dropWhile (Sh.expr.ev R')).dropWhile ((Sh.of 52).ev R')) [Sh.of 40] (fun t ht => h t (List.mem_of_mem_drop (mem_dropWhile (mem_dropWhile ht)))); simp only [List.map_cons, List.map_nil] at this; rw [this]
end
theorem rightN_two : ∀ (n m : Nat) (T : Nd), T.depth ≤ n → T.depth ≤ m → rightN n T = rightN m T
 | 0, _, T, h, _ => by rw [T.depth_eq] at h; omega
 | _, 0, T, _, h => by rw [T.depth_eq] at h; omega
 | n + 1, m + 1, T, hn, hm => by
  have hc : ∀ f : Fm, f.ev (rightN n) T = f.ev (rightN m) T := fun f => f.congr fun t ht => by
   have hk := Nd.depth_kid ht; exact rightN_two n m t lq17 lq17
  simp only [rightN, hc]
theorem right_eq (T : Nd) : T.right = match formOf T.kind with
  | none => false
  | some x => x.1.ev T.text && (if T.kind = 32 then numB T else noNumB T) && x.2.ev Nd.right T := by
 have hd := T.depth_eq
 have hc : ∀ f : Fm, f.ev (rightN (depths T.kids)) T = f.ev Nd.right T := fun f => f.congr fun t ht => rightN_two _ _ t (depths_le ht) (Nat.le_refl _)
 unfold Nd.right
 rw [hd, rightN]
 simp only [hc]
 rfl
end
section
open Go.RowKit
open List (length_append length_cons length_nil length_singleton)
def RightOk (D : Nat) : Prop := ∀ (T : Nd) (A : Option Addr) (c : Nat) (K : Option Addr) (d : Nat) (W : World), T.dep ≤ D → T.weight ≤ 1048576 → NodeAt W T A c K d → Lib.Utf8Tabs 0 1 W →
 Calls Tryz.prog 42 #[ndV T A c K d] W fun e w' => e = .returned (.bool T.right) ∧ Below W.heap.size W w'
section
variable (D : Nat) (hRi : RightOk D) (T : Nd) (A : Option Addr) (c : Nat) (K : Option Addr) (d : Nat) (w : World) (hD : T.dep ≤ D) (hW : T.weight ≤ 1048576) (hN : NodeAt w T A c K d) (hT : Lib.Utf8Tabs 0 1 w)
include D hRi T A c K d w hD hW hN hT
theorem tExpr_ok :
  Calls Tryz.prog 142 #[ndV T A c K d] w fun e w' => e = .returned (.bool (Sh.expr.ev Nd.right T)) ∧ Below w.heap.size w w' := by
 have _ := D
 have hN2 := fun o => hN.later ((Below.refl w.heap.size w).alloc (Nat.le_refl _) o)
 have HRi := Lh (fun o => hRi T A c K d (w.alloc o) hD hW (hN2 o) (Utf8Tabs_below hT ((Below.refl w.heap.size w).alloc (Nat.le_refl _) o)))
 clear hN2 hT hD
 by_cases he1 : T.kind = 39
 ·have e1 : (T.kind == 39) = true := by simpa using he1
  clear he1; obtain ⟨hm1, hm2, hrm, hw32, hk1, hk2, ⟨hk64a, hk64b⟩, ⟨ha64a, ha64b⟩, hts, hKs, HK⟩ := hN.hd; have hb1 := (Below.refl w.heap.size w).alloc (Nat.le_refl _) (.cells #[.int .i64 T.kind, .int .i64 T.pos, .string T.text, .bool T.neg, .slice A T.mag.length c, .slice K T.kids.length d] 29); obtain ⟨c0, c1, c2, c3, c4, c5⟩ := (cellsN_new w T A c K d 29).box; unfold ndV; clear hKs hN; go_enter Tryz.func142, Tryz.ntmps142; go_wp2_with fail; go_ret; exact ⟨by show Ending.returned (.bool _) = _; simp [Sh.ev, isTargetK, e1], hb1⟩
 ·have e1 : (T.kind == 39) = false := by simpa using he1
  clear he1
  by_cases he2 : T.kind = 40
  ·have e2 : (T.kind == 40) = true := by simpa using he2
   clear he2; obtain ⟨hm1, hm2, hrm, hw32, hk1, hk2, ⟨hk64a, hk64b⟩, ⟨ha64a, ha64b⟩, hts, hKs, HK⟩ := hN.hd; have hb1 := (Below.refl w.heap.size w).alloc (Nat.le_refl _) (.cells #[.int .i64 T.kind, .int .i64 T.pos, .string T.text, .bool T.neg, .slice A T.mag.length c, .slice K T.kids.length d] 29); obtain ⟨c0, c1, c2, c3, c4, c5⟩ := (cellsN_new w T A c K d 29).box; unfold ndV; clear hKs hN; go_enter Tryz.func142, Tryz.ntmps142; go_wp2_with fail; go_ret; exact ⟨by show Ending.returned (.bool _) = _; simp [Sh.ev, isTargetK, e1, e2], hb1⟩
  ·have e2 : (T.kind == 40) = false := by simpa using he2
   clear he2
   by_cases he3 : T.kind = 52
   ·have e3 : (T.kind == 52) = true := by simpa using he3
    clear he3; obtain ⟨hm1, hm2, hrm, hw32, hk1, hk2, ⟨hk64a, hk64b⟩, ⟨ha64a, ha64b⟩, hts, hKs, HK⟩ := hN.hd; have hb1 := (Below.refl w.heap.size w).alloc (Nat.le_refl _) (.cells #[.int .i64 T.kind, .int .i64 T.pos, .string T.text, .bool T.neg, .slice A T.mag.length c, .slice K T.kids.length d] 29); obtain ⟨c0, c1, c2, c3, c4, c5⟩ := (cellsN_new w T A c K d 29).box; unfold ndV; clear hKs hN; go_enter Tryz.func142, Tryz.ntmps142; go_wp2_with fail; go_ret; exact ⟨by show Ending.returned (.bool _) = _; simp [Sh.ev, isTargetK, e1, e2, e3], hb1⟩
   ·have e3 : (T.kind == 52) = false := by simpa using he3
    clear he3
    by_cases he4 : 31 ≤ T.kind
    ·have e4 : decide (31 ≤ T.kind) = true := dTo; clear he4; obtain ⟨hm1, hm2, hrm, hw32, hk1, hk2, ⟨hk64a, hk64b⟩, ⟨ha64a, ha64b⟩, hts, hKs, HK⟩ := hN.hd; have hb1 := (Below.refl w.heap.size w).alloc (Nat.le_refl _) (.cells #[.int .i64 T.kind, .int .i64 T.pos, .string T.text, .bool T.neg, .slice A T.mag.length c, .slice K T.kids.length d] 29); obtain ⟨c0, c1, c2, c3, c4, c5⟩ := (cellsN_new w T A c K d 29).box; unfold ndV; clear hKs hN; go_enter Tryz.func142, Tryz.ntmps142; go_wp2_with (go_at_call 42; refine (HRi.out _).mono ?_; rintro e w3 ⟨rfl, hb3⟩); go_ret
     exact ⟨by show Ending.returned (.bool _) = _; simp [Sh.ev, isTargetK, e1, e2, e3, e4], hb1.trans (hb3.mono hb1.size)⟩
    ·have e4 : decide (31 ≤ T.kind) = false := dFo; clear he4; obtain ⟨hm1, hm2, hrm, hw32, hk1, hk2, ⟨hk64a, hk64b⟩, ⟨ha64a, ha64b⟩, hts, hKs, HK⟩ := hN.hd; have hb1 := (Below.refl w.heap.size w).alloc (Nat.le_refl _) (.cells #[.int .i64 T.kind, .int .i64 T.pos, .string T.text, .bool T.neg, .slice A T.mag.length c, .slice K T.kids.length d] 29); obtain ⟨c0, c1, c2, c3, c4, c5⟩ := (cellsN_new w T A c K d 29).box; unfold ndV; clear hKs hN; go_enter Tryz.func142, Tryz.ntmps142; go_wp2_with fail; go_ret; exact ⟨by show Ending.returned (.bool _) = _; simp [Sh.ev, isTargetK, e1, e2, e3, e4], hb1⟩
theorem tStmt_ok :
  Calls Tryz.prog 141 #[ndV T A c K d] w fun e w' => e = .returned (.bool (Sh.stmt.ev Nd.right T)) ∧ Below w.heap.size w w' := by
 have _ := D
 have hN2 := fun o => hN.later ((Below.refl w.heap.size w).alloc (Nat.le_refl _) o)
 have HRi := Lh (fun o => hRi T A c K d (w.alloc o) hD hW (hN2 o) (Utf8Tabs_below hT ((Below.refl w.heap.size w).alloc (Nat.le_refl _) o)))
 clear hN2 hT hD
 by_cases he1 : 3 ≤ T.kind
 ·have e1 : decide (3 ≤ T.kind) = true := dTo; clear he1
  by_cases he2 : T.kind ≤ 21
  ·have e2 : decide (T.kind ≤ 21) = true := dTo; clear he2
   by_cases he3 : T.kind = 19
   ·have e3 : (T.kind == 19) = true := by simpa using he3
    have e3' : (T.kind != 19) = false := by simp [he3]
    clear he3; obtain ⟨hm1, hm2, hrm, hw32, hk1, hk2, ⟨hk64a, hk64b⟩, ⟨ha64a, ha64b⟩, hts, hKs, HK⟩ := hN.hd; have hb1 := (Below.refl w.heap.size w).alloc (Nat.le_refl _) (.cells #[.int .i64 T.kind, .int .i64 T.pos, .string T.text, .bool T.neg, .slice A T.mag.length c, .slice K T.kids.length d] 29); obtain ⟨c0, c1, c2, c3, c4, c5⟩ := (cellsN_new w T A c K d 29).box; unfold ndV; clear hKs hN; go_enter Tryz.func141, Tryz.ntmps141; go_wp2_with fail; go_ret; exact ⟨by show Ending.returned (.bool _) = _; simp [Sh.ev, isTargetK, e1, e2, e3, e3'], hb1⟩
   ·have e3 : (T.kind == 19) = false := by simpa using he3
    have e3' : (T.kind != 19) = true := by simp [he3]
    clear he3; obtain ⟨hm1, hm2, hrm, hw32, hk1, hk2, ⟨hk64a, hk64b⟩, ⟨ha64a, ha64b⟩, hts, hKs, HK⟩ := hN.hd; have hb1 := (Below.refl w.heap.size w).alloc (Nat.le_refl _) (.cells #[.int .i64 T.kind, .int .i64 T.pos, .string T.text, .bool T.neg, .slice A T.mag.length c, .slice K T.kids.length d] 29); obtain ⟨c0, c1, c2, c3, c4, c5⟩ := (cellsN_new w T A c K d 29).box; unfold ndV; clear hKs hN; go_enter Tryz.func141, Tryz.ntmps141; go_wp2_with (go_at_call 42; refine (HRi.out _).mono ?_; rintro e w3 ⟨rfl, hb3⟩); go_ret
    exact ⟨by show Ending.returned (.bool _) = _; simp [Sh.ev, isTargetK, e1, e2, e3, e3'], hb1.trans (hb3.mono hb1.size)⟩
  ·have e2 : decide (T.kind ≤ 21) = false := dFo; clear he2; obtain ⟨hm1, hm2, hrm, hw32, hk1, hk2, ⟨hk64a, hk64b⟩, ⟨ha64a, ha64b⟩, hts, hKs, HK⟩ := hN.hd; have hb1 := (Below.refl w.heap.size w).alloc (Nat.le_refl _) (.cells #[.int .i64 T.kind, .int .i64 T.pos, .string T.text, .bool T.neg, .slice A T.mag.length c, .slice K T.kids.length d] 29); obtain ⟨c0, c1, c2, c3, c4, c5⟩ := (cellsN_new w T A c K d 29).box; unfold ndV; clear hKs hN; go_enter Tryz.func141, Tryz.ntmps141; go_wp2_with fail; go_ret; exact ⟨by show Ending.returned (.bool _) = _; simp [Sh.ev, isTargetK, e1, e2], hb1⟩
 ·have e1 : decide (3 ≤ T.kind) = false := dFo; clear he1; obtain ⟨hm1, hm2, hrm, hw32, hk1, hk2, ⟨hk64a, hk64b⟩, ⟨ha64a, ha64b⟩, hts, hKs, HK⟩ := hN.hd; have hb1 := (Below.refl w.heap.size w).alloc (Nat.le_refl _) (.cells #[.int .i64 T.kind, .int .i64 T.pos, .string T.text, .bool T.neg, .slice A T.mag.length c, .slice K T.kids.length d] 29); obtain ⟨c0, c1, c2, c3, c4, c5⟩ := (cellsN_new w T A c K d 29).box; unfold ndV; clear hKs hN; go_enter Tryz.func141, Tryz.ntmps141; go_wp2_with fail; go_ret; exact ⟨by show Ending.returned (.bool _) = _; simp [Sh.ev, isTargetK, e1], hb1⟩
end
theorem tTarget0_ok (T : Nd) (A : Option Addr) (c : Nat) (K : Option Addr) (d : Nat) (w : World) (hN : NodeAt w T A c K d) :
  Calls Tryz.prog 213 #[ndV T A c K d] w fun e w' => e = .returned (.bool (isTargetK T.kind)) ∧ Below w.heap.size w w' := by
 by_cases he1 : T.kind = 31
 ·have e1 : (T.kind == 31) = true := by simpa using he1
  clear he1; obtain ⟨hm1, hm2, hrm, hw32, hk1, hk2, ⟨hk64a, hk64b⟩, ⟨ha64a, ha64b⟩, hts, hKs, HK⟩ := hN.hd; have hb1 := (Below.refl w.heap.size w).alloc (Nat.le_refl _) (.cells #[.int .i64 T.kind, .int .i64 T.pos, .string T.text, .bool T.neg, .slice A T.mag.length c, .slice K T.kids.length d] 29); obtain ⟨c0, c1, c2, c3, c4, c5⟩ := (cellsN_new w T A c K d 29).box; unfold ndV; clear hKs hN; go_enter Tryz.func213, Tryz.ntmps213; go_wp2_with fail; go_ret; exact ⟨by show Ending.returned (.bool _) = _; simp [isTargetK, e1], hb1⟩
 ·have e1 : (T.kind == 31) = false := by simpa using he1
  clear he1
  by_cases he2 : T.kind = 53
  ·have e2 : (T.kind == 53) = true := by simpa using he2
   clear he2; obtain ⟨hm1, hm2, hrm, hw32, hk1, hk2, ⟨hk64a, hk64b⟩, ⟨ha64a, ha64b⟩, hts, hKs, HK⟩ := hN.hd; have hb1 := (Below.refl w.heap.size w).alloc (Nat.le_refl _) (.cells #[.int .i64 T.kind, .int .i64 T.pos, .string T.text, .bool T.neg, .slice A T.mag.length c, .slice K T.kids.length d] 29); obtain ⟨c0, c1, c2, c3, c4, c5⟩ := (cellsN_new w T A c K d 29).box; unfold ndV; clear hKs hN; go_enter Tryz.func213, Tryz.ntmps213; go_wp2_with fail; go_ret; exact ⟨by show Ending.returned (.bool _) = _; simp [isTargetK, e1, e2], hb1⟩
  ·have e2 : (T.kind == 53) = false := by simpa using he2
   clear he2
   by_cases he3 : T.kind = 54
   ·have e3 : (T.kind == 54) = true := by simpa using he3
    exact lv22
   ·have e3 : (T.kind == 54) = false := by simpa using he3
    exact lv22
theorem tTarget_ok (D : Nat) (hRi : RightOk D) (T : Nd) (A : Option Addr) (c : Nat) (K : Option Addr) (d : Nat) (w : World) (hD : T.dep ≤ D) (hW : T.weight ≤ 1048576) (hN : NodeAt w T A c K d) (hT : Lib.Utf8Tabs 0 1 w) :
  Calls Tryz.prog 143 #[ndV T A c K d] w fun e w' => e = .returned (.bool (Sh.target.ev Nd.right T)) ∧ Below w.heap.size w w' := by
 have HT0 := Lh (fun o => tTarget0_ok T A c K d (w.alloc o) (hN.later ((Below.refl w.heap.size w).alloc (Nat.le_refl _) o)))
 have HRi := Lh (fun W hW2 => hRi T A c K d W hD hW (hN.later hW2) (Utf8Tabs_below hT hW2))
 clear hT hD
 show Calls _ _ _ _ fun e w' => e = .returned (.bool (isTargetK T.kind && T.right)) ∧ _
 generalize isTargetK T.kind = x at *
 generalize T.right = y at *
 cases x
 ·obtain ⟨hm1, hm2, hrm, hw32, hk1, hk2, ⟨hk64a, hk64b⟩, ⟨ha64a, ha64b⟩, hts, hKs, HK⟩ := hN.hd; have hb1 := (Below.refl w.heap.size w).alloc (Nat.le_refl _) (.cells #[.int .i64 T.kind, .int .i64 T.pos, .string T.text, .bool T.neg, .slice A T.mag.length c, .slice K T.kids.length d] 29); obtain ⟨c0, c1, c2, c3, c4, c5⟩ := (cellsN_new w T A c K d 29).box; unfold ndV; clear hKs hN; go_enter Tryz.func143, Tryz.ntmps143
  go_wp2_with (first | (go_at_call 213; refine (HT0.out _).mono ?_; rintro e w3 ⟨rfl, hb3⟩; obtain ⟨d0, d1, d2, d3, d4, d5⟩ := cl6 hb3 c0 c1 c2 c3 c4 c5; have hb4 := hb1.trans (hb3.mono hb1.size))); go_ret; exact ⟨rfl, hb4⟩
 ·obtain ⟨hm1, hm2, hrm, hw32, hk1, hk2, ⟨hk64a, hk64b⟩, ⟨ha64a, ha64b⟩, hts, hKs, HK⟩ := hN.hd; have hb1 := (Below.refl w.heap.size w).alloc (Nat.le_refl _) (.cells #[.int .i64 T.kind, .int .i64 T.pos, .string T.text, .bool T.neg, .slice A T.mag.length c, .slice K T.kids.length d] 29); obtain ⟨c0, c1, c2, c3, c4, c5⟩ := (cellsN_new w T A c K d 29).box; unfold ndV; clear hKs hN; go_enter Tryz.func143, Tryz.ntmps143
  go_wp2_with (first | (go_at_call 213; refine (HT0.out _).mono ?_; rintro e w3 ⟨rfl, hb3⟩; obtain ⟨d0, d1, d2, d3, d4, d5⟩ := cl6 hb3 c0 c1 c2 c3 c4 c5; have hb4 := hb1.trans (hb3.mono hb1.size)) | (go_at_call 42; refine (HRi.out _ hb4).mono ?_; rintro e w5 ⟨rfl, hb5⟩)); go_ret; exact ⟨rfl, hb4.trans (hb5.mono hb4.size)⟩
theorem tOf1_ok (k : Int) (X : Nat) (D : Nat) (hRi : RightOk D) (T : Nd) (A : Option Addr) (c : Nat) (K : Option Addr) (d : Nat) (w : World) (hD : T.dep ≤ D) (hW : T.weight ≤ 1048576) (hN : NodeAt w T A c K d) (hT : Lib.Utf8Tabs 0 1 w) (hX : w.cell? ⟨X, 0, none⟩ = some (.int .i64 k)) :
  Calls Tryz.prog 210 #[ndV T A c K d, .pointer (some ⟨X, 0, none⟩)] w fun e w' => e = .returned (.bool ((Sh.of k).ev Nd.right T)) ∧ Below w.heap.size w w' := by
 have hN2 := fun o => hN.later ((Below.refl w.heap.size w).alloc (Nat.le_refl _) o)
 have HRi := Lh (fun o => hRi T A c K d (w.alloc o) hD hW (hN2 o) (Utf8Tabs_below hT ((Below.refl w.heap.size w).alloc (Nat.le_refl _) o)))
 clear hN2 hT hD
 have hX2 := fun o => cLt ((Below.refl w.heap.size w).alloc (Nat.le_refl _) o) hX
 have hXl := World.block_lt_of_cell? w _ hX
 by_cases he1 : T.kind = k
 ·have e1 : (T.kind == k) = true := by simpa using he1
  clear he1; obtain ⟨hm1, hm2, hrm, hw32, hk1, hk2, ⟨hk64a, hk64b⟩, ⟨ha64a, ha64b⟩, hts, hKs, HK⟩ := hN.hd; have hb1 := (Below.refl w.heap.size w).alloc (Nat.le_refl _) (.cells #[.int .i64 T.kind, .int .i64 T.pos, .string T.text, .bool T.neg, .slice A T.mag.length c, .slice K T.kids.length d] 29); obtain ⟨c0, c1, c2, c3, c4, c5⟩ := (cellsN_new w T A c K d 29).box; have c6 := hX2 (.cells #[.int .i64 T.kind, .int .i64 T.pos, .string T.text, .bool T.neg, .slice A T.mag.length c, .slice K T.kids.length d] 29); clear hX hX2; unfold ndV; clear hKs hN; go_enter Tryz.func210, Tryz.ntmps210
  go_wp2_with (go_at_call 42; refine (HRi.out _).mono ?_; rintro e w3 ⟨rfl, hb3⟩); go_ret; exact ⟨by show Ending.returned (.bool _) = _; simp [Sh.ev, e1], hb1.trans (hb3.mono hb1.size)⟩
 ·have e1 : (T.kind == k) = false := by simpa using he1
  clear he1; obtain ⟨hm1, hm2, hrm, hw32, hk1, hk2, ⟨hk64a, hk64b⟩, ⟨ha64a, ha64b⟩, hts, hKs, HK⟩ := hN.hd; have hb1 := (Below.refl w.heap.size w).alloc (Nat.le_refl _) (.cells #[.int .i64 T.kind, .int .i64 T.pos, .string T.text, .bool T.neg, .slice A T.mag.length c, .slice K T.kids.length d] 29); obtain ⟨c0, c1, c2, c3, c4, c5⟩ := (cellsN_new w T A c K d 29).box; have c6 := hX2 (.cells #[.int .i64 T.kind, .int .i64 T.pos, .string T.text, .bool T.neg, .slice A T.mag.length c, .slice K T.kids.length d] 29); clear hX hX2; unfold ndV; clear hKs hN; go_enter Tryz.func210, Tryz.ntmps210
  go_wp2_with fail; go_ret; exact ⟨by show Ending.returned (.bool _) = _; simp [Sh.ev, e1], hb1⟩
theorem beq0F {n : Nat} (h : ¬ n = 0) : ((n : Int) == 0) = false := by simp [h]
theorem text_empty (s : ByteArray) : s.toList.isEmpty = (s.size == 0) := by
 have hl : s.data.toList.length = s.size := by simp
 rw [Lib.toList_data, ← hl]
 cases s.data.toList <;> rfl
theorem tNoNum_ok (T : Nd) (A : Option Addr) (c : Nat) (K : Option Addr) (d : Nat) (w : World) (hN : NodeAt w T A c K d) :
  Calls Tryz.prog 80 #[ndV T A c K d] w fun e w' => e = .returned (.bool (noNumB T)) ∧ Below w.heap.size w w' := by
 cases hng : T.neg with
 | true =>
  obtain ⟨hm1, hm2, hrm, hw32, hk1, hk2, ⟨hk64a, hk64b⟩, ⟨ha64a, ha64b⟩, hts, hKs, HK⟩ := hN.hd; have hb1 := (Below.refl w.heap.size w).alloc (Nat.le_refl _) (.cells #[.int .i64 T.kind, .int .i64 T.pos, .string T.text, .bool T.neg, .slice A T.mag.length c, .slice K T.kids.length d] 29); obtain ⟨c0, c1, c2, c3, c4, c5⟩ := (cellsN_new w T A c K d 29).box; rw [hng] at hb1 c3; unfold ndV; rw [hng]; clear hKs hN; go_enter Tryz.func80, Tryz.ntmps80; go_wp2_with fail; go_ret; exact ⟨by show Ending.returned (.bool _) = _; simp [noNumB, hng], hb1⟩
 | false =>
  by_cases hm0 : T.mag.length = 0
  ·have e1 : ((T.mag.length : Int) == 0) = true := by rw [hm0]; rfl
   have e2 : (T.mag.length == 0) = true := by rw [hm0]; rfl
   exact lv19
  ·have e1 : ((T.mag.length : Int) == 0) = false := beq0F hm0; have e2 : (T.mag.length == 0) = false := by simpa using hm0
   exact lv19
end
end Go.Proofs.YtjndbcnmmnkilaaGreatDoor
