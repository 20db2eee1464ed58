/- Joined by a program: Quoted, Quote, RefGood, Right. -/
import Derived.Test.YtjefhdlncikhmaaGreatDoorPT03
namespace Go.Proofs.YtjefhdlncikhmaaGreatDoor
set_option linter.unusedVariables false
set_option linter.unusedSimpArgs false
set_option maxRecDepth 1000000
set_option maxHeartbeats 16000000
section
open Go.RowKit Go.Shelf
open List (length_append length_cons length_nil length_singleton)
theorem str_eq {a b : ByteArray} (h : a.data.toList = b.data.toList) : a = b := ByteArray.ext (Array.ext' h)
theorem str_of (l : List UInt8) : (⟨l.toArray⟩ : ByteArray).data.toList = l := by simp
theorem str_app (a b : ByteArray) : (a ++ b).data.toList = a.data.toList ++ b.data.toList := by simp [ByteArray.data_append]
theorem quoted_ok (r : Nat) (hr : Sc r) (w : World) :
  Calls Tryz.prog 192 #[.int .i32 r] w fun e w' => e = .returned (.string ⟨(quotedL r).toArray⟩) ∧ Below w.heap.size w w' := by
 have hb : r ≤ 1114111 := by unfold Sc at hr; omega
 have hn2 := fun wx => numbered_ok r 2 (Or.inl rfl) hb wx
 have hn4 := fun wx => numbered_ok r 4 (Or.inr rfl) hb wx
 obtain ⟨X, hX⟩ : ∃ X, (⟨(quotedL r).toArray⟩ : ByteArray) = X := ⟨_, rfl⟩
 rw [hX]
 have hXl : X.data.toList = quotedL r := by rw [← hX, str_of]
 clear hX
 unfold quotedL at hXl
 by_cases h39 : r = 39
 ·subst h39; have HX := Lh (show (⟨#[92]⟩ : ByteArray) ++ Utf8.encode 39 = X from str_eq (by rw [hXl, str_app]; rfl)); exact lv183
 by_cases h92 : r = 92
 ·subst h92; have HX := Lh (show (⟨#[92]⟩ : ByteArray) ++ Utf8.encode 92 = X from str_eq (by rw [hXl, str_app]; rfl)); exact lv183
 rw [if_neg lq29] at hXl
 by_cases h10 : r = 10
 ·subst h10; have HX := Lh (show (⟨#[92, 110]⟩ : ByteArray) = X from str_eq (by rw [hXl]; rfl)); exact lv183
 rw [if_neg h10] at hXl
 by_cases h9 : r = 9
 ·subst h9; have HX := Lh (show (⟨#[92, 116]⟩ : ByteArray) = X from str_eq (by rw [hXl]; rfl)); exact lv183
 rw [if_neg h9] at hXl
 have b39 : ((r : Int) == 39) = false := beqI (b := 39) h39
 have b92 : ((r : Int) == 92) = false := beqI (b := 92) h92
 have b10 : ((r : Int) == 10) = false := beqI (b := 10) h10
 have b9 : ((r : Int) == 9) = false := beqI (b := 9) h9
 clear h39 h92 h10 h9
 by_cases hx : r < 32 ∨ r = 127
 ·rw [if_pos hx] at hXl; obtain ⟨Y, hY⟩ : ∃ Y, (⟨(numb r 2).toArray⟩ : ByteArray) = Y := ⟨_, rfl⟩; have HX := Lh (show (⟨#[92, 120]⟩ : ByteArray) ++ Y = X from str_eq (by rw [hXl, str_app, ← hY, str_of]; rfl)); have hYs : Y.size = 2 := by rw [← hY]; exact numb_len 2 r
  rw [hY] at hn2; clear hXl hn4 hY; have hx2 : (r : Int) < 32 ∨ r = 127 := by omega
  clear hx hb hr
  rcases hx2 with hx2 | rfl
  all_goals
   go_enter Tryz.func192, Tryz.ntmps192; go_wp2_with (go_at_call 216; refine (hn2 _).mono ?_; rintro e w1 ⟨rfl, hb1⟩); go_ret; exact ⟨by rw [← HX.out]; rfl, hb1⟩
 rw [if_neg hx] at hXl
 have x32 : 32 ≤ (r : Int) := by omega
 have b127 : ((r : Int) == 127) = false := beqI (b := 127) lq29
 by_cases hw : Wide r
 ·rw [if_pos hw] at hXl; obtain ⟨Y, hY⟩ : ∃ Y, (⟨(numb r 4).toArray⟩ : ByteArray) = Y := ⟨_, rfl⟩; have HX := Lh (show (⟨#[92, 117]⟩ : ByteArray) ++ Y = X from str_eq (by rw [hXl, str_app, ← hY, str_of]; rfl)); have hYs : Y.size = 4 := by rw [← hY]; exact numb_len 4 r
  rw [hY] at hn4; have hw2 : (128 ≤ (r : Int) ∧ (r : Int) ≤ 159) ∨ r = 8232 ∨ r = 8233 ∨ r = 65279 := by unfold Wide at hw; omega
  clear hXl hn2 hY hx hb hr hw
  rcases hw2 with ⟨y1, y2⟩ | rfl | rfl | rfl
  all_goals
   go_enter Tryz.func192, Tryz.ntmps192; go_wp2_with (go_at_call 216; refine (hn4 _).mono ?_; rintro e w1 ⟨rfl, hb1⟩); go_ret; exact ⟨by rw [← HX.out]; rfl, hb1⟩
 ·rw [if_neg hw] at hXl; have HX := Lh (show Utf8.encode (r : Int) = X from str_eq (by rw [hXl]; rfl)); have hb' : r < 2147483648 := by omega
  have hw2 : ((r : Int) < 128 ∨ (128 ≤ (r : Int) ∧ 159 < (r : Int))) ∧ r ≠ 8232 ∧ r ≠ 8233 ∧ r ≠ 65279 := by unfold Wide at hw; omega
  obtain ⟨hw2, z1, z2, z3⟩ := hw2; have b1 : ((r : Int) == 8232) = false := beqI (b := 8232) z1; have b2 : ((r : Int) == 8233) = false := beqI (b := 8233) z2; have b3 : ((r : Int) == 65279) = false := beqI (b := 65279) z3; clear hXl hn2 hn4 hx hr hw z1 z2 z3
  rcases hw2 with y1 | ⟨y1, y2⟩
  all_goals
   go_enter Tryz.func192, Tryz.ntmps192; go_wp2; go_ret; exact ⟨by rw [← HX.out]; rfl, Below.refl _ _⟩
theorem strCells_bytes (s : ByteArray) : Lib.strCells s = Lib.byteCells s.data.toList := rfl
theorem quote_ok (s : ByteArray) (w : World) (hs : s.size ≤ 1099511627776) :
  Calls Tryz.prog 142 #[.string s] w fun e w' => e = .returned (.string ⟨(quoteL (pieces s.data.toList)).toArray⟩) ∧ Below w.heap.size w w' := by
 obtain ⟨Q, hQ⟩ : ∃ Q, quoteL (pieces s.data.toList) = Q := ⟨_, rfl⟩
 rw [hQ]
 have HQ := Lh hQ
 clear hQ
 go_enter Tryz.func142, Tryz.ntmps142
 go_wp2_with (go_at_call 191; refine (Tryz.bWriteByte w.heap.size w.heap.size [] 39 _ (Lib.IsBuilderF.of (Lib.fresh_isBuilder 56 5 w)) lq30 lq30).mono ?_; rintro e w1 ⟨rfl, h1, b1, k1⟩)
 simp only [List.nil_append] at h1
 have bw0 : Below w.heap.size w w1 := ((Below.refl _ w).alloc (Nat.le_refl _) _).trans b1
 have hib : w.heap.size < w1.heap.size := Nat.lt_of_lt_of_le lq30 b1.size
 obtain ⟨ib, hibe⟩ : ∃ ib, w1.heap.size = ib := ⟨_, rfl⟩
 have hI0 : Lib.BuilderAtF 56 5 w.heap.size w.heap.size (.pointer (some ⟨w.heap.size, 0, none⟩)) [.int .u8 39] (w1.iter s 0) := bAt_later h1 ((Below.refl _ w1).alloc (Nat.le_refl _) _)
 have hit0 : (w1.iter s 0).heap[ib]? = some (.stringIter s 0) := by rw [← hibe]; exact World.iter_heap w1 s 0
 have hbw0 : Below w.heap.size w (w1.iter s 0) := bw0.alloc (Nat.le_of_lt hib) _
 rw [hibe] at hib
 rw [hibe]
 go_loopw [] (fun wr => ∃ (pos : Nat) (rs : List Nat), Lib.BuilderAtF 56 5 w.heap.size w.heap.size (.pointer (some ⟨w.heap.size, 0, none⟩)) (Lib.byteCells (39 :: rs.flatMap quotedL)) wr ∧ wr.heap[ib]? = some (.stringIter s pos) ∧ Below w.heap.size w wr ∧ rs.length ≤ pos ∧ pos ≤ s.size ∧ Hid (rs ++ pieces (s.data.toList.drop pos) = pieces s.data.toList)) (fun wr => s.size - wr.iterPos ib)
 case atStart => exact ⟨0, [], hI0, hit0, hbw0, Nat.le_refl _, Nat.zero_le _, rfl⟩
 case round =>
  obtain ⟨pos, rs, hI, hit, hbw, hrl, hps, hT⟩ := hrel; have hsz : ib < wr.heap.size := (Array.getElem?_eq_some_iff.1 hit).1; have hl6 := quoteds_len rs; have hcl : (Lib.byteCells (39 :: rs.flatMap quotedL)).length = 1 + (rs.flatMap quotedL).length := by rw [Lib.byteCells_length, length_cons]; omega
  by_cases hp : pos < s.size
  ·have hnx : ∀ ty, (Instr.next (.pointer (some ⟨ib, 0, none⟩)) true ty).run Tryz.prog wr = _ := fun ty => Lib.run_next_any_at wr ib s pos ty hit hp
   have hla := bytes_at s pos hp; have hne : s.data.toList.drop pos ≠ [] := by rw [hla]; simp
   have hwd := Lib.decodeL_width (s.data.toList.drop pos); have hle := Lib.decodeL_le (s.data.toList.drop pos) hne; have hsc := dec_sc (s.data.toList.drop pos); have hst := pieces_step _ hne; rw [List.length_drop, show s.data.toList.length = s.size by simp] at hle; rw [Lib.decodeL_drop] at hwd hst hle hsc; rw [List.drop_drop] at hst; have hI2 := hI.iterAt hit (pos + (Utf8.decode s pos).2); have hit2 := Lib.iterAt_heap wr ib s pos (pos + (Utf8.decode s pos).2) hit; have hbw2 := Lib.below_iterAt hbw (k := ib) (Nat.le_of_lt hib) s (pos + (Utf8.decode s pos).2); rw [hst] at hT
   have hqd := fun wx => quoted_ok (Utf8.decode s pos).1 hsc wx
   have HL := Lh (And.intro hrl (And.intro hwd (And.intro hps hle))); clear hla hne hst hrl hsz hwd hle hps hsc
   generalize (Utf8.decode s pos).1 = r at *
   generalize (Utf8.decode s pos).2 = n at *
   generalize hW2 : wr.iterAt ib s (pos + n) = W2 at *
   have hq6 := quotedL_len r; obtain ⟨Y, hY⟩ : ∃ Y, (⟨(quotedL r).toArray⟩ : ByteArray) = Y := ⟨_, rfl⟩; have hYl : Y.data.toList = quotedL r := by rw [← hY, str_of]
   have hYs : Y.size = (quotedL r).length := by rw [← hYl]; rfl
   simp only [hY] at hqd; have HS := Lh (show (Lib.byteCells (39 :: rs.flatMap quotedL)).length + Y.size ≤ 140737488355328 by rw [hcl, hYs]; have := HL.out; omega); have HY := Lh hYl; clear hq6 hYl hYs hY hcl hl6
   go_wp2_with (first
    | (go_at_call 192; refine (hqd _).mono ?_; rintro e W3 ⟨rfl, hb3⟩)
    | (go_at_call 147; refine (Tryz.bWriteString w.heap.size w.heap.size _ Y _ (.inr (bAt_later hI2 hb3)) HS.out ((hbw2.trans (hb3.mono hbw2.size)).size)).mono ?_; rintro e W4 ⟨rfl, h4, b4, k4⟩))
   have hbw3 := hbw2.trans (hb3.mono hbw2.size); have hit4 : W4.heap[ib]? = some (.stringIter s (pos + n)) := k4 _ _ (heap_later hb3 hit2) (by intro e1; injection e1 with e1; omega) (by intro c fz e1; cases e1)
   go_roundw
   case rel =>
    refine ⟨pos + n, rs ++ [r], ?_, hit4, hbw3.trans b4, ?_, ?_, ?_⟩
    ·rw [strCells_bytes, HY.out, ← Lib.byteCells_append] at h4; rw [List.flatMap_append, List.flatMap_cons, List.flatMap_nil, List.append_nil, ← List.cons_append]; exact h4
    ·have := HL.out; simp; omega
    ·have := HL.out; omega
    ·rw [List.append_assoc]; exact hT
   case measure =>
    have := HL.out; simp only [World.iterPos, hit4, hit]
    omega
  ·have hnx : ∀ ty, (Instr.next (.pointer (some ⟨ib, 0, none⟩)) true ty).run Tryz.prog wr = _ := fun ty => Lib.run_next_end_at wr ib s pos ty hit hp
   have hT1 : rs = pieces s.data.toList := by
    have := hT.out; rw [List.drop_eq_nil_of_le lq26, pieces_nil, List.append_nil] at this; exact this
   have HC := Lh (show (Lib.byteCells (39 :: rs.flatMap quotedL)).length + 1 ≤ 140737488355328 by rw [hcl]; omega); have HE : Lib.byteCells (39 :: rs.flatMap quotedL) ++ [Value.int .u8 39] = Lib.byteCells Q := by
    rw [← HQ.out, ← hT1, quoteL, ← List.cons_append, Lib.byteCells_append]; rfl
   have HE := Lh HE; clear hT hT1 hcl hl6 hrl
   go_wp2_with (first
    | (go_at_call 191; refine (Tryz.bWriteByte w.heap.size w.heap.size _ 39 _ (.inr hI) HC.out hbw.size).mono ?_; rintro e W5 ⟨rfl, h5, b5, k5⟩; rw [HE.out] at h5)
    | (go_at_call 32; refine (Tryz.Builder_String_any_k w.heap.size w.heap.size Q _ (.inr h5) (Nat.le_trans hbw.size b5.size)).mono ?_; rintro e W6 ⟨rfl, _, b6, _⟩))
   go_ret; exact ⟨rfl, hbw.trans (b5.trans b6)⟩
def goodB (s : ByteArray) : Bool := encs (pieces s.data.toList) == s.data.toList
theorem goodB_iff (s : ByteArray) : goodB s = true ↔ encs (pieces s.data.toList) = s.data.toList := by simp [goodB]
theorem refGood_ok (s : ByteArray) (w : World) (hs : s.size ≤ 1099511627776) :
  Calls Tryz.prog 151 #[.string s] w fun e w' => e = .returned (.bool (goodB s)) ∧ Below w.heap.size w w' := by
 have hpc := fun wx => pieces_ok s wx hs
 obtain ⟨b, hb⟩ : ∃ b, goodB s = b := ⟨_, rfl⟩
 have hg : ((encsB (pieces s.data.toList)).toList == s.toList) = b := by rw [← hb, Lib.toList_data, Lib.toList_data, encsB_list, goodB]
 rw [hb]
 obtain ⟨rs, hrs⟩ : ∃ rs, pieces s.data.toList = rs := ⟨_, rfl⟩
 rw [hrs] at hg
 simp only [hrs] at hpc
 clear hb hrs
 go_enter Tryz.func151, Tryz.ntmps151
 go_wp2_with (go_at_call 195; refine (hpc w).mono ?_; rintro e w1 ⟨A, c, rfl, l1, l2, fr, hb1⟩; have hcv := fun m => conv_runes (w1.drewN m) A c rs (fr.later (below_drewN (Below.refl _ _) m)).rd; have hcv0 := conv_runes w1 A c rs fr.rd)
 go_ret
 exact ⟨rfl, hb1⟩
end
section
open List (length_append length_cons length_nil length_singleton)
def nameB (s : List UInt8) : Bool := match s with
 | [] => false
 | c :: r => isLet c && r.all isWd && !wordB (c :: r)
def noNumB (t : Nd) : Bool := !t.neg && t.mag.length == 0
def numB (t : Nd) : Bool := !t.neg && decide (t.mag.length ≤ 256) && !(t.mag.getLast? == some 0)
def isTargetK (k : Int) : Bool := k == 31 || k == 53 || k == 54
inductive Sh where
 | expr | stmt | target | targets | block | none
 | of (k : Int)
 | or2 (a b : Sh)
def Sh.ev (R : Nd → Bool) : Sh → Nd → Bool
 | .expr, t => !(t.kind == 39) && !(t.kind == 40) && !(t.kind == 52) && decide (31 ≤ t.kind) && R t
 | .stmt, t => decide (3 ≤ t.kind) && decide (t.kind ≤ 21) && !(t.kind == 19) && R t
 | .target, t => isTargetK t.kind && R t
 | .targets, t => (isTargetK t.kind && R t) || (t.kind == 23 && R t)
 | .block, t => t.kind == 2 && decide (0 < t.kids.length) && R t
 | .none, t => t.kind == 0 && t.text.size == 0 && noNumB t && t.kids.length == 0
 | .of k, t => t.kind == k && R t
 | .or2 a b, t => a.ev R t || b.ev R t
def paramsB (R : Nd → Bool) : Bool → List Nd → Bool
 | _, [] => true
 | g, p :: r =>
  if !(p.kind == 19) || !R p then false
  else match p.kids with
   | [] => r.isEmpty
   | q :: _ => if !(q.kind == 0) then paramsB R true r else if g then false else paramsB R g r
def catchB (R : Nd → Bool) : List Nd → Bool
 | [] => true
 | x :: r => x.kind == 22 && R x && !((match x.kids with | [] => false | q :: _ => q.kind == 0) && !r.isEmpty) && catchB R r
inductive Fm where
 | row (l : List Sh)
 | some (n : Nat) (s : Sh)
 | dfn | prm | tri | exc | cll
 | cmp (s : Sh)
def Fm.ev (R : Nd → Bool) : Fm → Nd → Bool
 | .row l, t => rowB t.kids (l.map (Sh.ev R))
 | .some n s, t => decide (n ≤ t.kids.length) && t.kids.all (s.ev R)
 | .dfn, t => decide (1 ≤ t.kids.length) && paramsB R false t.kids.dropLast && (t.kids.drop (t.kids.length - 1)).all (Sh.block.ev R)
 | .prm, t => t.kids.length == 0 || rowB t.kids [(Sh.or2 .none .expr).ev R]
 | .tri, t => decide (2 ≤ t.kids.length) && (t.kids.take 1).all (Sh.block.ev R) && catchB R (t.kids.drop 1)
 | .exc, t => rowB t.kids [(Sh.or2 .none .expr).ev R, Sh.block.ev R] && (t.text.size == 0 || nameB t.text.data.toList && !(t.kids.take 1).any (fun q => q.kind == 0))
 | .cmp s, t => decide (3 ≤ t.kids.length) && rowB (t.kids.take 3) [s.ev R, Sh.targets.ev R, Sh.expr.ev R] && (t.kids.drop 3).all (Sh.expr.ev R)
 | .cll, t => decide (1 ≤ t.kids.length) && (t.kids.take 1).all (Sh.expr.ev R) && (let r := ((t.kids.drop 1).dropWhile (Sh.expr.ev R)).dropWhile ((Sh.of 52).ev R); r.isEmpty || rowB r [(Sh.of 40).ev R])
inductive Tx where
 | non | name | exc | good
 | words (l : List (List UInt8))
def Tx.ev : Tx → ByteArray → Bool
 | .non, s => s.size == 0
 | .name, s => nameB s.data.toList
 | .exc, s => s.size == 0 || nameB s.data.toList
 | .good, s => goodB s
 | .words l, s => l.contains s.data.toList
def signsL : List (List UInt8) := [[43], [45], [42], [47, 47], [37], [38], [124], [94]]
def compsL : List (List UInt8) := [[61, 61], [33, 61], [60], [60, 61], [62], [62, 61], [105, 110], [110, 111, 116, 32, 105, 110], [105, 115], [105, 115, 32, 110, 111, 116]]
def constsL : List (List UInt8) := [[78, 111, 110, 101], [84, 114, 117, 101], [70, 97, 108, 115, 101]]
def forms : List (Int × Tx × Fm) := [(1, .non, .row [.of 2]), (2, .non, .some 0 .stmt), (3, .non, .row [.expr]), (4, .non, .row [.target, .expr]), (5, .non, .row [.of 23, .expr]), (6, .words signsL, .row [.target, .expr]), (7, .non, .row [.target]),
 (8, .non, .row []), (9, .non, .row []), (10, .non, .row []), (11, .non, .row [.or2 .none .expr]), (12, .non, .row [.or2 .none .expr]), (13, .non, .some 1 (.of 31)), (14, .non, .some 1 (.of 31)), (15, .non, .row [.expr, .block, .or2 .none .block]), (16, .non, .row [.expr, .block]),
 (17, .non, .row [.targets, .expr, .block]), (18, .name, .dfn), (19, .name, .prm), (20, .name, .row [.or2 .none .expr, .block]), (21, .non, .tri), (22, .exc, .exc), (23, .non, .some 2 .target),
 (31, .name, .row []), (32, .non, .row []), (33, .good, .row []), (34, .words constsL, .row []), (35, .non, .some 0 .expr), (36, .non, .some 0 .expr), (37, .non, .some 1 .expr), (38, .non, .some 0 (.or2 (.of 39) (.of 40))), (39, .non, .row [.expr, .expr]), (45, .non, .row [.expr, .expr]), (46, .non, .row [.expr, .expr]), (54, .non, .row [.expr, .expr]),
 (40, .non, .row [.expr]), (47, .non, .row [.expr]), (50, .non, .row [.expr]), (41, .non, .cmp .expr), (42, .non, .cmp .expr), (43, .non, .cmp (.of 39)), (44, .non, .row [.expr, .expr, .expr]), (48, .words compsL, .row [.expr, .expr]), (49, .words signsL, .row [.expr, .expr]), (51, .non, .cll), (52, .name, .row [.expr]), (53, .name, .row [.expr])]
def formOf (k : Int) : Option (Tx × Fm) := (forms.find? (fun x => x.1 == k)).map (·.2)
def rightN : Nat → Nd → Bool
 | 0, _ => false
 | n + 1, T => match formOf T.kind with
  | none => false
  | some x => x.1.ev T.text && (if T.kind = 32 then numB T else noNumB T) && x.2.ev (rightN n) T
def Nd.right (T : Nd) : Bool := rightN T.depth T
section
variable {R R' : Nd → Bool}
theorem Sh.congr {t : Nd} (h : R t = R' t) : ∀ s : Sh, s.ev R t = s.ev R' t
 | .expr => by simp only [Sh.ev, h]
 | .stmt => by simp only [Sh.ev, h]
 | .target => by simp only [Sh.ev, h]
 | .targets => by simp only [Sh.ev, h]
 | .block => by simp only [Sh.ev, h]
 | .none => rfl
 | .of k => by simp only [Sh.ev, h]
 | .or2 a b => by simp only [Sh.ev, Sh.congr h a, Sh.congr h b]
theorem rowB_congr : ∀ (l : List Nd) (L : List Sh), (∀ t ∈ l, R t = R' t) → rowB l (L.map (Sh.ev R)) = rowB l (L.map (Sh.ev R'))
 | [], [], _ => rfl
 | [], _ :: _, _ => rfl
 | _ :: _, [], _ => rfl
 | t :: r, s :: q, h => by
  simp only [List.map_cons, rowB]; rw [Sh.congr (h t (List.mem_cons_self ..)) s, rowB_congr r q (fun t ht => h t (List.mem_cons_of_mem _ ht))]
theorem all_congr (s : Sh) : ∀ (l : List Nd), (∀ t ∈ l, R t = R' t) → l.all (s.ev R) = l.all (s.ev R')
 | [], _ => rfl
 | t :: r, h => by rw [List.all_cons, List.all_cons, Sh.congr (h t (List.mem_cons_self ..)) s, all_congr s r (fun t ht => h t (List.mem_cons_of_mem _ ht))]
theorem params_congr : ∀ (l : List Nd) (g : Bool), (∀ t ∈ l, R t = R' t) → paramsB R g l = paramsB R' g l
 | [], g, _ => by simp [paramsB]
 | p :: r, g, h => by
  have h1 := h p (List.mem_cons_self ..); have h2 := fun g => params_congr r g (fun t ht => h t (List.mem_cons_of_mem _ ht))
  simp only [paramsB, h1, h2]
theorem catch_congr : ∀ (l : List Nd), (∀ t ∈ l, R t = R' t) → catchB R l = catchB R' l
 | [], _ => rfl
 | p :: r, h => by
  have h1 := h p (List.mem_cons_self ..); have h2 := catch_congr r (fun t ht => h t (List.mem_cons_of_mem _ ht)); simp only [catchB, h1, h2]
theorem dropWhile_congr (s : Sh) : ∀ (l : List Nd), (∀ t ∈ l, R t = R' t) → l.dropWhile (s.ev R) = l.dropWhile (s.ev R')
 | [], _ => rfl
 | t :: r, h => by
  rw [List.dropWhile_cons, List.dropWhile_cons, Sh.congr (h t (List.mem_cons_self ..)) s, dropWhile_congr s r (fun t ht => h t (List.mem_cons_of_mem _ ht))]
theorem mem_dropWhile {p : Nd → Bool} {l : List Nd} {t : Nd} (h : t ∈ l.dropWhile p) : t ∈ l := (List.dropWhile_sublist p).mem h
theorem Fm.congr {T : Nd} (h : ∀ t ∈ T.kids, R t = R' t) : ∀ f : Fm, f.ev R T = f.ev R' T
 | .row l => rowB_congr _ l h
 | .some n s => by simp only [Fm.ev, all_congr s T.kids h]
 | .dfn => by
  simp only [Fm.ev]; rw [params_congr _ _ (fun t ht => h t ((List.dropLast_sublist _).mem ht)), all_congr .block _ (fun t ht => h t (List.mem_of_mem_drop ht))]
 | .prm => by
  simp only [Fm.ev]; have := rowB_congr T.kids [Sh.or2 .none .expr] h; simp only [List.map_cons, List.map_nil] at this; rw [this]
 | .tri => by
  simp only [Fm.ev]; rw [catch_congr _ (fun t ht => h t (List.mem_of_mem_drop ht)), all_congr .block _ (fun t ht => h t (List.mem_of_mem_take ht))]
 | .exc => by
  simp only [Fm.ev]; have := rowB_congr T.kids [Sh.or2 .none .expr, Sh.block] h; simp only [List.map_cons, List.map_nil] at this; rw [this]
 | .cmp s => by
  simp only [Fm.ev]; have := rowB_congr (T.kids.take 3) [s, Sh.targets, Sh.expr] (fun t ht => h t (List.mem_of_mem_take ht)); simp only [List.map_cons, List.map_nil] at this; rw [this, all_congr .expr _ (fun t ht => h t (List.mem_of_mem_drop ht))]
 | .cll => by
  simp only [Fm.ev]; rw [all_congr .expr _ (fun t ht => h t (List.mem_of_mem_take ht)), dropWhile_congr .expr _ (fun t ht => h t (List.mem_of_mem_drop ht))]; rw [dropWhile_congr (.of 52) _ (fun t ht => h t (List.mem_of_mem_drop (mem_dropWhile ht)))]; have := rowB_congr (((T.kids.drop 1).dropWhile (Sh.expr.ev R')).dropWhile ((Sh.of 52).ev R')) [Sh.of 40] (fun t ht => h t (List.mem_of_mem_drop (mem_dropWhile (mem_dropWhile ht)))); simp only [List.map_cons, List.map_nil] at this; rw [this]
end
theorem rightN_two : ∀ (n m : Nat) (T : Nd), T.depth ≤ n → T.depth ≤ m → rightN n T = rightN m T
 | 0, _, T, h, _ => by rw [T.depth_eq] at h; omega
 | _, 0, T, _, h => by rw [T.depth_eq] at h; omega
 | n + 1, m + 1, T, hn, hm => by
  have hc : ∀ f : Fm, f.ev (rightN n) T = f.ev (rightN m) T := fun f => f.congr fun t ht => by
   have hk := Nd.depth_kid ht; exact rightN_two n m t lq29 lq29
  simp only [rightN, hc]
theorem right_eq (T : Nd) : T.right = match formOf T.kind with
  | none => false
  | some x => x.1.ev T.text && (if T.kind = 32 then numB T else noNumB T) && x.2.ev Nd.right T := by
 have hd := T.depth_eq
 have hc : ∀ f : Fm, f.ev (rightN (depths T.kids)) T = f.ev Nd.right T := fun f => f.congr fun t ht => rightN_two _ _ t (depths_le ht) (Nat.le_refl _)
 unfold Nd.right
 rw [hd, rightN]
 simp only [hc]
 rfl
end
end Go.Proofs.YtjefhdlncikhmaaGreatDoor
