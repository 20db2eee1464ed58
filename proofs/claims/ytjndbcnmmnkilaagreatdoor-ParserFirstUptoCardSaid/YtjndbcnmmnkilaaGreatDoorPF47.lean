/- Joined by a program: Q7p, Wr4a, SmW, LiP, Wr5, Wr6p. -/
import Derived.Test.YtjndbcnmmnkilaaGreatDoorPF46
namespace Go.Proofs.YtjndbcnmmnkilaaGreatDoor
set_option linter.unusedVariables false
set_option linter.unusedSimpArgs false
set_option maxRecDepth 1000000
set_option maxHeartbeats 16000000
section
open Go.RowKit
open List (length_append length_cons length_nil length_singleton)
theorem kids_1 {l : List Nd} (h : l.length = 1) : ∃ a, l = [a] := by
 match l, h with
 | [a], _ => exact ⟨a, rfl⟩
theorem kids_2 {l : List Nd} (h : l.length = 2) : ∃ a b, l = [a, b] := by
 match l, h with
 | [a, b], _ => exact ⟨a, b, rfl⟩
theorem st_at {T : Nd} {k : Int} (hk : T.kind = k) {tx : Tx} {fm : Fm} (hf : formOf k = some (tx, fm)) (h3 : 3 ≤ k) (h21 : k ≤ 21) (h19 : k ≠ 19) : Sh.stmt.ev Nd.right T = (tx.ev T.text && noNumB T && fm.ev Nd.right T) := by
 have : Sh.stmt.ev Nd.right T = T.right := by simp [Sh.ev, hk, h3, h21, h19]
 rw [this, right_at hk hf lq17]
theorem we31 (D : Nat) (w0 : World) (X dep : Nat) (hE : EOk D w0 X dep) (hTg : TOk D w0 X dep) (T : Nd) (hk : T.kind = 31) (hT : Ex T) (hD : T.dep ≤ D + 1) (hWt : T.weight ≤ 1000000) : FSays 156 w0 X dep Nd.txt T := by
 intro A c K d l0 w hN hBs hW hlen
 have hts : T.txt = tx T := by rw [txt_eq]; simp [txtOf, hk]
 have HTX := Lh hts
 have HLN := Lh (show l0.length + (tx T).length ≤ 1000000000000 by rw [← hts]; exact hlen)
 have z31 : (T.kind == 31) = true := by rw [hk]; rfl
 obtain ⟨z34, z32, z33, z35, z36, z37, z38, z41⟩ := kz8 hk 34 32 33 35 36 37 38 41 rfl
 obtain ⟨z42, z43, z45, z46, z48, z49⟩ := kz6 hk 42 43 45 46 48 49 rfl
 obtain ⟨hm1, hm2, hrm, hw32, hk1, hk2, hk64, ha64, hts', hKs⟩ := hN.parts
 have hk2' := hk2
 unfold maxLen at hm2 hk2 hts'
 obtain ⟨hk64a, hk64b⟩ := hk64
 obtain ⟨ha64a, ha64b⟩ := ha64
 have hB0 : w0.heap.size ≤ w.heap.size := hBs.size
 have hbX : X < w.heap.size := WrT.lt hW
 have hK0 : WK w0.heap.size X w (w.alloc (.cells #[.int .i64 T.kind, .int .i64 T.pos, .string T.text, .bool T.neg, .slice A T.mag.length c, .slice K T.kids.length d] 29)) := (WK.refl _ _ _).alloc hB0 _
 have hWb := hW.alloc (.cells #[.int .i64 T.kind, .int .i64 T.pos, .string T.text, .bool T.neg, .slice A T.mag.length c, .slice K T.kids.length d] 29)
 have hBb : Below w0.heap.size w0 (w.alloc (.cells #[.int .i64 T.kind, .int .i64 T.pos, .string T.text, .bool T.neg, .slice A T.mag.length c, .slice K T.kids.length d] 29)) := hBs.trans hK0.b
 have hbx := heap_alloc_new w (.cells #[.int .i64 T.kind, .int .i64 T.pos, .string T.text, .bool T.neg, .slice A T.mag.length c, .slice K T.kids.length d] 29)
 have hsg : (w.alloc (.cells #[.int .i64 T.kind, .int .i64 T.pos, .string T.text, .bool T.neg, .slice A T.mag.length c, .slice K T.kids.length d] 29)).heap.size = w.heap.size + 1 := by simp
 clear hKs hN hlen hE hTg hT hD hWt hrm hw32 hk hts 
 obtain ⟨c0, c1, c2, c3, c4, c5⟩ := (cells_box hbx).box
 have hlb := blt c0
 have hlX := WrT.lt hWb
 unfold ndV
 go_enter Tryz.func156, Tryz.ntmps156
 go_wp2_with fail
 have hWa := hWb.alloc (.cells #[.string (T.text)] 9)
 have hKa := hK0.alloc (Nat.le_trans hB0 hK0.b.size) (.cells #[.string (T.text)] 9)
 have hbxa := (Lib.alloc_old _ (.cells #[.string (T.text)] 9) _ hlb).trans hbx
 go_at_call 159
 refine (wSayT_ok w0.heap.size X dep _ (tx T) [T.text] 1 (w.heap.size + 1) _ hWa rfl (by have := WrT.lt hWb; rw [hsg] at this; exact this) (by rw [← hsg]; exact heap_alloc_new _ _) (by simp [tx]) lq16 lq2 (Nat.le_trans hB0 hKa.b.size)).mono ?_
 rintro e w_1 ⟨rfl, hW_1, hk_1⟩
 have hK_1 := hKa.trans hk_1
 have hbx := box_keep hk_1 hbxa hbX
 have hB_1 : Below w0.heap.size w0 w_1 := hBs.trans hK_1.b
 obtain ⟨c0, c1, c2, c3, c4, c5⟩ := (cells_box hbx).box
 have hlb := blt c0
 have hlX := WrT.lt hW_1
 go_wp2_with fail
 ((try simp only [Exit.inBlock, Exit.then]); first | refine bodyPost_end (results_none rfl _ _ _) rfl ?_ | refine bodyPost_ret (results_none rfl _ _ _) rfl ?_)
 exact ⟨rfl, hW_1.eq (by rw [HTX.out]; try simp only [List.append_assoc, List.append_nil, List.nil_append, List.cons_append, List.singleton_append]), hK_1⟩
theorem wExpr_ok (w0 : World) (X dep : Nat) : ∀ D, D ≤ 1000000 → EOk D w0 X dep := by
 intro D
 induction D with
 | zero => intro _ T _ hD; rw [T.dep_eq] at hD; omega
 | succ D ih =>
  intro hDD T hT hD hWt; have hE := ih lq17
  rcases Nd.smk_kind (Nd.dep_sm hD hDD) with h | h | h | h
  ·exact absurd hT.2 (by rw [h]; decide)
  ·exact absurd hT.2 (by rw [h]; decide)
  ·exact absurd hT.2 (by rw [h]; decide)
  ·exact we31 D w0 X dep hE (wTargets_ok D w0 X dep hE) T h hT hD hWt
end
section
open List (length_append length_cons length_nil length_singleton)
def padL (n : Nat) : List UInt8 := List.replicate n 32
def maybeL (q : Nd) : List UInt8 := if q.kind = 0 then [] else [32] ++ q.txt
def parL (p : Nd) : List UInt8 := match p.kids with
 | [] => [42, 42] ++ tx p
 | q :: _ => if q.kind = 0 then tx p else tx p ++ [61] ++ q.txt
def kdq (ks : List Nd) (i : Nat) : Nd := ks.getD i (.mk 0 0 ⟨#[]⟩ false [] [])
def gy (Y : List (Nat → List UInt8)) (i n : Nat) : List UInt8 := (Y.getD i (fun _ => [])) n
def linOf (T : Nd) (ks : List Nd) (Y : List (Nat → List UInt8)) (n : Nat) : List UInt8 :=
 if T.kind = 2 then Y.flatMap (fun y => y n)
 else if T.kind = 22 then padL n ++ [101, 120, 99, 101, 112, 116] ++ maybeL (kdq ks 0) ++ (if T.text.size = 0 then [] else [32, 97, 115, 32] ++ tx T) ++ [58, 10] ++ gy Y 1 (n + 1)
 else if T.kind = 3 then padL n ++ (kdq ks 0).txt ++ [10]
 else if T.kind = 4 ∨ T.kind = 5 then padL n ++ (kdq ks 0).txt ++ [32, 61, 32] ++ (kdq ks 1).txt ++ [10]
 else if T.kind = 6 then padL n ++ (kdq ks 0).txt ++ [32] ++ tx T ++ [61, 32] ++ (kdq ks 1).txt ++ [10]
 else if T.kind = 7 then padL n ++ [100, 101, 108, 32] ++ (kdq ks 0).txt ++ [10]
 else if T.kind = 8 then padL n ++ [112, 97, 115, 115, 10]
 else if T.kind = 9 then padL n ++ [98, 114, 101, 97, 107, 10]
 else if T.kind = 10 then padL n ++ [99, 111, 110, 116, 105, 110, 117, 101, 10]
 else if T.kind = 11 then padL n ++ [114, 101, 116, 117, 114, 110] ++ maybeL (kdq ks 0) ++ [10]
 else if T.kind = 12 then padL n ++ [114, 97, 105, 115, 101] ++ maybeL (kdq ks 0) ++ [10]
 else if T.kind = 13 then padL n ++ [103, 108, 111, 98, 97, 108, 32] ++ sepL com (ks.map Nd.txt) ++ [10]
 else if T.kind = 14 then padL n ++ [110, 111, 110, 108, 111, 99, 97, 108, 32] ++ sepL com (ks.map Nd.txt) ++ [10]
 else if T.kind = 15 then padL n ++ [105, 102, 32] ++ (kdq ks 0).txt ++ [58, 10] ++ gy Y 1 (n + 1) ++ (if (kdq ks 2).kind = 0 then [] else padL n ++ [101, 108, 115, 101, 58, 10] ++ gy Y 2 (n + 1))
 else if T.kind = 16 then padL n ++ [119, 104, 105, 108, 101, 32] ++ (kdq ks 0).txt ++ [58, 10] ++ gy Y 1 (n + 1)
 else if T.kind = 17 then padL n ++ [102, 111, 114, 32] ++ (kdq ks 0).txt ++ [32, 105, 110, 32] ++ (kdq ks 1).txt ++ [58, 10] ++ gy Y 2 (n + 1)
 else if T.kind = 18 then padL n ++ [100, 101, 102, 32] ++ tx T ++ [40] ++ sepL com (ks.dropLast.map parL) ++ [41, 58, 10] ++ gy Y (ks.length - 1) (n + 1)
 else if T.kind = 20 then padL n ++ [99, 108, 97, 115, 115, 32] ++ tx T ++ (if (kdq ks 0).kind = 0 then [] else [40] ++ (kdq ks 0).txt ++ [41]) ++ [58, 10] ++ gy Y 1 (n + 1)
 else if T.kind = 21 then padL n ++ [116, 114, 121, 58, 10] ++ gy Y 0 (n + 1) ++ (Y.drop 1).flatMap (fun y => y n)
 else []
mutual
def Nd.lin : Nd → Nat → List UInt8
 | .mk k a t b m ks => linOf (.mk k a t b m ks) ks (lins ks)
def lins : List Nd → List (Nat → List UInt8)
 | [] => []
 | t :: r => t.lin :: lins r
end
theorem lins_map : ∀ l : List Nd, lins l = l.map Nd.lin
 | [] => rfl
 | t :: r => by rw [lins, lins_map r, List.map_cons]
theorem lin_eq (T : Nd) (n : Nat) : T.lin n = linOf T T.kids (T.kids.map Nd.lin) n := by
 cases T; rw [Nd.lin, lins_map]; rfl
def printL (T : Nd) : List UInt8 := (kdq T.kids 0).lin 0
structure LB (n M : Nat) (ks : List Nd) : Prop where
 x : ∀ t ∈ ks, t.txt.length ≤ 64 * t.weight
 y : ∀ t ∈ ks, (t.lin n).length ≤ M * t.weight ∧ (t.lin (n + 1)).length ≤ M * t.weight
theorem kd_mem {ks : List Nd} {i : Nat} (h : i < ks.length) : kdq ks i ∈ ks := by
 unfold kdq
 rw [List.getD, List.getElem?_eq_getElem h]
 exact List.getElem_mem h
theorem kd_txt {ks : List Nd} (h : ∀ t ∈ ks, t.txt.length ≤ 64 * t.weight) (i : Nat) : (kdq ks i).txt.length ≤ 64 * weights ks := by
 by_cases hi : i < ks.length
 ·have h1 := h _ (kd_mem hi); have h2 := weights_le (kd_mem hi)
  omega
 ·unfold kdq; rw [List.getD, List.getElem?_eq_none lq17]; have : ((Nd.mk 0 0 ⟨#[]⟩ false [] []).txt).length = 0 := rfl
  show ((Nd.mk 0 0 ⟨#[]⟩ false [] []).txt).length ≤ _
  omega
theorem gy_len {n M : Nat} {ks : List Nd} (h : LB n M ks) (i : Nat) : (gy (ks.map Nd.lin) i (n + 1)).length ≤ M * weights ks := by
 unfold gy
 by_cases hi : i < ks.length
 ·have hm : ks[i] ∈ ks := List.getElem_mem hi; have h1 := (h.y _ hm).2; have h2 := weights_le hm; have h3 := Nat.mul_le_mul_left M h2; simp only [List.getD, List.getElem?_map, List.getElem?_eq_getElem hi, Option.map_some, Option.getD_some]
  omega
 ·simp only [List.getD, List.getElem?_map, List.getElem?_eq_none (Nat.le_of_not_lt hi), Option.map_none, Option.getD_none, length_nil]
  omega
theorem flat_len' {n M : Nat} : ∀ (ks : List Nd), (∀ t ∈ ks, (t.lin n).length ≤ M * t.weight) → ((ks.map Nd.lin).flatMap (fun y => y n)).length ≤ M * weights ks
 | [], _ => by simp
 | t :: r, h => by
  have h1 := h t (List.mem_cons_self ..); have h2 := flat_len' r (fun t ht => h t (List.mem_cons_of_mem _ ht)); rw [List.map_cons, List.flatMap_cons, length_append, weights, Nat.mul_add]
  omega
theorem gy_12 {n M : Nat} {ks : List Nd} (h : LB n M ks) : (gy (ks.map Nd.lin) 1 (n + 1)).length + (gy (ks.map Nd.lin) 2 (n + 1)).length ≤ M * weights ks := by
 match ks, h with
 | [], _ => simp [gy]
 | [a], _ => simp [gy]
 | [a, b], h =>
  have h1 := (h.y b lq18).2; simp only [gy, List.map_cons, List.map_nil, List.getD_cons_succ, List.getD_cons_zero, List.getD_nil, length_nil, weights, Nat.mul_add]
  omega
 | a :: b :: c :: r, h =>
  have h1 := (h.y b lq18).2; have h2 := (h.y c lq18).2; simp only [gy, List.map_cons, List.getD_cons_succ, List.getD_cons_zero, weights, Nat.mul_add]
  omega
theorem gy_0d {n M : Nat} {ks : List Nd} (h : LB n M ks) : (gy (ks.map Nd.lin) 0 (n + 1)).length + (((ks.map Nd.lin).drop 1).flatMap (fun y => y n)).length ≤ M * weights ks := by
 match ks, h with
 | [], _ => simp [gy]
 | a :: r, h =>
  have h1 := (h.y a lq18).2; have h2 := flat_len' (n := n) (M := M) r (fun t ht => (h.y t (List.mem_cons_of_mem _ ht)).1); simp only [gy, List.map_cons, List.getD_cons_zero, List.drop_succ_cons, List.drop_zero, weights, Nat.mul_add]
  omega
theorem weights_drop (ks : List Nd) (k : Nat) : weights (ks.drop k) ≤ weights ks := by
 induction ks generalizing k with
 | nil => simp
 | cons a r ih =>
  cases k with
  | zero => simp
  | succ k => rw [List.drop_succ_cons, weights]; have := ih k; omega
theorem maybe_len {ks : List Nd} (h : ∀ t ∈ ks, t.txt.length ≤ 64 * t.weight) (i : Nat) : (maybeL (kdq ks i)).length ≤ 64 * weights ks + 1 := by
 have := kd_txt h i
 unfold maybeL
 split
 ·simp
 ·rw [length_append, length_singleton]; omega
theorem par_len {p : Nd} (h : ∀ t ∈ p.kids, t.txt.length ≤ 64 * t.weight) : (parL p).length ≤ 64 * p.weight := by
 have ht : (tx p).length = p.text.size := by simp [tx]
 have hw := p.weight_eq
 unfold parL
 cases hks : p.kids with
 | nil => rw [length_append]; simp; omega
 | cons q r =>
  have h1 := h q (by rw [hks]; simp); have h2 : q.weight ≤ weights p.kids := weights_le (by rw [hks]; simp)
  dsimp only
  split
  ·omega
  ·simp only [length_append, length_singleton]; omega
theorem total_any {f : Nd → List UInt8} : ∀ (l : List Nd), (∀ t ∈ l, (f t).length ≤ 64 * t.weight) → total (l.map f) ≤ 64 * weights l
 | [], _ => by simp [total]
 | t :: r, h => by
  have h1 := h t (List.mem_cons_self ..); have h2 := total_any r (fun t ht => h t (List.mem_cons_of_mem _ ht)); rw [List.map_cons, total, weights]
  omega
theorem linOf_len (T : Nd) (n M : Nat) (h : LB n M T.kids) (hp : ∀ p ∈ T.kids, ∀ t ∈ p.kids, t.txt.length ≤ 64 * t.weight) : (linOf T T.kids (T.kids.map Nd.lin) n).length ≤ M * weights T.kids + 200 * weights T.kids + 2 * n + 6 * T.text.size + 60 := by
 have ht : (tx T).length = T.text.size := by simp [tx]
 have h0 := kd_txt h.x 0
 have h1 := kd_txt h.x 1
 have m0 := maybe_len h.x 0
 have y12 := gy_12 h
 have y0d := gy_0d h
 have y0 := gy_len h 0
 have y1 := gy_len h 1
 have y2 := gy_len h 2
 have yl := gy_len h (T.kids.length - 1)
 have hpad : (padL n).length = n := by simp [padL]
 have hf := flat_len' (n := n) (M := M) T.kids (fun t ht => (h.y t ht).1)
 have hd := flat_len' (n := n) (M := M) (T.kids.drop 1) (fun t ht => (h.y t (List.mem_of_mem_drop ht)).1)
 have hdw := Nat.mul_le_mul_left M (weights_drop T.kids 1)
 rw [List.map_drop] at hd
 have hs := sep_total com (T.kids.map Nd.txt)
 have hst := total_any T.kids h.x
 have hp1 : ∀ t ∈ T.kids.dropLast, (parL t).length ≤ 64 * t.weight := fun t ht => par_len (hp t (List.dropLast_subset _ ht))
 have hps := sep_total com (T.kids.dropLast.map parL)
 have hpt := total_any T.kids.dropLast hp1
 have hlw := weights_len T.kids
 have hdl : weights T.kids.dropLast ≤ weights T.kids := by rw [List.dropLast_eq_take]; exact weights_take_le _ _
 have hdn : T.kids.dropLast.length ≤ T.kids.length := by simp
 rw [List.length_map] at hs hps
 have hc : com.length = 2 := rfl
 rw [hc] at hs hps
 unfold linOf
 by_cases c0 : T.kind = 2
 ·rw [if_pos c0]; (try simp only [length_append, length_cons, length_nil, hpad]); omega
 rw [if_neg c0]
 by_cases c1 : T.kind = 22
 ·rw [if_pos c1]
  by_cases c : T.text.size = 0
  ·rw [if_pos c]; (try simp only [length_append, length_cons, length_nil, hpad]); omega
  ·rw [if_neg c]; (try simp only [length_append, length_cons, length_nil, hpad]); omega
 rw [if_neg c1]
 by_cases c2 : T.kind = 3
 ·rw [if_pos c2]; (try simp only [length_append, length_cons, length_nil, hpad]); omega
 rw [if_neg c2]
 by_cases c3 : T.kind = 4 ∨ T.kind = 5
 ·rw [if_pos c3]; (try simp only [length_append, length_cons, length_nil, hpad]); omega
 rw [if_neg c3]
 by_cases c4 : T.kind = 6
 ·rw [if_pos c4]; (try simp only [length_append, length_cons, length_nil, hpad]); omega
 rw [if_neg c4]
 by_cases c5 : T.kind = 7
 ·rw [if_pos c5]; (try simp only [length_append, length_cons, length_nil, hpad]); omega
 rw [if_neg c5]
 by_cases c6 : T.kind = 8
 ·rw [if_pos c6]; (try simp only [length_append, length_cons, length_nil, hpad]); omega
 rw [if_neg c6]
 by_cases c7 : T.kind = 9
 ·rw [if_pos c7]; (try simp only [length_append, length_cons, length_nil, hpad]); omega
 rw [if_neg c7]
 by_cases c8 : T.kind = 10
 ·rw [if_pos c8]; (try simp only [length_append, length_cons, length_nil, hpad]); omega
 rw [if_neg c8]
 by_cases c9 : T.kind = 11
 ·rw [if_pos c9]; (try simp only [length_append, length_cons, length_nil, hpad]); omega
 rw [if_neg c9]
 by_cases c10 : T.kind = 12
 ·rw [if_pos c10]; (try simp only [length_append, length_cons, length_nil, hpad]); omega
 rw [if_neg c10]
 by_cases c11 : T.kind = 13
 ·rw [if_pos c11]; (try simp only [length_append, length_cons, length_nil, hpad]); omega
 rw [if_neg c11]
 by_cases c12 : T.kind = 14
 ·rw [if_pos c12]; (try simp only [length_append, length_cons, length_nil, hpad]); omega
 rw [if_neg c12]
 by_cases c13 : T.kind = 15
 ·rw [if_pos c13]
  by_cases c : (kdq T.kids 2).kind = 0
  ·rw [if_pos c]; (try simp only [length_append, length_cons, length_nil, hpad]); omega
  ·rw [if_neg c]; (try simp only [length_append, length_cons, length_nil, hpad]); omega
 rw [if_neg c13]
 by_cases c14 : T.kind = 16
 ·rw [if_pos c14]; (try simp only [length_append, length_cons, length_nil, hpad]); omega
 rw [if_neg c14]
 by_cases c15 : T.kind = 17
 ·rw [if_pos c15]; (try simp only [length_append, length_cons, length_nil, hpad]); omega
 rw [if_neg c15]
 by_cases c16 : T.kind = 18
 ·rw [if_pos c16]; (try simp only [length_append, length_cons, length_nil, hpad]); omega
 rw [if_neg c16]
 by_cases c17 : T.kind = 20
 ·rw [if_pos c17]
  by_cases c : (kdq T.kids 0).kind = 0
  ·rw [if_pos c]; (try simp only [length_append, length_cons, length_nil, hpad]); omega
  ·rw [if_neg c]; (try simp only [length_append, length_cons, length_nil, hpad]); omega
 rw [if_neg c17]
 by_cases c18 : T.kind = 21
 ·rw [if_pos c18]; (try simp only [length_append, length_cons, length_nil, hpad]); omega
 rw [if_neg c18]
 simp
theorem lin_len (T : Nd) : okN T → ∀ n, (T.lin n).length ≤ (400 + 4 * (n + T.depth)) * T.depth * T.weight := by
 induction T using Nd.ind with
 | h T ih =>
  intro ho n; have ho2 := (okN_eq T).1 ho; have hx : ∀ t ∈ T.kids, t.txt.length ≤ 64 * t.weight := fun t ht => by have := txt_len t (okNs_mem ho2.2 t ht); omega
  have hp : ∀ p ∈ T.kids, ∀ t ∈ p.kids, t.txt.length ≤ 64 * t.weight := fun p hp t ht => by
   have := txt_len t (okNs_mem ((okN_eq p).1 (okNs_mem ho2.2 p hp)).2 t ht); omega
  have hd := T.depth_eq; obtain ⟨P, hP⟩ : ∃ P, 400 + 4 * (n + T.depth) = P := ⟨_, rfl⟩; have hy : ∀ t ∈ T.kids, (t.lin n).length ≤ P * depths T.kids * t.weight ∧ (t.lin (n + 1)).length ≤ P * depths T.kids * t.weight := fun t ht => by
   have hdt := depths_le ht; have hk := ih t ht (okNs_mem ho2.2 t ht); have e1 : (400 + 4 * (n + t.depth)) * t.depth ≤ P * depths T.kids := Nat.mul_le_mul lq17 hdt; have e2 : (400 + 4 * (n + 1 + t.depth)) * t.depth ≤ P * depths T.kids := Nat.mul_le_mul lq17 hdt; exact ⟨Nat.le_trans (hk n) (Nat.mul_le_mul_right _ e1), Nat.le_trans (hk (n + 1)) (Nat.mul_le_mul_right _ e2)⟩
  have hl := linOf_len T n (P * depths T.kids) ⟨hx, hy⟩ hp; have hw := T.weight_eq; rw [lin_eq, hP, hd]; have h1 : P * (depths T.kids + 1) * T.weight = P * depths T.kids * T.weight + P * T.weight := by rw [Nat.mul_add, Nat.mul_one, Nat.add_mul]
  have h2 : P * depths T.kids * weights T.kids ≤ P * depths T.kids * T.weight := Nat.mul_le_mul_left _ lq17; have h3 : P * T.weight = P + P * T.text.size + P * T.mag.length + P * weights T.kids := by rw [hw, Nat.mul_add, Nat.mul_add, Nat.mul_add, Nat.mul_one]
  have h4 : 400 * weights T.kids ≤ P * weights T.kids := Nat.mul_le_mul_right _ lq17; have h5 : 400 * T.text.size ≤ P * T.text.size := Nat.mul_le_mul_right _ lq17; rw [h1, h3]
  omega
end
section
open Go.RowKit
open List (length_append length_cons length_nil length_singleton)
theorem repeat_pad : ∀ n, Lib.repeatL [32] n = padL n
 | 0 => rfl
 | n + 1 => by
  have := repeat_pad n; simp only [Lib.repeatL, padL, List.replicate_succ] at this ⊢; rw [this]; rfl
theorem wHead_ok (B X dep : Nat) (l p : List UInt8) (L : List ByteArray) (n : Nat) (A : Option Addr) (w : World) (h : WrT B X dep l w) (hn : L.length = n) (hS : StrsW w X A L) (hp : (L.flatMap fun s => s.data.toList) = p) (hnm : n ≤ 1000) (hdep : dep ≤ 1000000) (hlen : l.length + dep + p.length ≤ 1000000000000) (hBw : B ≤ w.heap.size) :
  Calls Tryz.prog 155 #[.pointer (some ⟨X, 0, none⟩), .slice A n n] w fun e w' => e = .returned (.tuple #[]) ∧ WrT B X dep (l ++ (padL dep ++ p)) w' ∧ WK B X w w' := by
 have hpl : (padL dep).length = dep := by simp [padL]
 have HRep := Lh (Tryz.strings_Repeat ⟨#[32]⟩ dep w lq17 (by show 1 * dep ≤ _; omega))
 have c2 := Wr.cell2 h
 have hlX := WrT.lt h
 have hX := h.le
 have HP := Lh hp
 have HS := Lh hS
 have HN := Lh hn
 have HH := Lh h
 clear hp hS hn h
 go_enter Tryz.func155, Tryz.ntmps155
 go_wp2_with fail
 go_at_call 222
 refine HRep.out.mono ?_
 rintro e w1 ⟨rfl, hb1⟩
 have hw1 : WrT B X dep l w1 := HH.out.later hb1
 have hk1 : WK B X w w1 := WK.of_below hb1 hBw
 go_wp2_with fail
 have hWa := hw1.alloc (.cells #[.string { data := (Lib.repeatL [32] dep).toArray }] 9)
 have hKa := hk1.alloc (Nat.le_trans hBw hk1.b.size) (.cells #[.string { data := (Lib.repeatL [32] dep).toArray }] 9)
 go_at_call 159
 refine (wSayT_ok B X dep l (padL dep) [{ data := (Lib.repeatL [32] dep).toArray }] 1 _ _ hWa rfl (WrT.lt hw1) (heap_alloc_new _ _) (by simp [repeat_pad]) lq16 lq17 (Nat.le_trans hBw hKa.b.size)).mono ?_
 rintro e w2 ⟨rfl, hw2, hk2⟩
 have hK2 := hKa.trans hk2
 have hL2 := HS.out.kept hK2
 go_wp2_with fail
 go_at_call 159
 refine (wSay_ok B X dep _ L n n A w2 hw2 HN.out hL2 (Nat.le_refl _) lq13 (by rw [Lib.byteCells_length, totalS_flat, HP.out, length_append]; omega) (Nat.le_trans hBw hK2.b.size)).mono ?_
 rintro e w3 ⟨rfl, hw3, hk3⟩
 go_wp2_with fail
 go_end0
 refine ⟨rfl, ?_, hK2.trans hk3⟩
 have : Lib.byteCells (l ++ (padL dep ++ p)) = Lib.byteCells (l ++ padL dep) ++ L.flatMap Lib.strCells := by rw [strCells_flat, HP.out, ← byteCells_append, List.append_assoc]
 unfold WrT
 rw [this]
 exact hw3
def StW (T : Nd) : Prop := Sh.stmt.ev Nd.right T = true
def LOk (D : Nat) (w0 : World) (X : Nat) : Prop := ∀ dep, dep + D ≤ 1000000 → ∀ t, StW t → t.dep ≤ D → t.weight ≤ 1000000 → FSays 81 w0 X dep (fun t => t.lin dep) t
theorem blk_kids {T : Nd} (h : (Sh.of 2).ev Nd.right T = true) : ∀ t ∈ T.kids, StW t := by
 have hk : T.kind = 2 := by
  simp only [Sh.ev, Bool.and_eq_true, beq_iff_eq] at h; exact h.1
 rw [ev_of hk (tx := .non) (fm := .some 0 .stmt) rfl lq16] at h
 simp only [Fm.ev, Bool.and_eq_true] at h
 exact fun t ht => List.all_eq_true.1 h.2.2 t ht
theorem blk_lin {T : Nd} (h : T.kind = 2) (n : Nat) : T.lin n = (T.kids.map Nd.lin).flatMap (fun y => y n) := by rw [lin_eq, linOf, if_pos h]
theorem flat_lin_take {l : List Nd} {k : Nat} {t : Nd} (h : l[k]? = some t) (n : Nat) : ((l.take (k + 1)).map Nd.lin).flatMap (fun y => y n) = ((l.take k).map Nd.lin).flatMap (fun y => y n) ++ t.lin n := by
 obtain ⟨hk, rfl⟩ := List.getElem?_eq_some_iff.1 h
 rw [List.take_succ_eq_append_getElem hk, List.map_append, List.flatMap_append]
 simp
theorem flat_lin_le (l : List Nd) (k n : Nat) : (((l.take k).map Nd.lin).flatMap (fun y => y n)).length ≤ ((l.map Nd.lin).flatMap (fun y => y n)).length := by
 have : (l.map Nd.lin).flatMap (fun y => y n) = ((l.take k).map Nd.lin).flatMap (fun y => y n) ++ ((l.drop k).map Nd.lin).flatMap (fun y => y n) := by
  rw [← List.flatMap_append, ← List.map_append, List.take_append_drop]
 rw [this, length_append]
 omega
theorem wBlock_ok (D : Nat) (w0 : World) (X dep : Nat) (hdp : dep + D ≤ 1000000) (hL : LOk D w0 X) (T : Nd) (hT : (Sh.of 2).ev Nd.right T = true) (hD : T.dep ≤ D + 1) (hWt : T.weight ≤ 1000000) : FSays 43 w0 X dep (fun t => t.lin dep) T := by
 intro A c K d l0 w hN hBs hW hlen
 have hkd2 : T.kind = 2 := by simp only [Sh.ev, Bool.and_eq_true, beq_iff_eq] at hT; exact hT.1
 have hlin := blk_lin hkd2 dep
 have hlen : l0.length + (T.lin dep).length ≤ 1000000000000 := hlen
 rw [hlin] at hlen
 have HTX := Lh hlin
 have HLN := Lh hlen
 have HF := Lh (fun (t : Nd) (ht : t ∈ T.kids) => hL dep hdp t (blk_kids hT t ht) (wKM hD hWt t ht).1 (wKM hD hWt t ht).2)
 obtain ⟨hm1, hm2, hrm, hw32, hk1, hk2, hk64, ha64, hts', hKs⟩ := hN.parts
 have hk2' := hk2
 unfold maxLen at hm2 hk2 hts'
 obtain ⟨hk64a, hk64b⟩ := hk64
 obtain ⟨ha64a, ha64b⟩ := ha64
 have hB0 : w0.heap.size ≤ w.heap.size := hBs.size
 have hbX : X < w.heap.size := WrT.lt hW
 have hK0 : WK w0.heap.size X w (w.alloc (.cells #[.int .i64 T.kind, .int .i64 T.pos, .string T.text, .bool T.neg, .slice A T.mag.length c, .slice K T.kids.length d] 29)) := (WK.refl _ _ _).alloc hB0 _
 have hWb := hW.alloc (.cells #[.int .i64 T.kind, .int .i64 T.pos, .string T.text, .bool T.neg, .slice A T.mag.length c, .slice K T.kids.length d] 29)
 have hBb : Below w0.heap.size w0 (w.alloc (.cells #[.int .i64 T.kind, .int .i64 T.pos, .string T.text, .bool T.neg, .slice A T.mag.length c, .slice K T.kids.length d] 29)) := hBs.trans hK0.b
 have hbx := heap_alloc_new w (.cells #[.int .i64 T.kind, .int .i64 T.pos, .string T.text, .bool T.neg, .slice A T.mag.length c, .slice K T.kids.length d] 29)
 have hsg : (w.alloc (.cells #[.int .i64 T.kind, .int .i64 T.pos, .string T.text, .bool T.neg, .slice A T.mag.length c, .slice K T.kids.length d] 29)).heap.size = w.heap.size + 1 := by simp
 have HK := Lh hKs
 clear hKs hN hlen hL hT hD hWt hrm hw32 hkd2 hlin
 obtain ⟨c0, c1, c2, c3, c4, c5⟩ := (cells_box hbx).box
 have hlb := blt c0
 unfold ndV
 go_enter Tryz.func43, Tryz.ntmps43
 go_wp2_with fail
 go_loopw [9] (fun iv wr => ∃ k : Nat, iv = .int .i64 k ∧ k ≤ T.kids.length ∧ Hid (WrT w0.heap.size X dep (l0 ++ ((T.kids.take k).map Nd.lin).flatMap (fun y => y dep)) wr) ∧ Hid (WK w0.heap.size X w wr)) (fun iv _ => T.kids.length - (intOf iv).toNat)
 case atStart => exact ⟨0, rfl, Nat.zero_le _, Lh (hWb.eq lq18), Lh hK0⟩
 case round =>
  obtain ⟨k, rfl, hk, hR, hbr⟩ := hrel
  by_cases hkl : k < T.kids.length
  ·have o1 : decide ((k : Int) < (T.kids.length : Int)) = true := dTo; have o2 : decide (k < T.kids.length) = true := dTr hkl; obtain ⟨t, ht⟩ : ∃ t, T.kids[k]? = some t := ⟨_, List.getElem?_eq_getElem hkl⟩; obtain ⟨b, off, A', c', K', d', hKe, hC, hNt⟩ := HK.out.kid ht; rw [Nat.zero_add] at hC; subst hKe; have hbw : Below w0.heap.size w0 wr := hBs.trans hbr.out.b; obtain ⟨m0, m1, m2, m3, m4, m5⟩ := hC.later hbw; have hbn := blt m0; have hXw : X < wr.heap.size := hR.out.lt; have hst := flat_lin_take ht dep; have hle := flat_lin_le T.kids (k + 1) dep
   have hbt := (Below.refl wr.heap.size wr).alloc (Nat.le_refl _) (.cells #[.int .i64 t.kind, .int .i64 t.pos, .string t.text, .bool t.neg, .slice A' t.mag.length c', .slice K' t.kids.length d'] 29); have hkt : WK w0.heap.size X wr (wr.alloc (.cells #[.int .i64 t.kind, .int .i64 t.pos, .string t.text, .bool t.neg, .slice A' t.mag.length c', .slice K' t.kids.length d'] 29)) := (WK.refl _ _ _).alloc hbw.size _; have hRt := hR.out.alloc (.cells #[.int .i64 t.kind, .int .i64 t.pos, .string t.text, .bool t.neg, .slice A' t.mag.length c', .slice K' t.kids.length d'] 29)
   obtain ⟨z0, z1, z2, z3, z4, z5⟩ := (cells_box (heap_alloc_new wr (.cells #[.int .i64 t.kind, .int .i64 t.pos, .string t.text, .bool t.neg, .slice A' t.mag.length c', .slice K' t.kids.length d'] 29))).box; have hI := HF.out t (mog ht) A' c' K' d' _ _ hNt (hbw.trans (hbt.mono hbw.size)) hRt (by have h := HLN.out; rw [hst, length_append] at hle; show _ + (t.lin dep).length ≤ _; rw [length_append]; omega); unfold ndV at hI; have HST := Lh hst; have HKT := Lh hkt; clear hC hNt ht hst hle hbt hkt hRt hbw; go_wp2_with fail
   go_at_call 81
   refine hI.mono ?_
   rintro e w3 ⟨rfl, hw3, hk3⟩; clear hI; go_wp2_with fail
   go_roundw
   case rel => exact ⟨k + 1, by go_num, by omega, Lh (hw3.eq (by rw [HST.out, List.append_assoc])), Lh (hbr.out.trans (HKT.out.trans hk3))⟩
   case measure => simp [intOf]; omega
  ·have o1 : decide ((k : Int) < (T.kids.length : Int)) = false := dFo; have o2 : decide (k < T.kids.length) = false := dFa hkl; have hR2 := hR.out; rw [List.take_of_length_le lq17] at hR2; have HR2 := Lh hR2; clear hR2; go_wp2_with fail
   go_end0
   exact ⟨rfl, HR2.out.eq (by show _ = l0 ++ T.lin dep; rw [HTX.out]), hbr.out⟩
theorem padL_len (n : Nat) : (padL n).length = n := by simp [padL]
theorem row_len {l : List Nd} {L : List (Nd → Bool)} (h : rowB l L = true) : l.length = L.length := by
 rcases Nat.decEq l.length L.length with e | e
 ·rw [rowB_len e] at h; cases h
 ·exact e
def simpL (T : Nd) : List UInt8 :=
 if T.kind = 3 then (kdq T.kids 0).txt
 else if T.kind = 4 ∨ T.kind = 5 then (kdq T.kids 0).txt ++ [32, 61, 32] ++ (kdq T.kids 1).txt
 else if T.kind = 6 then (kdq T.kids 0).txt ++ [32] ++ tx T ++ [61, 32] ++ (kdq T.kids 1).txt
 else if T.kind = 7 then [100, 101, 108, 32] ++ (kdq T.kids 0).txt
 else if T.kind = 8 then [112, 97, 115, 115]
 else if T.kind = 9 then [98, 114, 101, 97, 107]
 else if T.kind = 10 then [99, 111, 110, 116, 105, 110, 117, 101]
 else if T.kind = 11 then [114, 101, 116, 117, 114, 110] ++ maybeL (kdq T.kids 0)
 else if T.kind = 12 then [114, 97, 105, 115, 101] ++ maybeL (kdq T.kids 0)
 else if T.kind = 13 then [103, 108, 111, 98, 97, 108, 32] ++ sepL com (T.kids.map Nd.txt)
 else [110, 111, 110, 108, 111, 99, 97, 108, 32] ++ sepL com (T.kids.map Nd.txt)
theorem lin_simp {T : Nd} (h : 3 ≤ T.kind ∧ T.kind ≤ 14) (n : Nat) : T.lin n = padL n ++ simpL T ++ [10] := by
 have : T.kind = 3 ∨ T.kind = 4 ∨ T.kind = 5 ∨ T.kind = 6 ∨ T.kind = 7 ∨ T.kind = 8 ∨ T.kind = 9 ∨ T.kind = 10 ∨ T.kind = 11 ∨ T.kind = 12 ∨ T.kind = 13 ∨ T.kind = 14 := by omega
 rw [lin_eq]
 rcases this with h | h | h | h | h | h | h | h | h | h | h | h <;> simp [linOf, simpL, h]
end
end Go.Proofs.YtjndbcnmmnkilaaGreatDoor
