/- Joined by a program: LiP. -/
import Derived.Test.YtjefhdlncikhmaaGreatDoorPT09
namespace Go.Proofs.YtjefhdlncikhmaaGreatDoor
set_option linter.unusedVariables false
set_option linter.unusedSimpArgs false
set_option maxRecDepth 1000000
set_option maxHeartbeats 16000000
section
open List (length_append length_cons length_nil length_singleton)
def padL (n : Nat) : List UInt8 := List.replicate n 32
def maybeL (q : Nd) : List UInt8 := if q.kind = 0 then [] else [32] ++ q.txt
def parL (p : Nd) : List UInt8 := match p.kids with
 | [] => [42, 42] ++ tx p
 | q :: _ => if q.kind = 0 then tx p else tx p ++ [61] ++ q.txt
def kd (ks : List Nd) (i : Nat) : Nd := ks.getD i (.mk 0 0 ⟨#[]⟩ false [] [])
def gy (Y : List (Nat → List UInt8)) (i n : Nat) : List UInt8 := (Y.getD i (fun _ => [])) n
def linOf (T : Nd) (ks : List Nd) (Y : List (Nat → List UInt8)) (n : Nat) : List UInt8 :=
 if T.kind = 2 then Y.flatMap (fun y => y n)
 else if T.kind = 22 then padL n ++ [101, 120, 99, 101, 112, 116] ++ maybeL (kd ks 0) ++ (if T.text.size = 0 then [] else [32, 97, 115, 32] ++ tx T) ++ [58, 10] ++ gy Y 1 (n + 1)
 else if T.kind = 3 then padL n ++ (kd ks 0).txt ++ [10]
 else if T.kind = 4 ∨ T.kind = 5 then padL n ++ (kd ks 0).txt ++ [32, 61, 32] ++ (kd ks 1).txt ++ [10]
 else if T.kind = 6 then padL n ++ (kd ks 0).txt ++ [32] ++ tx T ++ [61, 32] ++ (kd ks 1).txt ++ [10]
 else if T.kind = 7 then padL n ++ [100, 101, 108, 32] ++ (kd ks 0).txt ++ [10]
 else if T.kind = 8 then padL n ++ [112, 97, 115, 115, 10]
 else if T.kind = 9 then padL n ++ [98, 114, 101, 97, 107, 10]
 else if T.kind = 10 then padL n ++ [99, 111, 110, 116, 105, 110, 117, 101, 10]
 else if T.kind = 11 then padL n ++ [114, 101, 116, 117, 114, 110] ++ maybeL (kd ks 0) ++ [10]
 else if T.kind = 12 then padL n ++ [114, 97, 105, 115, 101] ++ maybeL (kd ks 0) ++ [10]
 else if T.kind = 13 then padL n ++ [103, 108, 111, 98, 97, 108, 32] ++ sepL com (ks.map Nd.txt) ++ [10]
 else if T.kind = 14 then padL n ++ [110, 111, 110, 108, 111, 99, 97, 108, 32] ++ sepL com (ks.map Nd.txt) ++ [10]
 else if T.kind = 15 then padL n ++ [105, 102, 32] ++ (kd ks 0).txt ++ [58, 10] ++ gy Y 1 (n + 1) ++ (if (kd ks 2).kind = 0 then [] else padL n ++ [101, 108, 115, 101, 58, 10] ++ gy Y 2 (n + 1))
 else if T.kind = 16 then padL n ++ [119, 104, 105, 108, 101, 32] ++ (kd ks 0).txt ++ [58, 10] ++ gy Y 1 (n + 1)
 else if T.kind = 17 then padL n ++ [102, 111, 114, 32] ++ (kd ks 0).txt ++ [32, 105, 110, 32] ++ (kd ks 1).txt ++ [58, 10] ++ gy Y 2 (n + 1)
 else if T.kind = 18 then padL n ++ [100, 101, 102, 32] ++ tx T ++ [40] ++ sepL com (ks.dropLast.map parL) ++ [41, 58, 10] ++ gy Y (ks.length - 1) (n + 1)
 else if T.kind = 20 then padL n ++ [99, 108, 97, 115, 115, 32] ++ tx T ++ (if (kd ks 0).kind = 0 then [] else [40] ++ (kd ks 0).txt ++ [41]) ++ [58, 10] ++ gy Y 1 (n + 1)
 else if T.kind = 21 then padL n ++ [116, 114, 121, 58, 10] ++ gy Y 0 (n + 1) ++ (Y.drop 1).flatMap (fun y => y n)
 else []
mutual
def Nd.lin : Nd → Nat → List UInt8
 | .mk k a t b m ks => linOf (.mk k a t b m ks) ks (lins ks)
def lins : List Nd → List (Nat → List UInt8)
 | [] => []
 | t :: r => t.lin :: lins r
end
theorem lins_map : ∀ l : List Nd, lins l = l.map Nd.lin
 | [] => rfl
 | t :: r => by rw [lins, lins_map r, List.map_cons]
theorem lin_eq (T : Nd) (n : Nat) : T.lin n = linOf T T.kids (T.kids.map Nd.lin) n := by
 cases T; rw [Nd.lin, lins_map]; rfl
def printL (T : Nd) : List UInt8 := (kd T.kids 0).lin 0
structure LB (n M : Nat) (ks : List Nd) : Prop where
 x : ∀ t ∈ ks, t.txt.length ≤ 64 * t.weight
 y : ∀ t ∈ ks, (t.lin n).length ≤ M * t.weight ∧ (t.lin (n + 1)).length ≤ M * t.weight
theorem kd_mem {ks : List Nd} {i : Nat} (h : i < ks.length) : kd ks i ∈ ks := by
 unfold kd
 rw [List.getD, List.getElem?_eq_getElem h]
 exact List.getElem_mem h
theorem kd_txt {ks : List Nd} (h : ∀ t ∈ ks, t.txt.length ≤ 64 * t.weight) (i : Nat) : (kd ks i).txt.length ≤ 64 * weights ks := by
 by_cases hi : i < ks.length
 ·have h1 := h _ (kd_mem hi); have h2 := weights_le (kd_mem hi)
  omega
 ·unfold kd; rw [List.getD, List.getElem?_eq_none lq29]; have : ((Nd.mk 0 0 ⟨#[]⟩ false [] []).txt).length = 0 := rfl
  show ((Nd.mk 0 0 ⟨#[]⟩ false [] []).txt).length ≤ _
  omega
theorem gy_len {n M : Nat} {ks : List Nd} (h : LB n M ks) (i : Nat) : (gy (ks.map Nd.lin) i (n + 1)).length ≤ M * weights ks := by
 unfold gy
 by_cases hi : i < ks.length
 ·have hm : ks[i] ∈ ks := List.getElem_mem hi; have h1 := (h.y _ hm).2; have h2 := weights_le hm; have h3 := Nat.mul_le_mul_left M h2; simp only [List.getD, List.getElem?_map, List.getElem?_eq_getElem hi, Option.map_some, Option.getD_some]
  omega
 ·simp only [List.getD, List.getElem?_map, List.getElem?_eq_none (Nat.le_of_not_lt hi), Option.map_none, Option.getD_none, length_nil]
  omega
theorem flat_len' {n M : Nat} : ∀ (ks : List Nd), (∀ t ∈ ks, (t.lin n).length ≤ M * t.weight) → ((ks.map Nd.lin).flatMap (fun y => y n)).length ≤ M * weights ks
 | [], _ => by simp
 | t :: r, h => by
  have h1 := h t (List.mem_cons_self ..); have h2 := flat_len' r (fun t ht => h t (List.mem_cons_of_mem _ ht)); rw [List.map_cons, List.flatMap_cons, length_append, weights, Nat.mul_add]
  omega
theorem gy_12 {n M : Nat} {ks : List Nd} (h : LB n M ks) : (gy (ks.map Nd.lin) 1 (n + 1)).length + (gy (ks.map Nd.lin) 2 (n + 1)).length ≤ M * weights ks := by
 match ks, h with
 | [], _ => simp [gy]
 | [a], _ => simp [gy]
 | [a, b], h =>
  have h1 := (h.y b lq30).2; simp only [gy, List.map_cons, List.map_nil, List.getD_cons_succ, List.getD_cons_zero, List.getD_nil, length_nil, weights, Nat.mul_add]
  omega
 | a :: b :: c :: r, h =>
  have h1 := (h.y b lq30).2; have h2 := (h.y c lq30).2; simp only [gy, List.map_cons, List.getD_cons_succ, List.getD_cons_zero, weights, Nat.mul_add]
  omega
theorem gy_0d {n M : Nat} {ks : List Nd} (h : LB n M ks) : (gy (ks.map Nd.lin) 0 (n + 1)).length + (((ks.map Nd.lin).drop 1).flatMap (fun y => y n)).length ≤ M * weights ks := by
 match ks, h with
 | [], _ => simp [gy]
 | a :: r, h =>
  have h1 := (h.y a lq30).2; have h2 := flat_len' (n := n) (M := M) r (fun t ht => (h.y t (List.mem_cons_of_mem _ ht)).1); simp only [gy, List.map_cons, List.getD_cons_zero, List.drop_succ_cons, List.drop_zero, weights, Nat.mul_add]
  omega
theorem weights_drop (ks : List Nd) (k : Nat) : weights (ks.drop k) ≤ weights ks := by
 induction ks generalizing k with
 | nil => simp
 | cons a r ih =>
  cases k with
  | zero => simp
  | succ k => rw [List.drop_succ_cons, weights]; have := ih k; omega
theorem maybe_len {ks : List Nd} (h : ∀ t ∈ ks, t.txt.length ≤ 64 * t.weight) (i : Nat) : (maybeL (kd ks i)).length ≤ 64 * weights ks + 1 := by
 have := kd_txt h i
 unfold maybeL
 split
 ·simp
 ·rw [length_append, length_singleton]; omega
theorem par_len {p : Nd} (h : ∀ t ∈ p.kids, t.txt.length ≤ 64 * t.weight) : (parL p).length ≤ 64 * p.weight := by
 have ht : (tx p).length = p.text.size := by simp [tx]
 have hw := p.weight_eq
 unfold parL
 cases hks : p.kids with
 | nil => rw [length_append]; simp; omega
 | cons q r =>
  have h1 := h q (by rw [hks]; simp); have h2 : q.weight ≤ weights p.kids := weights_le (by rw [hks]; simp)
  dsimp only
  split
  ·omega
  ·simp only [length_append, length_singleton]; omega
theorem total_any {f : Nd → List UInt8} : ∀ (l : List Nd), (∀ t ∈ l, (f t).length ≤ 64 * t.weight) → total (l.map f) ≤ 64 * weights l
 | [], _ => by simp [total]
 | t :: r, h => by
  have h1 := h t (List.mem_cons_self ..); have h2 := total_any r (fun t ht => h t (List.mem_cons_of_mem _ ht)); rw [List.map_cons, total, weights]
  omega
theorem linOf_len (T : Nd) (n M : Nat) (h : LB n M T.kids) (hp : ∀ p ∈ T.kids, ∀ t ∈ p.kids, t.txt.length ≤ 64 * t.weight) : (linOf T T.kids (T.kids.map Nd.lin) n).length ≤ M * weights T.kids + 200 * weights T.kids + 2 * n + 6 * T.text.size + 60 := by
 have ht : (tx T).length = T.text.size := by simp [tx]
 have h0 := kd_txt h.x 0
 have h1 := kd_txt h.x 1
 have m0 := maybe_len h.x 0
 have y12 := gy_12 h
 have y0d := gy_0d h
 have y0 := gy_len h 0
 have y1 := gy_len h 1
 have y2 := gy_len h 2
 have yl := gy_len h (T.kids.length - 1)
 have hpad : (padL n).length = n := by simp [padL]
 have hf := flat_len' (n := n) (M := M) T.kids (fun t ht => (h.y t ht).1)
 have hd := flat_len' (n := n) (M := M) (T.kids.drop 1) (fun t ht => (h.y t (List.mem_of_mem_drop ht)).1)
 have hdw := Nat.mul_le_mul_left M (weights_drop T.kids 1)
 rw [List.map_drop] at hd
 have hs := sep_total com (T.kids.map Nd.txt)
 have hst := total_any T.kids h.x
 have hp1 : ∀ t ∈ T.kids.dropLast, (parL t).length ≤ 64 * t.weight := fun t ht => par_len (hp t (List.dropLast_subset _ ht))
 have hps := sep_total com (T.kids.dropLast.map parL)
 have hpt := total_any T.kids.dropLast hp1
 have hlw := weights_len T.kids
 have hdl : weights T.kids.dropLast ≤ weights T.kids := by rw [List.dropLast_eq_take]; exact weights_take_le _ _
 have hdn : T.kids.dropLast.length ≤ T.kids.length := by simp
 rw [List.length_map] at hs hps
 have hc : com.length = 2 := rfl
 rw [hc] at hs hps
 unfold linOf
 by_cases c0 : T.kind = 2
 ·rw [if_pos c0]; (try simp only [length_append, length_cons, length_nil, hpad]); omega
 rw [if_neg c0]
 by_cases c1 : T.kind = 22
 ·rw [if_pos c1]
  by_cases c : T.text.size = 0
  ·rw [if_pos c]; (try simp only [length_append, length_cons, length_nil, hpad]); omega
  ·rw [if_neg c]; (try simp only [length_append, length_cons, length_nil, hpad]); omega
 rw [if_neg c1]
 by_cases c2 : T.kind = 3
 ·rw [if_pos c2]; (try simp only [length_append, length_cons, length_nil, hpad]); omega
 rw [if_neg c2]
 by_cases c3 : T.kind = 4 ∨ T.kind = 5
 ·rw [if_pos c3]; (try simp only [length_append, length_cons, length_nil, hpad]); omega
 rw [if_neg c3]
 by_cases c4 : T.kind = 6
 ·rw [if_pos c4]; (try simp only [length_append, length_cons, length_nil, hpad]); omega
 rw [if_neg c4]
 by_cases c5 : T.kind = 7
 ·rw [if_pos c5]; (try simp only [length_append, length_cons, length_nil, hpad]); omega
 rw [if_neg c5]
 by_cases c6 : T.kind = 8
 ·rw [if_pos c6]; (try simp only [length_append, length_cons, length_nil, hpad]); omega
 rw [if_neg c6]
 by_cases c7 : T.kind = 9
 ·rw [if_pos c7]; (try simp only [length_append, length_cons, length_nil, hpad]); omega
 rw [if_neg c7]
 by_cases c8 : T.kind = 10
 ·rw [if_pos c8]; (try simp only [length_append, length_cons, length_nil, hpad]); omega
 rw [if_neg c8]
 by_cases c9 : T.kind = 11
 ·rw [if_pos c9]; (try simp only [length_append, length_cons, length_nil, hpad]); omega
 rw [if_neg c9]
 by_cases c10 : T.kind = 12
 ·rw [if_pos c10]; (try simp only [length_append, length_cons, length_nil, hpad]); omega
 rw [if_neg c10]
 by_cases c11 : T.kind = 13
 ·rw [if_pos c11]; (try simp only [length_append, length_cons, length_nil, hpad]); omega
 rw [if_neg c11]
 by_cases c12 : T.kind = 14
 ·rw [if_pos c12]; (try simp only [length_append, length_cons, length_nil, hpad]); omega
 rw [if_neg c12]
 by_cases c13 : T.kind = 15
 ·rw [if_pos c13]
  by_cases c : (kd T.kids 2).kind = 0
  ·rw [if_pos c]; (try simp only [length_append, length_cons, length_nil, hpad]); omega
  ·rw [if_neg c]; (try simp only [length_append, length_cons, length_nil, hpad]); omega
 rw [if_neg c13]
 by_cases c14 : T.kind = 16
 ·rw [if_pos c14]; (try simp only [length_append, length_cons, length_nil, hpad]); omega
 rw [if_neg c14]
 by_cases c15 : T.kind = 17
 ·rw [if_pos c15]; (try simp only [length_append, length_cons, length_nil, hpad]); omega
 rw [if_neg c15]
 by_cases c16 : T.kind = 18
 ·rw [if_pos c16]; (try simp only [length_append, length_cons, length_nil, hpad]); omega
 rw [if_neg c16]
 by_cases c17 : T.kind = 20
 ·rw [if_pos c17]
  by_cases c : (kd T.kids 0).kind = 0
  ·rw [if_pos c]; (try simp only [length_append, length_cons, length_nil, hpad]); omega
  ·rw [if_neg c]; (try simp only [length_append, length_cons, length_nil, hpad]); omega
 rw [if_neg c17]
 by_cases c18 : T.kind = 21
 ·rw [if_pos c18]; (try simp only [length_append, length_cons, length_nil, hpad]); omega
 rw [if_neg c18]
 simp
theorem lin_len (T : Nd) : okN T → ∀ n, (T.lin n).length ≤ (400 + 4 * (n + T.depth)) * T.depth * T.weight := by
 induction T using Nd.ind with
 | h T ih =>
  intro ho n; have ho2 := (okN_eq T).1 ho; have hx : ∀ t ∈ T.kids, t.txt.length ≤ 64 * t.weight := fun t ht => by have := txt_len t (okNs_mem ho2.2 t ht); omega
  have hp : ∀ p ∈ T.kids, ∀ t ∈ p.kids, t.txt.length ≤ 64 * t.weight := fun p hp t ht => by
   have := txt_len t (okNs_mem ((okN_eq p).1 (okNs_mem ho2.2 p hp)).2 t ht); omega
  have hd := T.depth_eq; obtain ⟨P, hP⟩ : ∃ P, 400 + 4 * (n + T.depth) = P := ⟨_, rfl⟩; have hy : ∀ t ∈ T.kids, (t.lin n).length ≤ P * depths T.kids * t.weight ∧ (t.lin (n + 1)).length ≤ P * depths T.kids * t.weight := fun t ht => by
   have hdt := depths_le ht; have hk := ih t ht (okNs_mem ho2.2 t ht); have e1 : (400 + 4 * (n + t.depth)) * t.depth ≤ P * depths T.kids := Nat.mul_le_mul lq29 hdt; have e2 : (400 + 4 * (n + 1 + t.depth)) * t.depth ≤ P * depths T.kids := Nat.mul_le_mul lq29 hdt; exact ⟨Nat.le_trans (hk n) (Nat.mul_le_mul_right _ e1), Nat.le_trans (hk (n + 1)) (Nat.mul_le_mul_right _ e2)⟩
  have hl := linOf_len T n (P * depths T.kids) ⟨hx, hy⟩ hp; have hw := T.weight_eq; rw [lin_eq, hP, hd]; have h1 : P * (depths T.kids + 1) * T.weight = P * depths T.kids * T.weight + P * T.weight := by rw [Nat.mul_add, Nat.mul_one, Nat.add_mul]
  have h2 : P * depths T.kids * weights T.kids ≤ P * depths T.kids * T.weight := Nat.mul_le_mul_left _ lq29; have h3 : P * T.weight = P + P * T.text.size + P * T.mag.length + P * weights T.kids := by rw [hw, Nat.mul_add, Nat.mul_add, Nat.mul_add, Nat.mul_one]
  have h4 : 400 * weights T.kids ≤ P * weights T.kids := Nat.mul_le_mul_right _ lq29; have h5 : 400 * T.text.size ≤ P * T.text.size := Nat.mul_le_mul_right _ lq29; rw [h1, h3]
  omega
end
end Go.Proofs.YtjefhdlncikhmaaGreatDoor
