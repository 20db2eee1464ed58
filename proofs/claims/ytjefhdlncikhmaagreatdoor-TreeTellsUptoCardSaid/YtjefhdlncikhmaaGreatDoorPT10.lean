/- Joined by a program: Backward, T0, Wr2. -/
import Derived.Test.YtjefhdlncikhmaaGreatDoorPT07
import Derived.Test.YtjefhdlncikhmaaGreatDoorPT09
namespace Go.Proofs.YtjefhdlncikhmaaGreatDoor
set_option linter.unusedVariables false
set_option linter.unusedSimpArgs false
set_option maxRecDepth 1000000
set_option maxHeartbeats 16000000
section
open Go.RowKit Go.Shelf
open List (length_append length_cons length_nil length_singleton)
attribute [local go_sem] Oper.semAt_some
abbrev U32 := { z : Int // 0 ≤ z ∧ z ≤ 4294967295 }
abbrev u32at (zs : List U32) (i : Nat) : U32 := zs[i]?.getD ⟨0, by omega, by omega⟩
def vals (zs : List U32) : List Int := zs.map (·.1)
theorem vals_length (zs : List U32) : (vals zs).length = zs.length := by simp [vals]
theorem vals_get (zs : List U32) (i : Nat) (h : i < zs.length) : (vals zs)[i]? = some (u32at zs i).1 := by
 simp [vals, u32at, List.getElem?_eq_getElem h]
def upto {α : Type} (f : Nat → α) (k : Nat) : List α := (List.range k).map f
theorem upto_succ {α : Type} (f : Nat → α) (k : Nat) : upto f (k + 1) = upto f k ++ [f k] := by simp [upto, List.range_succ]
theorem upto_length {α : Type} (f : Nat → α) (k : Nat) : (upto f k).length = k := by simp [upto]
def backAt (zs : List U32) (j : Nat) : Nat × U32 := (zs.length - 1 - j, u32at zs (zs.length - 1 - j))
structure KpB (n₀ Bs : Nat) (W W' : World) : Prop where
 below : Below n₀ W W'
 box : ∀ v, W.cell? ⟨Bs, 0, none⟩ = some v → W'.cell? ⟨Bs, 0, none⟩ = some v
theorem kpB_t {n₀ Bs : Nat} {A B C : World} (h : KpB n₀ Bs A B) (k : KpB n₀ Bs B C) : KpB n₀ Bs A C := ⟨h.below.trans k.below, fun v hv => k.box v (h.box v hv)⟩
theorem kpB_b {n₀ Bs : Nat} {w : World} (hn : n₀ ≤ w.heap.size) (W : World) (l : Nat) (o o' : Obj) (hl : w.heap.size ≤ l) (h : W.heap[l]? = some o) (ho : o.isCells = false) (hw : o.isWalk = false) : KpB n₀ Bs W (W.putObj l o') :=
 ⟨belowK_b hn W l o o' hl h ho hw, fun v hv => cell_kept hv (grownBy_putObj' W l o') (fun r e => by cases e; exact ⟨o, h, ho⟩)⟩
set_option maxRecDepth 100000 in
theorem backward1_in (n : Nat) (hn : 1 ≤ n) (l Bs n₀ : Nat) (A : Option Addr) (cap : Nat) (zs : List U32) (hreach : zs.length ≤ 9223372036854775807) (J Jx : List (Nat × U32) → World → Prop)
  (W : World) (hI : ∀ W', Below n₀ W W' → RdI W' .u32 A (vals zs)) (hBs : W.cell? ⟨Bs, 0, none⟩ = some (.slice A zs.length cap)) (h0 : J [] W)
  (hY : ∀ pre x W, J pre W → pre.length < zs.length → YieldAt Fence.wide (n - 1) Tryz.prog l #[.int .i64 (x.1 : Int), .int .u32 x.2.1] W fun e W' =>
   (e = .returned (.bool true) ∧ J (pre ++ [x]) W' ∧ KpB n₀ Bs W W') ∨ (e = .returned (.bool false) ∧ Jx (pre ++ [x]) W')) :
  CallsIn Fence.wide n Tryz.prog 211 #[.func (.yield l) #[] #[], .pointer (some ⟨Bs, 0, none⟩)] W fun e W' => (∃ v, e = .returned v) ∧
   ((∃ ys, ys = upto (backAt zs) zs.length ∧ J ys W') ∨ (∃ pre, (∃ k, k ≤ zs.length ∧ pre = upto (backAt zs) k) ∧ Jx pre W')) := by
 refine callsIn_of_wp Tryz.func211 rfl trivial ?_ rfl
 simp only [Tryz.ntmps211, List.size_toArray, length_cons, length_nil, Nat.reduceAdd, Nat.reduceSub, Array.replicate_succ, Array.replicate_zero, List.push_toArray, List.append_toArray, List.nil_append, List.cons_append]
 gi_wp2
 gi_loopw [3] (fun i wr => ∃ k : Nat, k ≤ zs.length ∧ i = .int .i64 ((zs.length : Int) - 1 - k) ∧ J (upto (backAt zs) k) wr ∧ KpB n₀ Bs W wr)
  (fun i _ => (intOf i + 1).toNat)
 case atStart => exact ⟨0, Nat.zero_le _, by simp, h0, ⟨Below.refl _ _, fun _ h => h⟩⟩
 case round =>
  obtain ⟨k, hk, rfl, hJs, hnx⟩ := hrel; have hBs' : wr.cell? ⟨Bs, 0, none⟩ = some (.slice A zs.length cap) := hnx.box _ hBs
  by_cases hlt : k < zs.length
  ·obtain ⟨b, off, z, rfl, hz, hc⟩ := hI wr hnx.below (zs.length - 1 - k) (by rw [vals_length]; omega); rw [vals_get _ _ lq29] at hz; injection hz with hz
   subst hz; obtain ⟨m, hm⟩ : ∃ m, m = zs.length - 1 - k := ⟨_, rfl⟩; rw [← hm] at hc; have e : (zs.length : Int) - 1 - k = (m : Int) := by omega
   obtain ⟨fn, tmps, assign, body, hy, hR⟩ := hY _ (m, u32at zs m) wr hJs (by rw [upto_length]; exact hlt)
   dsimp only at hy
   rw [e]; have hm' : m < zs.length := by omega
   have HM := Lh hm; clear hm e
   gi_wp2
   refine hR.mono ?_
   rintro e W3 (⟨rfl, hJ3, hk3⟩ | ⟨rfl, hJx3⟩)
   ·gi_wp2
    go_roundw
    case rel => exact ⟨k + 1, by omega, by have := HM.out; congr 1; omega, by rw [upto_succ, backAt, ← HM.out]; exact hJ3, kpB_t hnx hk3⟩
    case measure => simp [intOf]
   ·gi_wp2
    refine bodyPost_ret (results_none rfl _ _ _) rfl ?_
    exact ⟨⟨_, rfl⟩, .inr ⟨_, ⟨k + 1, by omega, by rw [upto_succ, backAt, ← HM.out]⟩, hJx3⟩⟩
  ·obtain rfl : k = zs.length := by omega
   gi_wp2
   go_end0
   exact ⟨⟨_, rfl⟩, .inl ⟨_, rfl, hJs⟩⟩
theorem backward_any (A : Option Addr) (len cap : Nat) (w : World) :
  Calls Tryz.prog 187 #[.slice A len cap] w fun e w' => e = .returned (.func (.func 211) #[] #[.pointer (some ⟨w.heap.size, 0, none⟩)]) ∧ w' = w.alloc (.cells #[.slice A len cap] 22) := by
 go_enter Tryz.func187, Tryz.ntmps187
 go_wp2
 go_ret
 exact ⟨rfl, rfl⟩
theorem backward_stops (n : Nat) (hn : 1 ≤ n) (Bs n₀ : Nat) (A : Option Addr) (cap : Nat) (zs : List U32) (hreach : zs.length ≤ 9223372036854775807) (w : World) (hn₀ : n₀ ≤ w.heap.size)
  (hc : w.cell? ⟨Bs, 0, none⟩ = some (.slice A zs.length cap)) (hI : ∀ W', Below n₀ w W' → RdI W' .u32 A (vals zs)) :
  SeqStopsK Fence.wide n Tryz.prog 211 #[.pointer (some ⟨Bs, 0, none⟩)] (fun x : Nat × U32 => #[Value.int .i64 (x.1 : Int), Value.int .u32 x.2.1]) (KpB n₀ Bs) (fun ys => ys = upto (backAt zs) zs.length)
   (fun pre => ∃ k, k ≤ zs.length ∧ pre = upto (backAt zs) k) zs.length w := fun l J Jx W hW _ _ hY h0 =>
 backward1_in n hn l Bs n₀ A cap zs hreach J Jx W (fun W' hb => hI W' ((hW.mono hn₀).trans hb)) (cLt hW hc) h0 hY
end
section
open Go.RowKit Go.Shelf
open List (length_append length_cons length_nil length_singleton)
theorem heap_laterW {w w' : World} (hb : Below w.heap.size w w') {k : Nat} {o : Obj} (h : w.heap[k]? = some o) : w'.heap[k]? = some o :=
 (hb.block k (Array.getElem?_eq_some_iff.1 h).1).trans h
section
variable {T e : TypeId} {B b : Nat}
include T e B b
theorem bAt_laterW {p : Value} {bs : List Value} {w w' : World} (h : Lib.BuilderAtF T e B b p bs w) (hb : Below w.heap.size w w') : Lib.BuilderAtF T e B b p bs w' := by
 obtain ⟨hB, v, hbk, hown, hne⟩ := h
 refine ⟨hB, v, heap_laterW hb hbk, ⟨hown.1, ?_⟩, hne⟩
 rcases hown.2 with hn | ⟨g, cap, cur, fz, hv, hbg, hg, rest⟩
 ·exact .inl hn
 ·exact .inr ⟨g, cap, cur, fz, hv, hbg, heap_laterW hb hg, rest⟩
theorem isB_later {bs : List Value} {w w' : World} (h : Lib.IsBuilderF T e B b bs w) (hb : Below w.heap.size w w') : Lib.IsBuilderF T e B b bs w' :=
 h.elim (fun x => .inl (bAt_laterW x hb)) (fun x => .inr (bAt_laterW x hb))
theorem bAt_own {p : Value} {bs : List Value} {w w' : World} {row : Option Nat} (h : Lib.BuilderAtF T e B b p bs w) (hg : w.grownBy w' row) (hr : ∀ r, row = some r → ∃ o : Obj, w.heap[r]? = some o ∧ o.isCells = false) : Lib.BuilderAtF T e B b p bs w' := by
 obtain ⟨hB, v, hbk, hown, hne⟩ := h
 have hlt : b < w.heap.size := (Array.getElem?_eq_some_iff.1 hbk).1
 refine ⟨hB, v, (hg.block b hlt (fun e => ?_)).trans hbk, hown.kept hg ?_, hne⟩
 ·obtain ⟨o, ho, hc⟩ := hr b e.symm; rw [hbk] at ho; injection ho with ho
  subst ho
  cases hc
 ·rcases hv : v.ownBlock with _ | k
  ·exact .inl rfl
  ·refine .inr fun e => ?_
   obtain ⟨c, fz, hk⟩ := Lib.ownsRowF_kind hown k hv; obtain ⟨o, ho, hc⟩ := hr k e.symm; rw [hk] at ho; injection ho with ho
   subst ho
   cases hc
theorem isB_own {bs : List Value} {w w' : World} {row : Option Nat} (h : Lib.IsBuilderF T e B b bs w) (hg : w.grownBy w' row) (hr : ∀ r, row = some r → ∃ o : Obj, w.heap[r]? = some o ∧ o.isCells = false) : Lib.IsBuilderF T e B b bs w' :=
 h.elim (fun x => .inl (bAt_own x hg hr)) (fun x => .inr (bAt_own x hg hr))
end
theorem heap_own {k : Nat} {cs : Array Value} {t : TypeId} {fz : Nat × Nat} {w w' : World} {row : Option Nat} (h : w.heap[k]? = some (.cells cs t fz)) (hg : w.grownBy w' row) (hr : ∀ r, row = some r → ∃ o : Obj, w.heap[r]? = some o ∧ o.isCells = false) : w'.heap[k]? = some (.cells cs t fz) := by
 refine (hg.block k (Array.getElem?_eq_some_iff.1 h).1 (fun e => ?_)).trans h
 obtain ⟨o, ho, hc⟩ := hr k e.symm
 rw [h] at ho
 injection ho with ho
 subst ho
 cases hc
theorem own_later {B : Nat} {e : TypeId} {k : Nat} {v : Value} {n : Nat} {xs : List Value} {w w' : World} (h : w.ownsRow B e k v n xs) (hb : Below w.heap.size w w') : w'.ownsRow B e k v n xs :=
 h.kept (row := none) ⟨hb.os, hb.tape, hb.output, hb.size, fun j hj _ => hb.block j hj⟩ (by cases hv : v.ownBlock <;> simp)
theorem set_mid (l : List Int) (i : Nat) (q : Int) (qs : List Int) (h : i < l.length) : (l.take (i + 1) ++ qs).set i q = l.take i ++ (q :: qs) := by
 have hl : (l.take i).length = i := by rw [List.length_take]; omega
 rw [List.take_succ_eq_append_getElem h, List.append_assoc, List.set_append_right _ _ lq29, hl, Nat.sub_self]
 rfl
theorem clone_own (A : Option Addr) (c : Nat) (zs : List Int) (w : World) (hr : RdI w .u32 A zs) (hm : zs.length ≤ 1000000) (h0 : 0 < zs.length) :
  Calls Tryz.prog 59 #[.slice A zs.length c] w fun e w' => ∃ g c', e = .returned (.slice (some ⟨g, 0, none⟩) zs.length c') ∧ zs.length ≤ c' ∧ c' ≤ 9223372036854775807 ∧ w'.ownsRow w.heap.size 61 1 (.slice (some ⟨g, 0, none⟩) zs.length c') zs.length (zs.map (Value.int .u32)) ∧ Below w.heap.size w w' := by
 obtain ⟨i0, hi0, hz0, hz1, hz2⟩ := info_parts u32_info
 obtain ⟨b, off, z, hA, _, _⟩ := hr 0 h0
 subst hA
 refine (Tryz.slices_Clone i0 _ 1 4 hi0 hz0 hz1 hz2 rfl lq28 Tryz.sizeOf61 b off zs.length c (zs.map (Value.int .u32)) w lq30 lq24 lq29 ?_ (by simp [Value.oneCell'])).mono ?_
 ·intro j u hu; rw [List.getElem?_map] at hu
  by_cases hj : j < zs.length
  ·obtain ⟨b2, o2, z2, hA2, hz2, hcell⟩ := hr j hj; injection hA2 with hA2
   injection hA2 with e1 e2 _
   subst e1 e2; rw [hz2] at hu; simp only [Option.map_some, Option.some.injEq] at hu; rw [← hu]; exact hcell
  ·rw [List.getElem?_eq_none lq29] at hu; simp at hu
 ·rintro e w' ⟨v', rfl, hown, _, hb⟩; obtain ⟨A', c', rfl, h1, h2, _⟩ := own_form hown; have hA' : ∃ g, A' = some ⟨g, 0, none⟩ := by
   rcases hown.2 with ⟨hv, hn⟩ | ⟨g, cap, cur, hv, _⟩
   ·omega
   ·injection hv with hv _ _
    exact ⟨g, hv⟩
  obtain ⟨g, rfl⟩ := hA'; exact ⟨g, c', rfl, h1, h2, hown, hb⟩
theorem rd_of_own {w : World} {base : Nat} {g n c : Nat} {xs ys : List Int} (h : w.ownsRow base 61 1 (.slice (some ⟨g, 0, none⟩) n c) n ((xs ++ ys).map (Value.int .u32))) : RdI w .u32 (some ⟨g, 0, none⟩) xs := fun i hi => by
 have hn : n = (xs ++ ys).length := by have := h.1; simp at this; simp; omega
 rw [length_append] at hn
 refine ⟨g, 0, xs[i], rfl, List.getElem?_eq_getElem hi, ?_⟩
 rw [Nat.zero_add, h.cellAt i lq29, List.getElem?_map, List.getElem?_append_left hi, List.getElem?_eq_getElem hi]
 rfl
def dig9 (n : Nat) : List Value := [.int .u8 (dsign n 8), .int .u8 (dsign n 7), .int .u8 (dsign n 6), .int .u8 (dsign n 5), .int .u8 (dsign n 4), .int .u8 (dsign n 3), .int .u8 (dsign n 2), .int .u8 (dsign n 1), .int .u8 (dsign n 0)]
theorem dig9_bytes (n : Nat) : dig9 n = Lib.byteCells ((digs n 9).map dchr) := by
 have h : ∀ k, dsign n k = ((dchr (n / 10 ^ k % 10)).toNat : Int) := fun k => by
  rw [dchr_toNat _ (Nat.mod_lt _ lq28), dsign]; simp
 simp only [dig9, h, digs, Lib.byteCells, List.map_cons, List.map_nil]
def flat9 (pre : List (Nat × U32)) : List Value := pre.flatMap fun x => dig9 x.2.1.toNat
theorem flat9_snoc (pre : List (Nat × U32)) (x : Nat × U32) : flat9 (pre ++ [x]) = flat9 pre ++ dig9 x.2.1.toNat := by simp [flat9]
theorem flat9_len (pre : List (Nat × U32)) : (flat9 pre).length = 9 * pre.length := by
 induction pre with
 | nil => rfl
 | cons x pre ih => rw [flat9, List.flatMap_cons, length_append] ; rw [flat9] at ih; rw [ih]; simp [dig9]; omega
theorem byteCells_append (a b : List UInt8) : Lib.byteCells (a ++ b) = Lib.byteCells a ++ Lib.byteCells b := by simp [Lib.byteCells]
theorem backAt_snd (us : List U32) (k : Nat) (h : k < us.length) : (backAt us k).2 = us[us.length - 1 - k]'lq29 := by
 simp only [backAt, u32at]
 rw [gEo]; rfl
theorem flat9_upto (us : List U32) : ∀ k, k ≤ us.length → flat9 (upto (backAt us) k) = Lib.byteCells (((us.drop (us.length - k)).reverse.flatMap fun u => digs u.1.toNat 9).map dchr)
 | 0, _ => by simp [upto, flat9, Lib.byteCells]
 | k + 1, h => by
  obtain ⟨j, hj⟩ : ∃ j, j = us.length - (k + 1) := ⟨_, rfl⟩; have e1 : us.length - k = j + 1 := by omega
  have e2 : us.length - 1 - k = j := by omega
  have hjl : j < us.length := by omega
  rw [upto_succ, flat9_snoc, flat9_upto us k lq29, ← hj, e1, List.drop_eq_getElem_cons hjl, List.reverse_cons, List.flatMap_append, List.map_append, byteCells_append, dig9_bytes, backAt_snd us k lq29]; simp only [e2, List.flatMap_cons, List.flatMap_nil, List.append_nil]
theorem flat9_all (us : List U32) : flat9 (upto (backAt us) us.length) = Lib.byteCells ((us.reverse.flatMap fun u => digs u.1.toNat 9).map dchr) := by
 rw [flat9_upto us _ (Nat.le_refl _), Nat.sub_self, List.drop_zero]
theorem words_pcs : ∀ pcs : List Nat, (∀ p ∈ pcs, p < 1000000000) → ∃ us : List U32, vals us = pcs.map (fun p : Nat => (p : Int)) ∧ us.map (fun u => u.1.toNat) = pcs
 | [], _ => ⟨[], rfl, rfl⟩
 | p :: pcs, h => by
  obtain ⟨us, h1, h2⟩ := words_pcs pcs (fun q hq => h q (List.mem_cons_of_mem _ hq)); have := h p (List.mem_cons_self ..); have h0 : (0 : Int) ≤ (p : Int) := by omega
  have h3 : (p : Int) ≤ 4294967295 := by omega
  exact ⟨⟨(p : Int), h0, h3⟩ :: us, by rw [vals, List.map_cons, List.map_cons]; exact congrArg _ h1, by rw [List.map_cons, h2]; rfl⟩
theorem flat9_pcs (us : List U32) (pcs : List Nat) (h : us.map (fun u => u.1.toNat) = pcs) : flat9 (upto (backAt us) us.length) = Lib.byteCells ((pcs.reverse.flatMap fun p => digs p 9).map dchr) := by
 rw [flat9_all, ← h, ← List.map_reverse, List.flatMap_map]
theorem pcs_few (n L : Nat) (V M : Int) (hV : V < 4294967296 ^ n) (h : ((10 ^ (9 * L) : Nat) : Int) * M ≤ V) (hM : 1 ≤ M) : 9 * L < 10 * n := by
 have h1 : ((10 ^ (9 * L) : Nat) : Int) ≤ V := by
  have := Int.mul_le_mul_of_nonneg_left hM (Int.natCast_nonneg (10 ^ (9 * L)))
  omega
 have h2 : (4294967296 : Int) ^ n ≤ ((10 ^ (10 * n) : Nat) : Int) := by
  rw [Nat.pow_mul]; have := Nat.pow_le_pow_left (show 4294967296 ≤ 10 ^ 10 by decide) n; have e : (4294967296 : Int) ^ n = ((4294967296 ^ n : Nat) : Int) := by simp
  rw [e]; exact Int.ofNat_le.2 this
 have h3 : (10 ^ (9 * L) : Nat) < 10 ^ (10 * n) := by omega
 exact (Nat.pow_lt_pow_iff_right lq28).1 h3
end
section
open Go.RowKit
open List (length_append length_cons length_nil length_singleton)
def WrT (B X dep : Nat) (l : List UInt8) (w : World) : Prop := Wr B X dep (Lib.byteCells l) w
section
variable {B X dep : Nat} {l : List UInt8} {w : World} (h : WrT B X dep l w)
include B X dep l w h
theorem WrT.lt : X < w.heap.size := Wr.lt h
theorem WrT.le : B ≤ X := Wr.le h
theorem WrT.alloc (o : Obj) : WrT B X dep l (w.alloc o) := Wr.alloc h o
end
theorem WrT.later {B X dep : Nat} {l : List UInt8} {w w' : World} (h : WrT B X dep l w) (hb : Below w.heap.size w w') : WrT B X dep l w' := Wr.later h hb
theorem WrT.eq {B X dep : Nat} {l l' : List UInt8} {w : World} (h : WrT B X dep l w) (e : l = l') : WrT B X dep l' w := e ▸ h
theorem strCells_flat (L : List ByteArray) : L.flatMap Lib.strCells = Lib.byteCells (L.flatMap fun s => s.data.toList) := by
 induction L with
 | nil => rfl
 | cons a r ih =>
  rw [List.flatMap_cons, List.flatMap_cons, ih, byteCells_append]
  rfl
theorem totalS_flat (L : List ByteArray) : totalS L = (L.flatMap fun s => s.data.toList).length := by
 induction L with
 | nil => rfl
 | cons a r ih => rw [totalS, List.flatMap_cons, length_append, ih]; simp
theorem wSayT_ok (B X dep : Nat) (l p : List UInt8) (L : List ByteArray) (n g : Nat) (w : World) (h : WrT B X dep l w) (hn : L.length = n) (hgX : X < g) (hg : w.heap[g]? = some (.cells (L.map Value.string).toArray 9 (0, 0))) (hp : (L.flatMap fun s => s.data.toList) = p) (hnm : n ≤ 1000) (hlen : l.length + p.length ≤ 1000000000000) (hBw : B ≤ w.heap.size) :
  Calls Tryz.prog 84 #[.pointer (some ⟨X, 0, none⟩), .slice (some ⟨g, 0, none⟩) n n] w fun e w' => e = .returned (.tuple #[]) ∧ WrT B X dep (l ++ p) w' ∧ WK B X w w' := by
 refine (wSay_ok B X dep _ L n n _ w h hn (.inr ⟨g, rfl, by omega, hg⟩) (Nat.le_refl _) lq24 (by rw [Lib.byteCells_length, totalS_flat, hp]; omega) hBw).mono ?_
 rintro e w' ⟨rfl, hw, hk⟩
 refine ⟨rfl, ?_, hk⟩
 unfold WrT
 rw [byteCells_append, ← hp, ← strCells_flat]
 exact hw
theorem box_keep {B X n : Nat} {w w' : World} {cs : Array Value} (hk : WK B X w w') (h : w.heap[n]? = some (.cells cs 27 (0, 0))) (hn : X < n) : w'.heap[n]? = some (.cells cs 27 (0, 0)) :=
 hk.k n _ h (fun e => by injection e; omega) (fun c fz e => by injection e with _ e _; exact absurd e lq28)
theorem cells_box {w : World} {n : Nat} {T : Nd} {A : Option Addr} {c : Nat} {K : Option Addr} {d : Nat} {t : TypeId} (h : w.heap[n]? = some (.cells #[.int .i64 T.kind, .int .i64 T.pos, .string T.text, .bool T.neg, .slice A T.mag.length c, .slice K T.kids.length d] t (0, 0))) : CellsN w n 0 T A c K d :=
 ⟨cell_of_row _ _ 0 _ _ _ h, cell_of_row _ _ 1 _ _ _ h, cell_of_row _ _ 2 _ _ _ h, cell_of_row _ _ 3 _ _ _ h, cell_of_row _ _ 4 _ _ _ h, cell_of_row _ _ 5 _ _ _ h⟩
def FSays (f : FuncId) (w0 : World) (X dep : Nat) (tf : Nd → List UInt8) (t : Nd) : Prop :=
 ∀ (A : Option Addr) (c : Nat) (K : Option Addr) (d : Nat) (l : List UInt8) (W : World), NodeAt w0 t A c K d → Below w0.heap.size w0 W → WrT w0.heap.size X dep l W → l.length + (tf t).length ≤ 1000000000000 →
  Calls Tryz.prog f #[.pointer (some ⟨X, 0, none⟩), ndV t A c K d] W fun e w' => e = .returned (.tuple #[]) ∧ WrT w0.heap.size X dep (l ++ tf t) w' ∧ WK w0.heap.size X W w'
theorem sep_take (s : List UInt8) {L : List (List UInt8)} {k : Nat} {x : List UInt8} (h : L[k]? = some x) : sepL s (L.take (k + 1)) = sepL s (L.take k) ++ ((if k = 0 then [] else s) ++ x) := by
 cases L with
 | nil => simp at h
 | cons a r =>
  cases k with
  | zero => simp at h; subst h; simp [sepL]
  | succ k =>
   rw [List.getElem?_cons_succ] at h; obtain ⟨hk, rfl⟩ := List.getElem?_eq_some_iff.1 h; rw [List.take_succ_cons, List.take_succ_cons, sepL, sepL, List.take_succ_eq_append_getElem hk, List.flatMap_append]
   simp
theorem sep_le (s : List UInt8) (L : List (List UInt8)) (k : Nat) : (sepL s (L.take k)).length ≤ (sepL s L).length := by
 cases L with
 | nil => simp
 | cons a r =>
  cases k with
  | zero => simp [sepL]
  | succ k =>
   rw [List.take_succ_cons, sepL, sepL, length_append, length_append]; have : r = r.take k ++ r.drop k := (List.take_append_drop k r).symm; have h2 : (r.flatMap fun x => s ++ x).length = ((r.take k).flatMap fun x => s ++ x).length + ((r.drop k).flatMap fun x => s ++ x).length := by
    rw [← length_append, ← List.flatMap_append, List.take_append_drop]
   omega
theorem wList_ok (f : FuncId) (hrn : ∀ args W, (callFunc f args).run Tryz.prog W = .ok (.enter f args) W) (w0 : World) (X dep : Nat) (tf : Nd → List UInt8) (l0 : List UInt8) (l : List Nd) (n : Nat) (K : Option Addr) (d : Nat) (w : World) (hn : l.length = n) (hl : KidsAt w0 l K 0) (hf : ∀ t ∈ l, FSays f w0 X dep tf t) (hnd : n ≤ d) (hd : d ≤ maxLen) (hb0 : Below w0.heap.size w0 w) (h : WrT w0.heap.size X dep l0 w) (hlen : l0.length + (sepL com (l.map tf)).length ≤ 1000000000000) :
  Calls Tryz.prog 85 #[.pointer (some ⟨X, 0, none⟩), .slice K n d, .func (.func f) #[.pointer (some ⟨X, 0, none⟩)] #[]] w fun e w' => e = .returned (.tuple #[]) ∧ WrT w0.heap.size X dep (l0 ++ sepL com (l.map tf)) w' ∧ WK w0.heap.size X w w' := by
 unfold maxLen at hd
 have HK := Lh hl
 have HNn := Lh hn
 have HF := Lh hf
 have HB := Lh hb0
 have H := Lh h
 have HLen := Lh hlen
 clear hl hn hf hb0 h hlen
 go_enter Tryz.func85, Tryz.ntmps85
 go_wp2_with fail
 go_loopw [10] (fun iv wr => ∃ k : Nat, iv = .int .i64 k ∧ k ≤ n ∧ Hid (WrT w0.heap.size X dep (l0 ++ sepL com ((l.map tf).take k)) wr) ∧ Hid (WK w0.heap.size X w wr)) (fun iv _ => n - (intOf iv).toNat)
 case atStart => exact ⟨0, rfl, Nat.zero_le _, Lh (by simpa [sepL] using H.out), Lh (WK.refl _ _ _)⟩
 case round =>
  obtain ⟨k, rfl, hk, hR, hbr⟩ := hrel
  by_cases hkl : k < n
  ·have o1 : decide ((k : Int) < (n : Int)) = true := dTo; have o2 : decide (k < n) = true := dTr hkl; obtain ⟨t, ht⟩ : ∃ t, l[k]? = some t := ⟨_, List.getElem?_eq_getElem (by rw [HNn.out]; exact hkl)⟩; obtain ⟨b, off, A', c', K', d', hKe, hC, hNt⟩ := HK.out.kid ht; rw [Nat.zero_add] at hC; subst hKe; have hbw : Below w0.heap.size w0 wr := HB.out.trans hbr.out.b; obtain ⟨n0, n1, n2, n3, n4, n5⟩ := hC.later hbw; have hbn : b < wr.heap.size := blt n0; have hXw : X < wr.heap.size := hR.out.lt; have hmt : (l.map tf)[k]? = some (tf t) := by rw [List.getElem?_map, ht]; rfl
   have hst := sep_take com hmt; have hle := sep_le com (l.map tf) (k + 1); have hsz := HLen.out; have hbt := (Below.refl wr.heap.size wr).alloc (Nat.le_refl _) (.cells #[.int .i64 t.kind, .int .i64 t.pos, .string t.text, .bool t.neg, .slice A' t.mag.length c', .slice K' t.kids.length d'] 27); have hkt : WK w0.heap.size X wr (wr.alloc (.cells #[.int .i64 t.kind, .int .i64 t.pos, .string t.text, .bool t.neg, .slice A' t.mag.length c', .slice K' t.kids.length d'] 27)) := (WK.refl _ _ _).alloc hbw.size _
   have hRt : WrT w0.heap.size X dep (l0 ++ sepL com ((l.map tf).take k)) (wr.alloc (.cells #[.int .i64 t.kind, .int .i64 t.pos, .string t.text, .bool t.neg, .slice A' t.mag.length c', .slice K' t.kids.length d'] 27)) := hR.out.alloc _; have hbox := heap_alloc_new wr (.cells #[.int .i64 t.kind, .int .i64 t.pos, .string t.text, .bool t.neg, .slice A' t.mag.length c', .slice K' t.kids.length d'] 27); obtain ⟨z0, z1, z2, z3, z4, z5⟩ := (cells_box hbox).box; have hFt := HF.out t (mog ht)
   by_cases h0 : k = 0
   ·have q0 : decide ((0 : Int) < (k : Int)) = false := dFo; have q1 : decide (0 < k) = false := dFo; rw [if_pos h0, List.nil_append] at hst; have hI := hFt A' c' K' d' _ _ hNt (hbw.trans (hbt.mono hbw.size)) hRt (by rw [hst, length_append] at hle; rw [length_append]; omega); unfold ndV at hI; rw [List.append_assoc, ← hst] at hI; have HI := Lh hI; have HKT := Lh hkt; clear hI hC hNt ht hmt hst hle hsz hbt hkt hRt hbox hFt hbw h0; go_wp2_with (with_reducible refine HI.out.mono ?_; rintro e w3 ⟨rfl, hw3, hk3⟩)
    go_roundw
    case rel => exact ⟨k + 1, by go_num, by omega, Lh hw3, Lh (hbr.out.trans (HKT.out.trans hk3))⟩
    case measure => simp [intOf]; omega
   ·have q0 : decide ((0 : Int) < (k : Int)) = true := dTo; have q1 : decide (0 < k) = true := dTo; rw [if_neg h0] at hst; have hlt2 : (l0 ++ sepL com ((l.map tf).take k)).length + com.length + (tf t).length ≤ 1000000000000 := by rw [hst, length_append, length_append] at hle; rw [length_append]; omega
    have hRt2 := hRt.alloc (.cells #[.string { data := #[44, 32] }] 9); have hkt2 := hkt.alloc (Nat.le_trans hbw.size hkt.b.size) (.cells #[.string { data := #[44, 32] }] 9); have hsg : (wr.alloc (.cells #[.int .i64 t.kind, .int .i64 t.pos, .string t.text, .bool t.neg, .slice A' t.mag.length c', .slice K' t.kids.length d'] 27)).heap.size = wr.heap.size + 1 := by simp
    have hS := wSayT_ok w0.heap.size X dep _ com [⟨#[44, 32]⟩] 1 (wr.heap.size + 1) _ hRt2 rfl lq29 lq19 rfl lq28 lq29 (Nat.le_trans hbw.size hkt2.b.size); have HS := Lh hS; have hbox2 : ((wr.alloc (.cells #[.int .i64 t.kind, .int .i64 t.pos, .string t.text, .bool t.neg, .slice A' t.mag.length c', .slice K' t.kids.length d'] 27)).alloc (.cells #[.string { data := #[44, 32] }] 9)).heap[wr.heap.size]? = some (.cells #[.int .i64 t.kind, .int .i64 t.pos, .string t.text, .bool t.neg, .slice A' t.mag.length c', .slice K' t.kids.length d'] 27 (0, 0)) := (Lib.alloc_old _ _ _ lq30).trans hbox
    have HBX := Lh hbox2; have HFt := Lh hFt; have HNt := Lh hNt; have HBW := Lh hbw; have HKT := Lh hkt2; have HST := Lh hst; have HLT := Lh hlt2; clear hS hC hNt ht hmt hst hle hsz hbt hkt hRt hbox hFt hbw h0 hRt2 hkt2 hbox2 hlt2 hsg
    go_wp2_with (first | (go_at_call 84; refine HS.out.mono ?_; rintro e w2 ⟨rfl, hw2, hk2⟩; have hbx := box_keep hk2 HBX.out hXw; obtain ⟨y0, y1, y2, y3, y4, y5⟩ := (cells_box hbx).box; have hyl := blt y0; have hI := HFt.out A' c' K' d' _ w2 HNt.out (HBW.out.trans (HKT.out.trans hk2).b) hw2 (by have := HLT.out; rw [length_append]; omega); unfold ndV at hI; have HI := Lh hI; clear hI) | (with_reducible refine HI.out.mono ?_; rintro e w3 ⟨rfl, hw3, hk3⟩))
    go_roundw
    case rel => exact ⟨k + 1, by go_num, by omega, Lh (hw3.eq (by rw [HST.out]; simp)), Lh (hbr.out.trans ((HKT.out.trans hk2).trans hk3))⟩
    case measure => simp [intOf]; omega
  ·have o1 : decide ((k : Int) < (n : Int)) = false := dFo; have o2 : decide (k < n) = false := dFa hkl; have hR2 := hR.out; rw [List.take_of_length_le (by rw [List.length_map]; have := HNn.out; omega)] at hR2; have HR2 := Lh hR2; clear hR2; go_wp2_with fail
   go_end0
   exact ⟨rfl, HR2.out, hbr.out⟩
end
end Go.Proofs.YtjefhdlncikhmaaGreatDoor
