/- Joined by a program: Wr1, TxP, T0. -/
import Derived.Test.YtjndbcnmmnkilaaGreatDoorPF44
namespace Go.Proofs.YtjndbcnmmnkilaaGreatDoor
set_option linter.unusedVariables false
set_option linter.unusedSimpArgs false
set_option maxRecDepth 1000000
set_option maxHeartbeats 16000000
section
open Go.RowKit Go.Shelf
open List (length_append length_cons length_nil length_singleton)
def WrAt (p : Value) (B X dep : Nat) (bs : List Value) (w : World) : Prop :=
 B ≤ X ∧ ∃ v, w.heap[X]? = some (.cells #[p, v, .int .i64 ((dep : Nat) : Int)] 74 (0, 0)) ∧ w.ownsRowF B 5 1 v bs.length bs ∧ v.ownBlock ≠ some X
def Wr (B X dep : Nat) (bs : List Value) (w : World) : Prop := ∃ p, (p = .pointer none ∨ p = .pointer (some ⟨X, 0, none⟩)) ∧ WrAt p B X dep bs w
structure WK (B X : Nat) (w w' : World) : Prop where
 b : Below B w w'
 k : Lib.OthersKept 5 (some X) w w'
section
variable {B X dep : Nat} {bs : List Value} {w w' w'' : World} {p : Value}
theorem WK.refl (B X : Nat) (w : World) : WK B X w w := ⟨Below.refl _ _, Lib.OthersKept.refl _ _ _⟩
theorem WK.trans (h : WK B X w w') (h' : WK B X w' w'') : WK B X w w'' := ⟨h.b.trans h'.b, h.k.trans h'.k⟩
theorem WK.alloc (h : WK B X w w') (hB : B ≤ w'.heap.size) (o : Obj) : WK B X w (w'.alloc o) := ⟨h.b.alloc hB o, h.k.alloc o⟩
theorem WK.drew (h : WK B X w w') : WK B X w w'.drew := ⟨h.b.trans ⟨rfl, rfl, rfl, Nat.le_refl _, fun _ _ => rfl⟩, h.k.drew⟩
theorem WrAt.lt (h : WrAt p B X dep bs w) : X < w.heap.size := by
 obtain ⟨_, v, hb, _⟩ := h
 rcases Nat.lt_or_ge X w.heap.size with h' | h'
 ·exact h'
 ·simp [Array.getElem?_eq_none h'] at hb
theorem Wr.lt (h : Wr B X dep bs w) : X < w.heap.size := by obtain ⟨p, _, h⟩ := h; exact h.lt
theorem Wr.le (h : Wr B X dep bs w) : B ≤ X := by obtain ⟨p, _, h⟩ := h; exact h.1
theorem WrAt.alloc (h : WrAt p B X dep bs w) (o : Obj) : WrAt p B X dep bs (w.alloc o) := by
 have hlt := h.lt
 obtain ⟨hB, v, hb, hown, hne⟩ := h
 exact ⟨hB, v, (Lib.alloc_old w o X hlt).trans hb, hown.alloc o, hne⟩
theorem Wr.alloc (h : Wr B X dep bs w) (o : Obj) : Wr B X dep bs (w.alloc o) := by obtain ⟨p, hp, h⟩ := h; exact ⟨p, hp, h.alloc o⟩
theorem Wr.drew (h : Wr B X dep bs w) : Wr B X dep bs w.drew := h
theorem WrAt.later (h : WrAt p B X dep bs w) (hb : Below w.heap.size w w') : WrAt p B X dep bs w' := by
 have hlt := h.lt
 obtain ⟨hB, v, hx, hown, hne⟩ := h
 exact ⟨hB, v, (hb.block X hlt).trans hx, hown.kept (row := none) ⟨hb.os, hb.tape, hb.output, hb.size, fun k hk _ => hb.block k hk⟩ (by cases hv : v.ownBlock <;> simp), hne⟩
theorem Wr.later (h : Wr B X dep bs w) (hb : Below w.heap.size w w') : Wr B X dep bs w' := by obtain ⟨p, hp, h⟩ := h; exact ⟨p, hp, h.later hb⟩
theorem WK.of_below (hb : Below w.heap.size w w') (hB : B ≤ w.heap.size) : WK B X w w' :=
 ⟨hb.mono hB, fun k o hk _ _ => by
  have hlt : k < w.heap.size := by
   rcases Nat.lt_or_ge k w.heap.size with h' | h'
   ·exact h'
   ·simp [Array.getElem?_eq_none h'] at hk
  rw [hb.block k hlt]; exact hk⟩
theorem WrAt.cell0 (h : WrAt p B X dep bs w) : w.cell? ⟨X, 0, none⟩ = some p := by
 obtain ⟨_, v, hb, _⟩ := h
 rw [Lib.cell_of_heap hb]; rfl
theorem WrAt.cell2 (h : WrAt p B X dep bs w) : w.cell? ⟨X, 2, none⟩ = some (.int .i64 ((dep : Nat) : Int)) := by
 obtain ⟨_, v, hb, _⟩ := h
 rw [Lib.cell_of_heap hb]; rfl
theorem Wr.cell2 (h : Wr B X dep bs w) : w.cell? ⟨X, 2, none⟩ = some (.int .i64 ((dep : Nat) : Int)) := by obtain ⟨p, _, h⟩ := h; exact h.cell2
theorem WK.set (h : WK B X w w') (hB : B ≤ X) (i : Nat) (u : Value) : WK B X w (w'.setCell ⟨X, i, none⟩ u) := ⟨h.b.setCell (p := ⟨X, i, none⟩) hB _, h.k.setCell ⟨X, i, none⟩ rfl _⟩
end
theorem wCopyFresh (B X dep : Nat) (bs : List Value) (w : World) (h : WrAt (.pointer none) B X dep bs w) :
  Calls Tryz.prog 277 #[.pointer (some ⟨X, 0, none⟩)] w fun e w' => e = .returned (.tuple #[]) ∧ w' = w.setCell ⟨X, 0, none⟩ (.pointer (some ⟨X, 0, none⟩)) := by
 obtain ⟨j, hj, hjs⟩ := Option.map_eq_some_iff.1 Tryz.x72.sizeBuilder
 have hj' : Tryz.prog.info? 72 = some j := hj
 have h0 := h.cell0
 have hsh : w.shape? X = some (74, 3) := by
  obtain ⟨_, v, hb, _⟩ := h
  simp [World.shape?, hb]
 have hfz : w.frozen? ⟨X, 0, none⟩ = false := by
  obtain ⟨_, v, hb, _⟩ := h; exact Lib.frozen_of_heap hb 0
 go_enter Tryz.func277, Tryz.ntmps277
 go_wp2
 rw [Lib.run_to_unsafe w ⟨X, 0, none⟩ Tryz.underlying70 Tryz.underlying212 hj' (by rw [hjs]; decide) hsh (Nat.zero_lt_succ 2)]
 simp only [Result.andThen]
 rw [Oper.upon_value]
 go_wp2
 rw [run_callFunc_extern (show Tryz.prog.funcs[309]? = _ from Tryz.layz240.f276) lq15 lq15 lq15 (e := Extern.AbiNoEscape.same) lq15]
 rw [Lib.run_noEscape]
 simp only [Result.andThen]
 rw [Oper.upon_value]
 go_wp2
 rw [Lib.run_from_unsafe w ⟨X, 0, none⟩ Tryz.underlying212 Tryz.underlying70 hj' hsh lq15]
 simp only [Result.andThen]
 rw [Oper.upon_value]
 go_wp2
 go_end0
 exact ⟨rfl, rfl⟩
theorem wCopy_ok (B X dep : Nat) (bs : List Value) (w : World) (h : Wr B X dep bs w) :
  Calls Tryz.prog 277 #[.pointer (some ⟨X, 0, none⟩)] w fun e w' => e = .returned (.tuple #[]) ∧ WrAt (.pointer (some ⟨X, 0, none⟩)) B X dep bs w' ∧ WK B X w w' := by
 obtain ⟨p, rfl | rfl, h⟩ := h
 ·refine (wCopyFresh B X dep bs w h).mono ?_
  rintro e w' ⟨rfl, rfl⟩
  refine ⟨rfl, ?_, (WK.refl B X w).set h.1 0 _⟩
  obtain ⟨hB, v, hb, hown, hne⟩ := h
  refine ⟨hB, v, ?_, ?_, hne⟩
  ·simp [World.setCell, Array.getElem?_modify, hb]
  ·exact hown.kept (row := some X) ⟨rfl, rfl, rfl, by simp [World.setCell], fun k _ hk => Below.heap_setCell _ _ _ _ (fun e => hk (by simp [e]))⟩ (Or.inr hne)
 ·refine (Any.Builder_copyCheck_used Tryz.layz240 Tryz.x72 X w h.cell0).mono ?_
  rintro e w' ⟨rfl, rfl⟩; exact ⟨rfl, h, WK.refl B X _⟩
theorem byteInfo : (Tryz.prog.info? 5).map (fun i => (i.zero, i.size, i.bytes)) = some (some (.int .u8 0), 1, 1) := by kernel_rfl
theorem wWrite_ok (B X dep : Nat) (bs : List Value) (s : ByteArray) (w : World) (h : Wr B X dep bs w) (hlen : bs.length + s.size ≤ 140737488355328) (hBw : B ≤ w.heap.size) :
  Calls Tryz.prog 229 #[.pointer (some ⟨X, 0, none⟩), .string s] w fun e w' => e = .returned (.tuple #[.int .i64 s.size, .nilIface]) ∧ Wr B X dep (bs ++ Lib.strCells s) w' ∧ WK B X w w' := by
 obtain ⟨i0, hi, hz0, hz1, hz2⟩ := info_parts byteInfo
 have hcc := wCopy_ok B X dep bs w h
 go_enter Tryz.func229, Tryz.ntmps229
 go_wp2_with fail
 go_at_call 277
 refine hcc.mono ?_
 rintro e w1 ⟨rfl, hA, hk1⟩
 have hlt := hA.lt
 obtain ⟨hB, v, hbk, hown, hne⟩ := hA
 have c0 : w1.cell? ⟨X, 0, none⟩ = some (.pointer (some ⟨X, 0, none⟩)) := by rw [Lib.cell_of_heap hbk]; rfl
 have c1 : w1.cell? ⟨X, 1, none⟩ = some v := by rw [Lib.cell_of_heap hbk]; rfl
 go_wp2_with (at_builtin; refine Lib.wpList_append_own_stringF _ rfl _ _ 22 9 rfl B 5 i0 Tryz.underlying22 Tryz.underlying9 hi hz0 hz1 hz2 _ _ _ rfl hown s rfl ?c3 ?c4 ?c5 ?_)
 case c3 => unfold maxLen; omega
 case c4 => omega
 case c5 => have := hk1.b.size; omega
 intro v' w2 hown' hgrow _
 have hb2 : w2.heap[X]? = some (.cells #[.pointer (some ⟨X, 0, none⟩), v, .int .i64 ((dep : Nat) : Int)] 74 (0, 0)) := by
  rw [hgrow.block X hlt (fun e => hne e.symm)]; exact hbk
 have d0 : w2.cell? ⟨X, 0, none⟩ = some (.pointer (some ⟨X, 0, none⟩)) := by rw [Lib.cell_of_heap hb2]; rfl
 have d1 : w2.cell? ⟨X, 1, none⟩ = some v := by rw [Lib.cell_of_heap hb2]; rfl
 have f1 : w2.frozen? ⟨X, 1, none⟩ = false := Lib.frozen_of_heap hb2 1
 obtain ⟨ao, n', cap, rfl⟩ : ∃ ao n' cap, v' = .slice ao n' cap := by
  rcases hown'.2 with ⟨hv, _⟩ | ⟨g, cap, cur, fz, hv, _⟩
  ·exact ⟨_, _, _, hv⟩
  ·exact ⟨_, _, _, hv⟩
 go_wp2
 go_ret2
 refine ⟨rfl, ⟨_, .inr rfl, hB, _, ?_, ?_, Lib.ownBlock_neF hown' hb2 lq16⟩, ⟨(hk1.b.grown hgrow (by have := hk1.b.size; omega) (fun k hk => (hown.lt k hk).1)).setCell (p := ⟨X, 1, none⟩) hB _, (hk1.k.grown hgrow (Lib.ownsRowF_kind hown)).setCell ⟨X, 1, none⟩ rfl _⟩⟩
 ·simp [World.setCell, Array.getElem?_modify, hb2]
 ·have := hown'.kept (row := some X) (w' := w2.setCell ⟨X, 1, none⟩ (.slice ao n' cap)) ⟨rfl, rfl, rfl, by simp [World.setCell], fun k _ hk => Below.heap_setCell _ _ _ _ (fun e => hk (by simp [e]))⟩ (Or.inr (Lib.ownBlock_neF hown' hb2 lq16))
  simpa [Lib.strCells_length] using this
def StrsW (w : World) (X : Nat) (A : Option Addr) (L : List ByteArray) : Prop := L = [] ∨ ∃ g, A = some ⟨g, 0, none⟩ ∧ g ≠ X ∧ w.heap[g]? = some (.cells (L.map Value.string).toArray 9 (0, 0))
theorem StrsW.kept {B X : Nat} {w w' : World} {A : Option Addr} {L : List ByteArray} (h : StrsW w X A L) (hk : WK B X w w') : StrsW w' X A L := by
 rcases h with h | ⟨g, hA, hg, hh⟩
 ·exact .inl h
 ·exact .inr ⟨g, hA, hg, hk.k g _ hh (fun e => hg (Option.some.inj e)) (fun c fz e => by injection e with _ e _; exact absurd e lq16)⟩
def totalS : List ByteArray → Nat
 | [] => 0
 | s :: r => s.size + totalS r
theorem totalS_take (L : List ByteArray) (k : Nat) (s : ByteArray) (h : L[k]? = some s) : totalS (L.take (k + 1)) = totalS (L.take k) + s.size := by
 induction L generalizing k with
 | nil => simp at h
 | cons a r ih =>
  cases k with
  | zero => simp at h; subst h; simp [totalS]
  | succ k => rw [List.getElem?_cons_succ] at h; rw [List.take_succ_cons, List.take_succ_cons, totalS, totalS, ih k h]; omega
theorem totalS_le (L : List ByteArray) (k : Nat) : totalS (L.take k) ≤ totalS L := by
 induction L generalizing k with
 | nil => simp
 | cons a r ih =>
  cases k with
  | zero => simp [totalS]
  | succ k => rw [List.take_succ_cons, totalS, totalS]; have := ih k; omega
theorem flat_len (L : List ByteArray) : (L.flatMap Lib.strCells).length = totalS L := by
 induction L with
 | nil => rfl
 | cons a r ih => rw [List.flatMap_cons, length_append, ih, totalS, Lib.strCells_length]
theorem flat_take (L : List ByteArray) (k : Nat) (s : ByteArray) (h : L[k]? = some s) : (L.take (k + 1)).flatMap Lib.strCells = (L.take k).flatMap Lib.strCells ++ Lib.strCells s := by
 obtain ⟨hk, rfl⟩ := List.getElem?_eq_some_iff.1 h
 rw [List.take_succ_eq_append_getElem hk, List.flatMap_append]
 simp
theorem wSay_ok (B X dep : Nat) (bs : List Value) (L : List ByteArray) (n c : Nat) (A : Option Addr) (w : World) (h : Wr B X dep bs w) (hn : L.length = n) (hL : StrsW w X A L) (hnc : n ≤ c) (hc : c ≤ maxLen) (hlen : bs.length + totalS L ≤ 140737488355328) (hBw : B ≤ w.heap.size) :
  Calls Tryz.prog 159 #[.pointer (some ⟨X, 0, none⟩), .slice A n c] w fun e w' => e = .returned (.tuple #[]) ∧ Wr B X dep (bs ++ L.flatMap Lib.strCells) w' ∧ WK B X w w' := by
 unfold maxLen at hc
 have HN := Lh hn
 have HL := Lh hL
 have H := Lh h
 have HLen := Lh hlen
 have HB := Lh hBw
 have hXlt := h.lt
 clear hn hL h hlen hBw
 go_enter Tryz.func159, Tryz.ntmps159
 go_wp2_with fail
 go_loopw [8] (fun iv wr => ∃ k : Nat, iv = .int .i64 k ∧ k ≤ n ∧ Hid (Wr B X dep (bs ++ (L.take k).flatMap Lib.strCells) wr) ∧ Hid (WK B X w wr)) (fun iv _ => n - (intOf iv).toNat)
 case atStart => exact ⟨0, rfl, Nat.zero_le _, Lh (by simpa using H.out), Lh (WK.refl _ _ _)⟩
 case round =>
  obtain ⟨k, rfl, hk, hR, hbr⟩ := hrel
  by_cases hkl : k < n
  ·have o1 : decide ((k : Int) < (n : Int)) = true := dTo; have o2 : decide (k < n) = true := dTr hkl; obtain ⟨x, hx⟩ : ∃ x, L[k]? = some x := ⟨_, List.getElem?_eq_getElem (by rw [HN.out]; exact hkl)⟩; obtain ⟨g, hA, hgX, hh⟩ : ∃ g, A = some ⟨g, 0, none⟩ ∧ g ≠ X ∧ wr.heap[g]? = some (.cells (L.map Value.string).toArray 9 (0, 0)) := by
    rcases HL.out.kept hbr.out with h | h
    ·rw [h] at hx; simp at hx
    ·exact h
   subst hA; have hc2 : wr.cell? ⟨g, k, none⟩ = some (.string x) := by rw [Lib.cell_of_heap hh]; simp [hx]
   have hxl : X < wr.heap.size := hR.out.lt; have HI := Lh (wWrite_ok B X dep _ x wr hR.out (by have h1 := HLen.out; have h2 := totalS_take L k x hx; have h3 := totalS_le L (k + 1); rw [length_append, flat_len]; omega) (Nat.le_trans HB.out hbr.out.b.size)); have HF := Lh (flat_take L k x hx); clear hh hx; go_wp2_with (go_at_call 229; refine HI.out.mono ?_; rintro e w3 ⟨rfl, hw3, hk3⟩)
   go_roundw
   case rel => exact ⟨k + 1, by go_num, by omega, Lh (by rw [HF.out, ← List.append_assoc]; exact hw3), Lh (hbr.out.trans hk3)⟩
   case measure => simp [intOf]; omega
  ·have o1 : decide ((k : Int) < (n : Int)) = false := dFo; have o2 : decide (k < n) = false := dFa hkl; have hR2 := hR.out; rw [List.take_of_length_le (by have := HN.out; omega)] at hR2; have HR2 := Lh hR2; clear hR2; go_wp2_with fail
   go_end0
   exact ⟨rfl, HR2.out, hbr.out⟩
end
section
open List (length_append length_cons length_nil length_singleton)
def tx (T : Nd) : List UInt8 := T.text.data.toList
def sepL (s : List UInt8) : List (List UInt8) → List UInt8
 | [] => []
 | a :: r => a ++ r.flatMap (fun x => s ++ x)
def gl (L : List (List UInt8)) (i : Nat) : List UInt8 := L.getD i []
def behindL (L : List (List UInt8)) : List UInt8 := [32, 102, 111, 114, 32] ++ gl L 1 ++ [32, 105, 110, 32] ++ gl L 2 ++ (L.drop 3).flatMap (fun x => [32, 105, 102, 32] ++ x)
def com : List UInt8 := [44, 32]
def txtOf (T : Nd) (L : List (List UInt8)) : List UInt8 :=
 if T.kind = 31 ∨ T.kind = 34 then tx T
 else if T.kind = 32 then textL (valI T.neg T.mag)
 else if T.kind = 33 then quoteL (pieces (tx T))
 else if T.kind = 23 then sepL com L
 else if T.kind = 35 then (if L.length = 1 then [40] ++ gl L 0 ++ [44, 41] else [40] ++ sepL com L ++ [41])
 else if T.kind = 36 then [91] ++ sepL com L ++ [93]
 else if T.kind = 37 ∨ T.kind = 38 then [123] ++ sepL com L ++ [125]
 else if T.kind = 39 then gl L 0 ++ [58, 32] ++ gl L 1
 else if T.kind = 40 then [42, 42] ++ gl L 0
 else if T.kind = 41 then [91] ++ gl L 0 ++ behindL L ++ [93]
 else if T.kind = 42 ∨ T.kind = 43 then [123] ++ gl L 0 ++ behindL L ++ [125]
 else if T.kind = 44 then [40] ++ gl L 0 ++ [32, 105, 102, 32] ++ gl L 1 ++ [32, 101, 108, 115, 101, 32] ++ gl L 2 ++ [41]
 else if T.kind = 45 then [40] ++ gl L 0 ++ [32, 111, 114, 32] ++ gl L 1 ++ [41]
 else if T.kind = 46 then [40] ++ gl L 0 ++ [32, 97, 110, 100, 32] ++ gl L 1 ++ [41]
 else if T.kind = 48 ∨ T.kind = 49 then [40] ++ gl L 0 ++ [32] ++ tx T ++ [32] ++ gl L 1 ++ [41]
 else if T.kind = 47 then [40, 110, 111, 116, 32] ++ gl L 0 ++ [41]
 else if T.kind = 50 then [40, 45] ++ gl L 0 ++ [41]
 else if T.kind = 51 then gl L 0 ++ [40] ++ sepL com (L.drop 1) ++ [41]
 else if T.kind = 52 then tx T ++ [61] ++ gl L 0
 else if T.kind = 54 then gl L 0 ++ [91] ++ gl L 1 ++ [93]
 else match T.kids with
  | [] => []
  | q :: _ => if q.kind = 32 then [40] ++ gl L 0 ++ [41, 46] ++ tx T else gl L 0 ++ [46] ++ tx T
mutual
def Nd.txt : Nd → List UInt8
 | .mk k a t b m ks => txtOf (.mk k a t b m ks) (txts ks)
def txts : List Nd → List (List UInt8)
 | [] => []
 | t :: r => t.txt :: txts r
end
theorem txts_map : ∀ l : List Nd, txts l = l.map Nd.txt
 | [] => rfl
 | t :: r => by rw [txts, txts_map r, List.map_cons]
theorem txt_eq (T : Nd) : T.txt = txtOf T (T.kids.map Nd.txt) := by
 cases T; rw [Nd.txt, txts_map]; rfl
def ba (l : List UInt8) : ByteArray := ⟨l.toArray⟩
mutual
def okN : Nd → Prop
 | .mk _ _ _ _ m ks => (∀ z ∈ m, 0 ≤ z ∧ z < 4294967296) ∧ okNs ks
def okNs : List Nd → Prop
 | [] => True
 | t :: r => okN t ∧ okNs r
end
theorem okN_eq (T : Nd) : okN T ↔ (∀ z ∈ T.mag, 0 ≤ z ∧ z < 4294967296) ∧ okNs T.kids := by cases T; rw [okN]; rfl
theorem okNs_mem : ∀ {l : List Nd}, okNs l → ∀ t ∈ l, okN t
 | a :: r, h, t, ht => by
  rw [okNs] at h
  rcases List.mem_cons.1 ht with rfl | ht
  ·exact h.1
  ·exact okNs_mem h.2 t ht
def total : List (List UInt8) → Nat
 | [] => 0
 | a :: r => a.length + total r
theorem gl_total (L : List (List UInt8)) : (gl L 0).length + (gl L 1).length + (gl L 2).length + total (L.drop 3) = total L := by
 match L with
 | [] => rfl
 | [a] => simp [gl, total]
 | [a, b] => simp [gl, total]
 | a :: b :: c :: r => simp [gl, total]; omega
theorem gl_total1 (L : List (List UInt8)) : (gl L 0).length + total (L.drop 1) = total L := by
 match L with
 | [] => rfl
 | a :: r => simp [gl, total]
theorem flat_total (s : List UInt8) (L : List (List UInt8)) : (L.flatMap (fun x => s ++ x)).length = total L + s.length * L.length := by
 induction L with
 | nil => simp [total]
 | cons a r ih => rw [List.flatMap_cons, length_append, length_append, ih, total, length_cons, Nat.mul_succ]; omega
theorem sep_total (s : List UInt8) (L : List (List UInt8)) : (sepL s L).length ≤ total L + s.length * L.length := by
 cases L with
 | nil => simp [sepL, total]
 | cons a r => rw [sepL, length_append, flat_total, total, length_cons, Nat.mul_succ]; omega
theorem drop_len (L : List (List UInt8)) (k : Nat) : (L.drop k).length ≤ L.length := by rw [List.length_drop]; omega
theorem dec_len {zs : List Int} (h : W32 zs) : (decB (val zs).natAbs).length ≤ 10 * zs.length := by
 have h1 := val_bound h
 have h2 := val_nn h
 have h3 : (4294967296 : Int) ^ zs.length = ((4294967296 ^ zs.length : Nat) : Int) := (Int.natCast_pow 4294967296 zs.length).symm
 have h4 : (4294967296 : Nat) ^ zs.length ≤ 10 ^ (10 * zs.length) := by
  rw [Nat.pow_mul]; exact Nat.pow_le_pow_left lq16 _
 rw [decB_any _ (10 * zs.length) lq17, List.length_map]
 refine Nat.le_trans (List.dropWhile_sublist _).length_le ?_
 rw [digs_length]
 exact Nat.le_refl _
theorem textL_len (b : Bool) {zs : List Int} (h : W32 zs) : (textL (valI b zs)).length ≤ 10 * zs.length + 1 := by
 have h1 := dec_len h
 have h2 : (valI b zs).natAbs = (val zs).natAbs := by unfold valI; cases b <;> simp
 unfold textL
 split
 ·simp
 ·split
  ·rw [length_cons, h2]; omega
  ·rw [h2]; omega
theorem txtOf_len (T : Nd) (L : List (List UInt8)) (h : W32 T.mag) : (txtOf T L).length ≤ total L + 6 * L.length + 6 * T.text.size + 10 * T.mag.length + 24 := by
 have ht : (tx T).length = T.text.size := by simp [tx]
 have hq : (quoteL (pieces (tx T))).length = ((pieces (tx T)).flatMap quotedL).length + 2 := by simp [quoteL]
 have hq2 := (quoteds_len (pieces (tx T))).2
 have hq3 := pieces_len (tx T)
 have hn := textL_len T.neg h
 have h3 := gl_total L
 have h1 := gl_total1 L
 have hs := sep_total com L
 have hs1 := sep_total com (L.drop 1)
 have hd1 := drop_len L 1
 have hd3 := drop_len L 3
 have hf := flat_total [32, 105, 102, 32] (L.drop 3)
 have hc : com.length = 2 := rfl
 rw [hc] at hs hs1
 have hb : (behindL L).length = 5 + (gl L 1).length + 4 + (gl L 2).length + (total (L.drop 3) + 4 * (L.drop 3).length) := by
  unfold behindL; simp only [length_append, hf, length_cons, length_nil]
 unfold txtOf
 by_cases c0 : T.kind = 31 ∨ T.kind = 34
 ·rw [if_pos c0]; (try simp only [length_append, length_cons, length_nil]); omega
 rw [if_neg c0]
 by_cases c1 : T.kind = 32
 ·rw [if_pos c1]; (try simp only [length_append, length_cons, length_nil]); omega
 rw [if_neg c1]
 by_cases c2 : T.kind = 33
 ·rw [if_pos c2]; (try simp only [length_append, length_cons, length_nil]); omega
 rw [if_neg c2]
 by_cases c3 : T.kind = 23
 ·rw [if_pos c3]; (try simp only [length_append, length_cons, length_nil]); omega
 rw [if_neg c3]
 by_cases c4 : T.kind = 35
 ·rw [if_pos c4]
  by_cases c : L.length = 1
  ·rw [if_pos c]; (try simp only [length_append, length_cons, length_nil]); omega
  ·rw [if_neg c]; (try simp only [length_append, length_cons, length_nil]); omega
 rw [if_neg c4]
 by_cases c5 : T.kind = 36
 ·rw [if_pos c5]; (try simp only [length_append, length_cons, length_nil]); omega
 rw [if_neg c5]
 by_cases c6 : T.kind = 37 ∨ T.kind = 38
 ·rw [if_pos c6]; (try simp only [length_append, length_cons, length_nil]); omega
 rw [if_neg c6]
 by_cases c7 : T.kind = 39
 ·rw [if_pos c7]; (try simp only [length_append, length_cons, length_nil]); omega
 rw [if_neg c7]
 by_cases c8 : T.kind = 40
 ·rw [if_pos c8]; (try simp only [length_append, length_cons, length_nil]); omega
 rw [if_neg c8]
 by_cases c9 : T.kind = 41
 ·rw [if_pos c9]; (try simp only [length_append, length_cons, length_nil]); omega
 rw [if_neg c9]
 by_cases c10 : T.kind = 42 ∨ T.kind = 43
 ·rw [if_pos c10]; (try simp only [length_append, length_cons, length_nil]); omega
 rw [if_neg c10]
 by_cases c11 : T.kind = 44
 ·rw [if_pos c11]; (try simp only [length_append, length_cons, length_nil]); omega
 rw [if_neg c11]
 by_cases c12 : T.kind = 45
 ·rw [if_pos c12]; (try simp only [length_append, length_cons, length_nil]); omega
 rw [if_neg c12]
 by_cases c13 : T.kind = 46
 ·rw [if_pos c13]; (try simp only [length_append, length_cons, length_nil]); omega
 rw [if_neg c13]
 by_cases c14 : T.kind = 48 ∨ T.kind = 49
 ·rw [if_pos c14]; (try simp only [length_append, length_cons, length_nil]); omega
 rw [if_neg c14]
 by_cases c15 : T.kind = 47
 ·rw [if_pos c15]; (try simp only [length_append, length_cons, length_nil]); omega
 rw [if_neg c15]
 by_cases c16 : T.kind = 50
 ·rw [if_pos c16]; (try simp only [length_append, length_cons, length_nil]); omega
 rw [if_neg c16]
 by_cases c17 : T.kind = 51
 ·rw [if_pos c17]; (try simp only [length_append, length_cons, length_nil]); omega
 rw [if_neg c17]
 by_cases c18 : T.kind = 52
 ·rw [if_pos c18]; (try simp only [length_append, length_cons, length_nil]); omega
 rw [if_neg c18]
 by_cases c19 : T.kind = 54
 ·rw [if_pos c19]; (try simp only [length_append, length_cons, length_nil]); omega
 rw [if_neg c19]
 cases hks : T.kids with
 | nil => simp
 | cons q r =>
  by_cases c : q.kind = 32
  ·simp only [if_pos c]; (try simp only [length_append, length_cons, length_nil]); omega
  ·simp only [if_neg c]; (try simp only [length_append, length_cons, length_nil]); omega
theorem total_map (l : List Nd) (h : ∀ t ∈ l, t.txt.length + 32 ≤ 64 * t.weight) : total (l.map Nd.txt) + 32 * l.length ≤ 64 * weights l := by
 induction l with
 | nil => simp [total]
 | cons a r ih =>
  have h1 := h a (List.mem_cons_self ..); have h2 := ih (fun t ht => h t (List.mem_cons_of_mem _ ht)); rw [List.map_cons, total, weights, length_cons]
  omega
theorem txt_len (T : Nd) : okN T → T.txt.length + 32 ≤ 64 * T.weight := by
 induction T using Nd.ind with
 | h T ih =>
  intro ho; rw [okN_eq] at ho; have hk := total_map T.kids (fun t ht => ih t ht (okNs_mem ho.2 t ht)); have hw : W32 T.mag := fun z hz => by have := ho.1 z hz; omega
  have hl := txtOf_len T (T.kids.map Nd.txt) hw; rw [List.length_map] at hl; rw [txt_eq, T.weight_eq]
  omega
def Te (T : Nd) : Prop := T.right = true ∧ (31 ≤ T.kind ∨ T.kind = 23)
def Ex (T : Nd) : Prop := T.right = true ∧ 31 ≤ T.kind
theorem Ex.te {T : Nd} (h : Ex T) : Te T := ⟨h.1, .inl h.2⟩
theorem ev_ex {t : Nd} (h : Sh.expr.ev Nd.right t = true) : Ex t := by
 simp only [Sh.ev, Bool.and_eq_true, decide_eq_true_eq] at h
 exact ⟨h.2, h.1.2⟩
theorem ev_tgt {t : Nd} (h : Sh.target.ev Nd.right t = true) : Ex t := by
 simp only [Sh.ev, isTargetK, Bool.and_eq_true, Bool.or_eq_true, beq_iff_eq] at h
 exact ⟨h.2, by omega⟩
end
section
open Go.RowKit Go.Shelf
open List (length_append length_cons length_nil length_singleton)
theorem byteCells_append (a b : List UInt8) : Lib.byteCells (a ++ b) = Lib.byteCells a ++ Lib.byteCells b := by simp [Lib.byteCells]
end
end Go.Proofs.YtjndbcnmmnkilaaGreatDoor
