/- Joined by a program: Wr3b, Wr3c, Wr3d. -/
import Derived.Test.YtjefhdlncikhmaaGreatDoorPT17
namespace Go.Proofs.YtjefhdlncikhmaaGreatDoor
set_option linter.unusedVariables false
set_option linter.unusedSimpArgs false
set_option maxRecDepth 1000000
set_option maxHeartbeats 16000000
section
open Go.RowKit
open List (length_append length_cons length_nil length_singleton)
theorem kids2' {l : List Nd} (h : l.length = 2) : ∃ a b, l = [a, b] := by
 match l, h with
 | [a, b], _ => exact ⟨a, b, rfl⟩
theorem wTwo_ok (bt : ByteArray) (l : List Nd) (n : Nat) (K : Option Addr) (d : Nat) (w0 : World) (X dep : Nat) (l0 : List UInt8) (w : World) (hn : l.length = n) (h2 : n = 2) (hl : KidsAt w0 l K 0) (hf : ∀ t ∈ l, FSays 81 w0 X dep Nd.txt t) (hnd : n ≤ d) (hd : d ≤ maxLen) (hBs : Below w0.heap.size w0 w) (hW : WrT w0.heap.size X dep l0 w) (p : List UInt8) (hp : p = [40] ++ gl (l.map Nd.txt) 0 ++ [32] ++ bt.data.toList ++ [32] ++ gl (l.map Nd.txt) 1 ++ [41]) (hlen : l0.length + p.length ≤ 1000000000000) :
  Calls Tryz.prog 145 #[.pointer (some ⟨X, 0, none⟩), .slice K n d, .string bt] w (fun e w' => e = .returned (.tuple #[]) ∧ WrT w0.heap.size X dep (l0 ++ (p)) w' ∧ WK w0.heap.size X w w') := by
 unfold maxLen at hd
 obtain ⟨t0, t1, hks⟩ := kids2' (l := l) lq29
 have hg0 : l[0]? = some t0 := by rw [hks]; rfl
 have hg1 : l[1]? = some t1 := by rw [hks]; rfl
 obtain ⟨b0, off0, A0, c0', K0, d0, hKe0, hC0, hN0⟩ := hl.kid hg0
 obtain ⟨b1, off1, A1, c1', K1, d1, hKe1, hC1, hN1⟩ := hl.kid hg1
 rw [Nat.zero_add, Nat.zero_mul, Nat.add_zero] at hC0
 rw [Nat.zero_add, Nat.one_mul] at hC1
 subst hKe0
 injection hKe1 with e1
 injection e1 with e1 e2
 subst e1 e2
 have HF0 := Lh (hf t0 (by rw [hks]; simp))
 have HF1 := Lh (hf t1 (by rw [hks]; simp))
 rw [hks] at hp
 have HTX := Lh (show p = [40] ++ t0.txt ++ [32] ++ bt.data.toList ++ [32] ++ t1.txt ++ [41] from hp)
 have HLN := Lh (show l0.length + ([40] ++ t0.txt ++ [32] ++ bt.data.toList ++ [32] ++ t1.txt ++ [41]).length ≤ 1000000000000 by rw [← HTX.out]; exact hlen)
 have HN0 := Lh hN0
 have HN1 := Lh hN1
 have i0 : (0 : Int) < (n : Int) := by omega
 have i0' : 0 < n := by omega
 have i1 : (1 : Int) < (n : Int) := by omega
 have i1' : 1 < n := by omega
 clear hl hf hp hlen hg0 hg1 hks hN0 hN1 hn h2
 have hB0 : w0.heap.size ≤ w.heap.size := hBs.size
 have hK0 : WK w0.heap.size X w w := WK.refl _ _ _
 have hlX := WrT.lt hW
 obtain ⟨n00, n01, n02, n03, n04, n05⟩ := hC0.later hBs
 have hlk0 := blt n00
 obtain ⟨n10, n11, n12, n13, n14, n15⟩ := hC1.later hBs
 have hlk1 := blt n10
 have hlX := WrT.lt hW
 go_enter Tryz.func145, Tryz.ntmps145
 go_wp2_with fail
 have hWa := hW.alloc (.cells #[.string { data := #[40] }] 9)
 have hKa := hK0.alloc (Nat.le_trans hB0 hK0.b.size) (.cells #[.string { data := #[40] }] 9)
 have hbxa : True := trivial
 go_at_call 84
 refine (wSayT_ok w0.heap.size X dep _ ([40]) [⟨#[40]⟩] 1 _ _ hWa rfl (WrT.lt hW) (heap_alloc_new _ _) rfl lq28 lq13 (Nat.le_trans hB0 hKa.b.size)).mono ?_
 rintro e w_1 ⟨rfl, hW_1, hk_1⟩
 have hK_1 := hKa.trans hk_1
 have hB_1 : Below w0.heap.size w0 w_1 := hBs.trans hK_1.b
 obtain ⟨n00, n01, n02, n03, n04, n05⟩ := hC0.later hB_1
 have hlk0 := blt n00
 obtain ⟨n10, n11, n12, n13, n14, n15⟩ := hC1.later hB_1
 have hlk1 := blt n10
 have hlX := WrT.lt hW_1
 go_wp2_with fail
 have hI := HF0.out A0 c0' K0 d0 _ w_1 HN0.out hB_1 hW_1 lq13
 unfold ndV at hI
 go_at_call 81
 refine hI.mono ?_
 rintro e w_2 ⟨rfl, hW_2, hk_2⟩
 have hK_2 := hK_1.trans hk_2
 clear hI
 have hB_2 : Below w0.heap.size w0 w_2 := hBs.trans hK_2.b
 obtain ⟨n00, n01, n02, n03, n04, n05⟩ := hC0.later hB_2
 have hlk0 := blt n00
 obtain ⟨n10, n11, n12, n13, n14, n15⟩ := hC1.later hB_2
 have hlk1 := blt n10
 have hlX := WrT.lt hW_2
 go_wp2_with fail
 have hWa := hW_2.alloc (.cells #[.string { data := #[32] }, .string bt, .string { data := #[32] }] 9)
 have hKa := hK_2.alloc (Nat.le_trans hB0 hK_2.b.size) (.cells #[.string { data := #[32] }, .string bt, .string { data := #[32] }] 9)
 have hbxa : True := trivial
 go_at_call 84
 refine (wSayT_ok w0.heap.size X dep _ ([32] ++ bt.data.toList ++ [32]) [⟨#[32]⟩, bt, ⟨#[32]⟩] 3 _ _ hWa rfl (WrT.lt hW_2) (heap_alloc_new _ _) (by simp []) lq28 lq13 (Nat.le_trans hB0 hKa.b.size)).mono ?_
 rintro e w_3 ⟨rfl, hW_3, hk_3⟩
 have hK_3 := hKa.trans hk_3
 have hB_3 : Below w0.heap.size w0 w_3 := hBs.trans hK_3.b
 obtain ⟨n00, n01, n02, n03, n04, n05⟩ := hC0.later hB_3
 have hlk0 := blt n00
 obtain ⟨n10, n11, n12, n13, n14, n15⟩ := hC1.later hB_3
 have hlk1 := blt n10
 have hlX := WrT.lt hW_3
 go_wp2_with fail
 have hI := HF1.out A1 c1' K1 d1 _ w_3 HN1.out hB_3 hW_3 lq13
 unfold ndV at hI
 go_at_call 81
 refine hI.mono ?_
 rintro e w_4 ⟨rfl, hW_4, hk_4⟩
 have hK_4 := hK_3.trans hk_4
 clear hI
 have hB_4 : Below w0.heap.size w0 w_4 := hBs.trans hK_4.b
 obtain ⟨n00, n01, n02, n03, n04, n05⟩ := hC0.later hB_4
 have hlk0 := blt n00
 obtain ⟨n10, n11, n12, n13, n14, n15⟩ := hC1.later hB_4
 have hlk1 := blt n10
 have hlX := WrT.lt hW_4
 go_wp2_with fail
 have hWa := hW_4.alloc (.cells #[.string { data := #[41] }] 9)
 have hKa := hK_4.alloc (Nat.le_trans hB0 hK_4.b.size) (.cells #[.string { data := #[41] }] 9)
 have hbxa : True := trivial
 go_at_call 84
 refine (wSayT_ok w0.heap.size X dep _ ([41]) [⟨#[41]⟩] 1 _ _ hWa rfl (WrT.lt hW_4) (heap_alloc_new _ _) rfl lq28 lq13 (Nat.le_trans hB0 hKa.b.size)).mono ?_
 rintro e w_5 ⟨rfl, hW_5, hk_5⟩
 have hK_5 := hKa.trans hk_5
 have hB_5 : Below w0.heap.size w0 w_5 := hBs.trans hK_5.b
 obtain ⟨n00, n01, n02, n03, n04, n05⟩ := hC0.later hB_5
 have hlk0 := blt n00
 obtain ⟨n10, n11, n12, n13, n14, n15⟩ := hC1.later hB_5
 have hlk1 := blt n10
 have hlX := WrT.lt hW_5
 go_wp2_with fail
 go_end0
 exact ⟨rfl, hW_5.eq (by rw [HTX.out]; simp only [List.append_assoc]), hK_5⟩
def TOk (D : Nat) (w0 : World) (X dep : Nat) : Prop := ∀ t, Te t → t.depth ≤ D → t.weight ≤ 1000000 → FSays 83 w0 X dep Nd.txt t
theorem txt_23 {T : Nd} (h : T.kind = 23) : T.txt = sepL com (T.kids.map Nd.txt) := by
 rw [txt_eq, txtOf, h]
 simp
theorem tgt_kids {T : Nd} (h : Te T) (hk : T.kind = 23) : ∀ t ∈ T.kids, Ex t := by
 have hr := h.1
 rw [right_at hk (tx := .non) (fm := .some 2 .target) rfl lq28] at hr
 simp only [Fm.ev, Bool.and_eq_true] at hr
 intro t ht
 exact ev_tgt (List.all_eq_true.1 hr.2.2 t ht)
theorem wTargets_ok (D : Nat) (w0 : World) (X dep : Nat) (hE : EOk D w0 X dep) : TOk D w0 X dep := by
 intro T hT hD hWt A c K d l0 w hN hBs hW hlen
 have hNw := hN.later hBs
 have hB0 : w0.heap.size ≤ w.heap.size := hBs.size
 have hXw := WrT.lt hW
 have hK0 : WK w0.heap.size X w (w.alloc (bx T.kind T A c K d)) := (WK.refl _ _ _).alloc hB0 _
 have hWb := hW.alloc (bx T.kind T A c K d)
 have hBb : Below w0.heap.size w0 (w.alloc (bx T.kind T A c K d)) := hBs.trans hK0.b
 by_cases hk : T.kind = 23
 ·have e1 : (T.kind != 23) = false := by simp [hk]
  have HTX := Lh (txt_23 hk); have hts := txt_23 hk; rw [hts] at hlen; have HLS := Lh (wList_ok 81 run_expr w0 X dep Nd.txt l0 T.kids T.kids.length K d _ rfl hN.parts.2.2.2.2.2.2.2.2.2 (fun t ht => hE t (tgt_kids hT hk t ht) (by have := Nd.depth_kid ht; omega) (by have := Nd.weight_kid ht; omega)) hN.parts.2.2.2.2.1 hN.parts.2.2.2.2.2.1 hBb hWb hlen); have HK0 := Lh hK0; clear hE hT hD hts hk hNw hlen hK0 hWb hBb hW; obtain ⟨hm1, hm2, hrm, hw32, hk1, hk2, ⟨hk64a, hk64b⟩, ⟨ha64a, ha64b⟩, hts, hKs, HK⟩ := hN.hd; obtain ⟨hb1, c0, c1, c2, c3, c4, c5⟩ := bxn w T A c K d; unfold ndV; clear hKs hN
  go_enter Tryz.func83, Tryz.ntmps83; go_wp2_with (go_at_call 85; refine HLS.out.mono ?_; rintro e w3 ⟨rfl, hw3, hk3⟩)
  go_end0
  exact ⟨rfl, hw3.eq (by rw [HTX.out]), HK0.out.trans hk3⟩
 ·have e1 : (T.kind != 23) = true := by simp [hk]
  have hEx : Ex T := ⟨hT.1, hT.2.resolve_right hk⟩; have hI := hE T hEx hD hWt A c K d l0 _ hN hBb hWb hlen; unfold ndV at hI; have HI := Lh hI; have HK0 := Lh hK0; clear hE hT hD hk hEx hI hNw hlen hK0 hWb hBb hW; obtain ⟨hm1, hm2, hrm, hw32, hk1, hk2, ⟨hk64a, hk64b⟩, ⟨ha64a, ha64b⟩, hts, hKs, HK⟩ := hN.hd; obtain ⟨hb1, c0, c1, c2, c3, c4, c5⟩ := bxn w T A c K d; unfold ndV; clear hKs hN; go_enter Tryz.func83, Tryz.ntmps83; go_wp2_with (go_at_call 81; refine HI.out.mono ?_; rintro e w3 ⟨rfl, hw3, hk3⟩)
  ((try simp only [Exit.inBlock, Exit.then]); first | refine bodyPost_end (results_none rfl _ _ _) rfl ?_ | refine bodyPost_ret (results_none rfl _ _ _) rfl ?_)
  exact ⟨rfl, hw3, HK0.out.trans hk3⟩
theorem kids3' {l : List Nd} (h : 3 ≤ l.length) : ∃ a b c, l[0]? = some a ∧ l[1]? = some b ∧ l[2]? = some c := by
 match l, h with
 | a :: b :: c :: r, _ => exact ⟨a, b, c, rfl, rfl, rfl⟩
theorem flat_if_take {L : List (List UInt8)} {k : Nat} {x : List UInt8} (h : L[k]? = some x) : (L.take (k + 1)).flatMap (fun x => [32, 105, 102, 32] ++ x) = (L.take k).flatMap (fun x => [32, 105, 102, 32] ++ x) ++ ([32, 105, 102, 32] ++ x) := by
 obtain ⟨hk, rfl⟩ := List.getElem?_eq_some_iff.1 h
 rw [List.take_succ_eq_append_getElem hk, List.flatMap_append]
 simp
theorem flat_if_le (L : List (List UInt8)) (k : Nat) : ((L.take k).flatMap (fun x => [32, 105, 102, 32] ++ x)).length ≤ (L.flatMap (fun x => [32, 105, 102, 32] ++ x)).length := by
 have h2 : (L.flatMap fun x => [32, 105, 102, 32] ++ x).length = ((L.take k).flatMap fun x => [32, 105, 102, 32] ++ x).length + ((L.drop k).flatMap fun x => [32, 105, 102, 32] ++ x).length := by
  rw [← length_append, ← List.flatMap_append, List.take_append_drop]
 omega
theorem gl_map {l : List Nd} {i : Nat} {t : Nd} (h : l[i]? = some t) : gl (l.map Nd.txt) i = t.txt := by
 simp [gl, List.getD, h]
theorem wComp_ok (D : Nat) (op sh : ByteArray) (l : List Nd) (n : Nat) (K : Option Addr) (d : Nat) (w0 : World) (X dep : Nat) (l0 : List UInt8) (w : World) (hn : l.length = n) (h3 : 3 ≤ n) (hl : KidsAt w0 l K 0) (hTg : TOk D w0 X dep) (hE : EOk D w0 X dep) (hte : ∀ t ∈ l, Te t) (hex : ∀ t ∈ l.take 1 ++ l.drop 2, Ex t) (hWi : WithinM D l) (hnd : n ≤ d) (hd : d ≤ maxLen) (hBs : Below w0.heap.size w0 w) (hW : WrT w0.heap.size X dep l0 w) (p : List UInt8) (hp : p = op.data.toList ++ gl (l.map Nd.txt) 0 ++ behindL (l.map Nd.txt) ++ sh.data.toList) (hlen : l0.length + p.length ≤ 1000000000000) :
  Calls Tryz.prog 144 #[.pointer (some ⟨X, 0, none⟩), .string op, .slice K n d, .string sh] w (fun e w' => e = .returned (.tuple #[]) ∧ WrT w0.heap.size X dep (l0 ++ (p)) w' ∧ WK w0.heap.size X w w') := by
 unfold maxLen at hd
 obtain ⟨t0, t1, t2, hg0, hg1, hg2⟩ := kids3' (l := l) lq29
 obtain ⟨b0, off0, A0, c0', K0, d0, hKe0, hC0, hN0⟩ := hl.kid hg0
 obtain ⟨b1, off1, A1, c1', K1, d1, hKe1, hC1, hN1⟩ := hl.kid hg1
 obtain ⟨b2, off2, A2, c2', K2, d2, hKe2, hC2, hN2⟩ := hl.kid hg2
 rw [Nat.zero_add, Nat.zero_mul, Nat.add_zero] at hC0
 rw [Nat.zero_add, Nat.one_mul] at hC1
 rw [Nat.zero_add, show 2 * 6 = 12 from rfl] at hC2
 subst hKe0
 injection hKe1 with e1
 injection e1 with e1 e2
 subst e1 e2
 injection hKe2 with e1
 injection e1 with e1 e2
 subst e1 e2
 have m0 := mog hg0
 have m1 := mog hg1
 have m2 := mog hg2
 have x0 : t0 ∈ l.take 1 ++ l.drop 2 := List.mem_append_left _ (by rw [List.mem_iff_getElem?]; exact ⟨0, by rw [List.getElem?_take_of_lt lq29]; exact hg0⟩)
 have x2 : t2 ∈ l.take 1 ++ l.drop 2 := List.mem_append_right _ (by rw [List.mem_iff_getElem?]; exact ⟨0, by rw [List.getElem?_drop]; exact hg2⟩)
 have HF0 := Lh (hE t0 (hex t0 x0) (hWi t0 m0).1 (hWi t0 m0).2)
 have HF1 := Lh (hTg t1 (hte t1 m1) (hWi t1 m1).1 (hWi t1 m1).2)
 have HF2 := Lh (hE t2 (hex t2 x2) (hWi t2 m2).1 (hWi t2 m2).2)
 have hgl0 := gl_map hg0
 have hgl1 := gl_map hg1
 have hgl2 := gl_map hg2
 have hp2 : p = op.data.toList ++ t0.txt ++ [32, 102, 111, 114, 32] ++ t1.txt ++ [32, 105, 110, 32] ++ t2.txt ++ ((l.map Nd.txt).drop 3).flatMap (fun x => [32, 105, 102, 32] ++ x) ++ sh.data.toList := by
  rw [hp, behindL, hgl0, hgl1, hgl2]; simp only [List.append_assoc]
 have HTX := Lh hp2
 have HLN := Lh (show l0.length + (op.data.toList ++ t0.txt ++ [32, 102, 111, 114, 32] ++ t1.txt ++ [32, 105, 110, 32] ++ t2.txt ++ ((l.map Nd.txt).drop 3).flatMap (fun x => [32, 105, 102, 32] ++ x) ++ sh.data.toList).length ≤ 1000000000000 by rw [← hp2]; exact hlen)
 have HN0 := Lh hN0
 have HN1 := Lh hN1
 have HN2 := Lh hN2
 have HL := Lh hl
 have HNn := Lh hn
 have HE := Lh (fun (k : Nat) (t : Nd) (ht : l[k + 3]? = some t) => hE t (hex t (List.mem_append_right _ (by rw [List.mem_iff_getElem?]; exact ⟨k + 1, by rw [List.getElem?_drop, show 2 + (k + 1) = k + 3 by omega]; exact ht⟩))) (hWi t (mog ht)).1 (hWi t (mog ht)).2)
 have i0 : (0 : Int) < (n : Int) := by omega
 have i0' : 0 < n := by omega
 have i1 : (1 : Int) < (n : Int) := by omega
 have i1' : 1 < n := by omega
 have i2 : (2 : Int) < (n : Int) := by omega
 have i2' : 2 < n := by omega
 have i3 : (3 : Int) ≤ (n : Int) := by omega
 have i4 : (3 : Int) ≤ (d : Int) := by omega
 have i5 : (n : Int) ≤ (d : Int) := by omega
 clear hl hp hp2 hlen hg0 hg1 hg2 hN0 hN1 hN2 hn hE hTg hte hex hWi m0 m1 m2 x0 x2 hgl0 hgl1 hgl2 h3
 have hB0 : w0.heap.size ≤ w.heap.size := hBs.size
 have hK0 : WK w0.heap.size X w w := WK.refl _ _ _
 have hlX := WrT.lt hW
 by_cases hd3 : d = 3
 ·subst hd3; obtain ⟨n00, n01, n02, n03, n04, n05⟩ := hC0.later hBs; have hlk0 := blt n00; obtain ⟨n10, n11, n12, n13, n14, n15⟩ := hC1.later hBs; have hlk1 := blt n10; obtain ⟨n20, n21, n22, n23, n24, n25⟩ := hC2.later hBs; have hlk2 := blt n20; have hlX := WrT.lt hW; go_enter Tryz.func144, Tryz.ntmps144; go_wp2_with fail; have hWa := hW.alloc (.cells #[.string op] 9); have hKa := hK0.alloc (Nat.le_trans hB0 hK0.b.size) (.cells #[.string op] 9); have hbxa : True := trivial
  go_at_call 84
  refine (wSayT_ok w0.heap.size X dep _ (op.data.toList) [op] 1 _ _ hWa rfl (WrT.lt hW) (heap_alloc_new _ _) lq30 lq28 lq13 (Nat.le_trans hB0 hKa.b.size)).mono ?_
  rintro e w_1 ⟨rfl, hW_1, hk_1⟩; have hK_1 := hKa.trans hk_1; have hB_1 : Below w0.heap.size w0 w_1 := hBs.trans hK_1.b; obtain ⟨n00, n01, n02, n03, n04, n05⟩ := hC0.later hB_1; have hlk0 := blt n00; obtain ⟨n10, n11, n12, n13, n14, n15⟩ := hC1.later hB_1; have hlk1 := blt n10; obtain ⟨n20, n21, n22, n23, n24, n25⟩ := hC2.later hB_1; have hlk2 := blt n20; have hlX := WrT.lt hW_1; go_wp2_with fail; have hI := HF0.out A0 c0' K0 d0 _ w_1 HN0.out hB_1 hW_1 lq13; unfold ndV at hI
  go_at_call 81
  refine hI.mono ?_
  rintro e w_2 ⟨rfl, hW_2, hk_2⟩; have hK_2 := hK_1.trans hk_2; clear hI; have hB_2 : Below w0.heap.size w0 w_2 := hBs.trans hK_2.b; obtain ⟨n00, n01, n02, n03, n04, n05⟩ := hC0.later hB_2; have hlk0 := blt n00; obtain ⟨n10, n11, n12, n13, n14, n15⟩ := hC1.later hB_2; have hlk1 := blt n10; obtain ⟨n20, n21, n22, n23, n24, n25⟩ := hC2.later hB_2; have hlk2 := blt n20; have hlX := WrT.lt hW_2; go_wp2_with fail; have hWa := hW_2.alloc (.cells #[.string { data := #[32, 102, 111, 114, 32] }] 9)
  have hKa := hK_2.alloc (Nat.le_trans hB0 hK_2.b.size) (.cells #[.string { data := #[32, 102, 111, 114, 32] }] 9); have hbxa : True := trivial
  go_at_call 84
  refine (wSayT_ok w0.heap.size X dep _ ([32, 102, 111, 114, 32]) [⟨#[32, 102, 111, 114, 32]⟩] 1 _ _ hWa rfl (WrT.lt hW_2) (heap_alloc_new _ _) rfl lq28 lq13 (Nat.le_trans hB0 hKa.b.size)).mono ?_
  rintro e w_3 ⟨rfl, hW_3, hk_3⟩; have hK_3 := hKa.trans hk_3; have hB_3 : Below w0.heap.size w0 w_3 := hBs.trans hK_3.b; obtain ⟨n00, n01, n02, n03, n04, n05⟩ := hC0.later hB_3; have hlk0 := blt n00; obtain ⟨n10, n11, n12, n13, n14, n15⟩ := hC1.later hB_3; have hlk1 := blt n10; obtain ⟨n20, n21, n22, n23, n24, n25⟩ := hC2.later hB_3; have hlk2 := blt n20; have hlX := WrT.lt hW_3; go_wp2_with fail; have hI := HF1.out A1 c1' K1 d1 _ w_3 HN1.out hB_3 hW_3 lq13; unfold ndV at hI
  go_at_call 83
  refine hI.mono ?_
  rintro e w_4 ⟨rfl, hW_4, hk_4⟩; have hK_4 := hK_3.trans hk_4; clear hI; have hB_4 : Below w0.heap.size w0 w_4 := hBs.trans hK_4.b; obtain ⟨n00, n01, n02, n03, n04, n05⟩ := hC0.later hB_4; have hlk0 := blt n00; obtain ⟨n10, n11, n12, n13, n14, n15⟩ := hC1.later hB_4; have hlk1 := blt n10; obtain ⟨n20, n21, n22, n23, n24, n25⟩ := hC2.later hB_4; have hlk2 := blt n20; have hlX := WrT.lt hW_4; go_wp2_with fail; have hWa := hW_4.alloc (.cells #[.string { data := #[32, 105, 110, 32] }] 9); have hKa := hK_4.alloc (Nat.le_trans hB0 hK_4.b.size) (.cells #[.string { data := #[32, 105, 110, 32] }] 9)
  have hbxa : True := trivial
  go_at_call 84
  refine (wSayT_ok w0.heap.size X dep _ ([32, 105, 110, 32]) [⟨#[32, 105, 110, 32]⟩] 1 _ _ hWa rfl (WrT.lt hW_4) (heap_alloc_new _ _) rfl lq28 lq13 (Nat.le_trans hB0 hKa.b.size)).mono ?_
  rintro e w_5 ⟨rfl, hW_5, hk_5⟩; have hK_5 := hKa.trans hk_5; have hB_5 : Below w0.heap.size w0 w_5 := hBs.trans hK_5.b; obtain ⟨n00, n01, n02, n03, n04, n05⟩ := hC0.later hB_5; have hlk0 := blt n00; obtain ⟨n10, n11, n12, n13, n14, n15⟩ := hC1.later hB_5; have hlk1 := blt n10; obtain ⟨n20, n21, n22, n23, n24, n25⟩ := hC2.later hB_5; have hlk2 := blt n20; have hlX := WrT.lt hW_5; go_wp2_with fail; have hI := HF2.out A2 c2' K2 d2 _ w_5 HN2.out hB_5 hW_5 lq13; unfold ndV at hI
  go_at_call 81
  refine hI.mono ?_
  rintro e w_6 ⟨rfl, hW_6, hk_6⟩; have hK_6 := hK_5.trans hk_6; clear hI; have hB_6 : Below w0.heap.size w0 w_6 := hBs.trans hK_6.b; obtain ⟨n00, n01, n02, n03, n04, n05⟩ := hC0.later hB_6; have hlk0 := blt n00; obtain ⟨n10, n11, n12, n13, n14, n15⟩ := hC1.later hB_6; have hlk1 := blt n10; obtain ⟨n20, n21, n22, n23, n24, n25⟩ := hC2.later hB_6; have hlk2 := blt n20; have hlX := WrT.lt hW_6; have HB7 := Lh hB_6; have HW7 := Lh hW_6; have HK7 := Lh hK_6; go_wp2_with fail
  go_loopw [38] (fun iv wr => ∃ k : Nat, iv = .int .i64 k ∧ k ≤ n - 3 ∧ Hid (WrT w0.heap.size X dep (l0 ++ op.data.toList ++ t0.txt ++ [32, 102, 111, 114, 32] ++ t1.txt ++ [32, 105, 110, 32] ++ t2.txt ++ (((l.map Nd.txt).drop 3).take k).flatMap (fun x => [32, 105, 102, 32] ++ x)) wr) ∧ Hid (WK w0.heap.size X w wr)) (fun iv _ => n - 3 - (intOf iv).toNat)
  case atStart => exact ⟨0, rfl, Nat.zero_le _, Lh (HW7.out.eq lq30), HK7⟩
  case round =>
   obtain ⟨k, rfl, hk, hR, hbr⟩ := hrel
   by_cases hkl : k < n - 3
   ·exfalso; omega
   ·exact lv67
 ·have i6 : ¬ d = 3 := hd3; obtain ⟨n00, n01, n02, n03, n04, n05⟩ := hC0.later hBs; have hlk0 := blt n00; obtain ⟨n10, n11, n12, n13, n14, n15⟩ := hC1.later hBs; have hlk1 := blt n10; obtain ⟨n20, n21, n22, n23, n24, n25⟩ := hC2.later hBs; have hlk2 := blt n20; have hlX := WrT.lt hW; go_enter Tryz.func144, Tryz.ntmps144; go_wp2_with fail; have hWa := hW.alloc (.cells #[.string op] 9); have hKa := hK0.alloc (Nat.le_trans hB0 hK0.b.size) (.cells #[.string op] 9); have hbxa : True := trivial
  go_at_call 84
  refine (wSayT_ok w0.heap.size X dep _ (op.data.toList) [op] 1 _ _ hWa rfl (WrT.lt hW) (heap_alloc_new _ _) lq30 lq28 lq13 (Nat.le_trans hB0 hKa.b.size)).mono ?_
  rintro e w_1 ⟨rfl, hW_1, hk_1⟩; have hK_1 := hKa.trans hk_1; have hB_1 : Below w0.heap.size w0 w_1 := hBs.trans hK_1.b; obtain ⟨n00, n01, n02, n03, n04, n05⟩ := hC0.later hB_1; have hlk0 := blt n00; obtain ⟨n10, n11, n12, n13, n14, n15⟩ := hC1.later hB_1; have hlk1 := blt n10; obtain ⟨n20, n21, n22, n23, n24, n25⟩ := hC2.later hB_1; have hlk2 := blt n20; have hlX := WrT.lt hW_1; go_wp2_with fail; have hI := HF0.out A0 c0' K0 d0 _ w_1 HN0.out hB_1 hW_1 lq13; unfold ndV at hI
  go_at_call 81
  refine hI.mono ?_
  rintro e w_2 ⟨rfl, hW_2, hk_2⟩; have hK_2 := hK_1.trans hk_2; clear hI; have hB_2 : Below w0.heap.size w0 w_2 := hBs.trans hK_2.b; obtain ⟨n00, n01, n02, n03, n04, n05⟩ := hC0.later hB_2; have hlk0 := blt n00; obtain ⟨n10, n11, n12, n13, n14, n15⟩ := hC1.later hB_2; have hlk1 := blt n10; obtain ⟨n20, n21, n22, n23, n24, n25⟩ := hC2.later hB_2; have hlk2 := blt n20; have hlX := WrT.lt hW_2; go_wp2_with fail; have hWa := hW_2.alloc (.cells #[.string { data := #[32, 102, 111, 114, 32] }] 9)
  have hKa := hK_2.alloc (Nat.le_trans hB0 hK_2.b.size) (.cells #[.string { data := #[32, 102, 111, 114, 32] }] 9); have hbxa : True := trivial
  go_at_call 84
  refine (wSayT_ok w0.heap.size X dep _ ([32, 102, 111, 114, 32]) [⟨#[32, 102, 111, 114, 32]⟩] 1 _ _ hWa rfl (WrT.lt hW_2) (heap_alloc_new _ _) rfl lq28 lq13 (Nat.le_trans hB0 hKa.b.size)).mono ?_
  rintro e w_3 ⟨rfl, hW_3, hk_3⟩; have hK_3 := hKa.trans hk_3; have hB_3 : Below w0.heap.size w0 w_3 := hBs.trans hK_3.b; obtain ⟨n00, n01, n02, n03, n04, n05⟩ := hC0.later hB_3; have hlk0 := blt n00; obtain ⟨n10, n11, n12, n13, n14, n15⟩ := hC1.later hB_3; have hlk1 := blt n10; obtain ⟨n20, n21, n22, n23, n24, n25⟩ := hC2.later hB_3; have hlk2 := blt n20; have hlX := WrT.lt hW_3; go_wp2_with fail; have hI := HF1.out A1 c1' K1 d1 _ w_3 HN1.out hB_3 hW_3 lq13; unfold ndV at hI
  go_at_call 83
  refine hI.mono ?_
  rintro e w_4 ⟨rfl, hW_4, hk_4⟩; have hK_4 := hK_3.trans hk_4; clear hI; have hB_4 : Below w0.heap.size w0 w_4 := hBs.trans hK_4.b; obtain ⟨n00, n01, n02, n03, n04, n05⟩ := hC0.later hB_4; have hlk0 := blt n00; obtain ⟨n10, n11, n12, n13, n14, n15⟩ := hC1.later hB_4; have hlk1 := blt n10; obtain ⟨n20, n21, n22, n23, n24, n25⟩ := hC2.later hB_4; have hlk2 := blt n20; have hlX := WrT.lt hW_4; go_wp2_with fail; have hWa := hW_4.alloc (.cells #[.string { data := #[32, 105, 110, 32] }] 9); have hKa := hK_4.alloc (Nat.le_trans hB0 hK_4.b.size) (.cells #[.string { data := #[32, 105, 110, 32] }] 9)
  have hbxa : True := trivial
  go_at_call 84
  refine (wSayT_ok w0.heap.size X dep _ ([32, 105, 110, 32]) [⟨#[32, 105, 110, 32]⟩] 1 _ _ hWa rfl (WrT.lt hW_4) (heap_alloc_new _ _) rfl lq28 lq13 (Nat.le_trans hB0 hKa.b.size)).mono ?_
  rintro e w_5 ⟨rfl, hW_5, hk_5⟩; have hK_5 := hKa.trans hk_5; have hB_5 : Below w0.heap.size w0 w_5 := hBs.trans hK_5.b; obtain ⟨n00, n01, n02, n03, n04, n05⟩ := hC0.later hB_5; have hlk0 := blt n00; obtain ⟨n10, n11, n12, n13, n14, n15⟩ := hC1.later hB_5; have hlk1 := blt n10; obtain ⟨n20, n21, n22, n23, n24, n25⟩ := hC2.later hB_5; have hlk2 := blt n20; have hlX := WrT.lt hW_5; go_wp2_with fail; have hI := HF2.out A2 c2' K2 d2 _ w_5 HN2.out hB_5 hW_5 lq13; unfold ndV at hI
  go_at_call 81
  refine hI.mono ?_
  rintro e w_6 ⟨rfl, hW_6, hk_6⟩; have hK_6 := hK_5.trans hk_6; clear hI; have hB_6 : Below w0.heap.size w0 w_6 := hBs.trans hK_6.b; obtain ⟨n00, n01, n02, n03, n04, n05⟩ := hC0.later hB_6; have hlk0 := blt n00; obtain ⟨n10, n11, n12, n13, n14, n15⟩ := hC1.later hB_6; have hlk1 := blt n10; obtain ⟨n20, n21, n22, n23, n24, n25⟩ := hC2.later hB_6; have hlk2 := blt n20; have hlX := WrT.lt hW_6; have HB7 := Lh hB_6; have HW7 := Lh hW_6; have HK7 := Lh hK_6; go_wp2_with fail
  go_loopw [38] (fun iv wr => ∃ k : Nat, iv = .int .i64 k ∧ k ≤ n - 3 ∧ Hid (WrT w0.heap.size X dep (l0 ++ op.data.toList ++ t0.txt ++ [32, 102, 111, 114, 32] ++ t1.txt ++ [32, 105, 110, 32] ++ t2.txt ++ (((l.map Nd.txt).drop 3).take k).flatMap (fun x => [32, 105, 102, 32] ++ x)) wr) ∧ Hid (WK w0.heap.size X w wr)) (fun iv _ => n - 3 - (intOf iv).toNat)
  case atStart => exact ⟨0, rfl, Nat.zero_le _, Lh (HW7.out.eq lq30), HK7⟩
  case round =>
   obtain ⟨k, rfl, hk, hR, hbr⟩ := hrel
   by_cases hkl : k < n - 3
   ·have o1 : decide ((k : Int) < (n : Int) - 3) = true := dTo; have o1' : decide ((k : Int) < ((n - 3 : Nat) : Int)) = true := dTo; have o2 : decide (k < n - 3) = true := dTr hkl; obtain ⟨t, ht⟩ : ∃ t, l[k + 3]? = some t := ⟨_, List.getElem?_eq_getElem (by rw [HNn.out]; omega)⟩; obtain ⟨b, off, A', c', K', d', hKe, hC, hNt⟩ := HL.out.kid ht; rw [Nat.zero_add, show off + (k + 3) * 6 = off + 18 + k * 6 by omega] at hC; injection hKe with hKe
    injection hKe with q1 q2
    subst q1 q2; have hbw : Below w0.heap.size w0 wr := hBs.trans hbr.out.b; obtain ⟨m0, m1, m2, m3, m4, m5⟩ := hC.later hbw; have hbn := blt m0; have hXw : X < wr.heap.size := hR.out.lt; have hmt : ((l.map Nd.txt).drop 3)[k]? = some t.txt := by rw [List.getElem?_drop, show 3 + k = k + 3 by omega, List.getElem?_map, ht]; rfl
    have hst := flat_if_take hmt; have hle := flat_if_le ((l.map Nd.txt).drop 3) (k + 1); have hlt2 : (l0 ++ op.data.toList ++ t0.txt ++ [32, 102, 111, 114, 32] ++ t1.txt ++ [32, 105, 110, 32] ++ t2.txt ++ (((l.map Nd.txt).drop 3).take k).flatMap (fun x => [32, 105, 102, 32] ++ x)).length + 4 + t.txt.length ≤ 1000000000000 := by
     have h := HLN.out; rw [hst, length_append, length_append] at hle; simp only [length_append, length_cons, length_nil] at h hle ⊢
     omega
    have hbt := (Below.refl wr.heap.size wr).alloc (Nat.le_refl _) (.cells #[.int .i64 t.kind, .int .i64 t.pos, .string t.text, .bool t.neg, .slice A' t.mag.length c', .slice K' t.kids.length d'] 27); have hkt : WK w0.heap.size X wr (wr.alloc (.cells #[.int .i64 t.kind, .int .i64 t.pos, .string t.text, .bool t.neg, .slice A' t.mag.length c', .slice K' t.kids.length d'] 27)) := (WK.refl _ _ _).alloc hbw.size _; have hRt := hR.out.alloc (.cells #[.int .i64 t.kind, .int .i64 t.pos, .string t.text, .bool t.neg, .slice A' t.mag.length c', .slice K' t.kids.length d'] 27)
    have hbox := heap_alloc_new wr (.cells #[.int .i64 t.kind, .int .i64 t.pos, .string t.text, .bool t.neg, .slice A' t.mag.length c', .slice K' t.kids.length d'] 27); obtain ⟨z0, z1, z2, z3, z4, z5⟩ := (cells_box hbox).box; have hFt := HE.out k t ht; have hRt2 := hRt.alloc (.cells #[.string { data := #[32, 105, 102, 32] }] 9); have hkt2 := hkt.alloc (Nat.le_trans hbw.size hkt.b.size) (.cells #[.string { data := #[32, 105, 102, 32] }] 9)
    have hsg : (wr.alloc (.cells #[.int .i64 t.kind, .int .i64 t.pos, .string t.text, .bool t.neg, .slice A' t.mag.length c', .slice K' t.kids.length d'] 27)).heap.size = wr.heap.size + 1 := by simp
    have hS := wSayT_ok w0.heap.size X dep _ [32, 105, 102, 32] [⟨#[32, 105, 102, 32]⟩] 1 (wr.heap.size + 1) _ hRt2 rfl lq29 lq19 rfl lq28 (by have : ([32, 105, 102, 32] : List UInt8).length = 4 := rfl; omega) (Nat.le_trans hbw.size hkt2.b.size); have HS := Lh hS
    have hbox2 : ((wr.alloc (.cells #[.int .i64 t.kind, .int .i64 t.pos, .string t.text, .bool t.neg, .slice A' t.mag.length c', .slice K' t.kids.length d'] 27)).alloc (.cells #[.string { data := #[32, 105, 102, 32] }] 9)).heap[wr.heap.size]? = some (.cells #[.int .i64 t.kind, .int .i64 t.pos, .string t.text, .bool t.neg, .slice A' t.mag.length c', .slice K' t.kids.length d'] 27 (0, 0)) := (Lib.alloc_old _ _ _ lq30).trans hbox; have HBX := Lh hbox2; have HFt := Lh hFt; have HNt := Lh hNt; have HBW := Lh hbw; have HKT := Lh hkt2; have HST := Lh hst; have HLT := Lh hlt2
    clear hS hC hNt ht hmt hst hle hbt hkt hRt hbox hFt hbw hRt2 hkt2 hbox2 hlt2 hsg; go_wp2_with fail
    go_at_call 84
    refine HS.out.mono ?_
    rintro e w2 ⟨rfl, hw2, hk2⟩; have hbx := box_keep hk2 HBX.out hXw; obtain ⟨y0, y1, y2, y3, y4, y5⟩ := (cells_box hbx).box; have hyl := blt y0; have hI := HFt.out A' c' K' d' _ w2 HNt.out (HBW.out.trans (HKT.out.trans hk2).b) hw2 (by have := HLT.out; have h4 : ([32, 105, 102, 32] : List UInt8).length = 4 := rfl; rw [length_append]; omega); unfold ndV at hI; have HI := Lh hI; clear hI; go_wp2_with fail
    go_at_call 81
    refine HI.out.mono ?_
    rintro e w3 ⟨rfl, hw3, hk3⟩; go_wp2_with fail
    go_roundw
    case rel => exact ⟨k + 1, by go_num, by omega, Lh (hw3.eq (by rw [HST.out]; simp only [List.append_assoc])), Lh (hbr.out.trans ((HKT.out.trans hk2).trans hk3))⟩
    case measure => simp [intOf]; omega
   ·exact lv67
end
end Go.Proofs.YtjefhdlncikhmaaGreatDoor
