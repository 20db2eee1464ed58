/- Joined by a program: Wr5. -/
import Derived.Test.YtjefhdlncikhmaaGreatDoorPT23
import Derived.Test.YtjefhdlncikhmaaGreatDoorPT24
namespace Go.Proofs.YtjefhdlncikhmaaGreatDoor
set_option linter.unusedVariables false
set_option linter.unusedSimpArgs false
set_option maxRecDepth 1000000
set_option maxHeartbeats 16000000
section
open Go.RowKit
open List (length_append length_cons length_nil length_singleton)
theorem repeat_pad : ∀ n, Lib.repeatL [32] n = padL n
 | 0 => rfl
 | n + 1 => by
  have := repeat_pad n; simp only [Lib.repeatL, padL, List.replicate_succ] at this ⊢; rw [this]; rfl
theorem wHead_ok (B X dep : Nat) (l p : List UInt8) (L : List ByteArray) (n : Nat) (A : Option Addr) (w : World) (h : WrT B X dep l w) (hn : L.length = n) (hS : StrsW w X A L) (hp : (L.flatMap fun s => s.data.toList) = p) (hnm : n ≤ 1000) (hdep : dep ≤ 1000000) (hlen : l.length + dep + p.length ≤ 1000000000000) (hBw : B ≤ w.heap.size) :
  Calls Tryz.prog 80 #[.pointer (some ⟨X, 0, none⟩), .slice A n n] w fun e w' => e = .returned (.tuple #[]) ∧ WrT B X dep (l ++ (padL dep ++ p)) w' ∧ WK B X w w' := by
 have hpl : (padL dep).length = dep := by simp [padL]
 have HRep := Lh (Tryz.strings_Repeat ⟨#[32]⟩ dep w lq29 (by show 1 * dep ≤ _; omega))
 have c2 := Wr.cell2 h
 have hlX := WrT.lt h
 have hX := h.le
 have HP := Lh hp
 have HS := Lh hS
 have HN := Lh hn
 have HH := Lh h
 clear hp hS hn h
 go_enter Tryz.func80, Tryz.ntmps80
 go_wp2_with fail
 go_at_call 140
 refine HRep.out.mono ?_
 rintro e w1 ⟨rfl, hb1⟩
 have hw1 : WrT B X dep l w1 := HH.out.later hb1
 have hk1 : WK B X w w1 := WK.of_below hb1 hBw
 go_wp2_with fail
 have hWa := hw1.alloc (.cells #[.string { data := (Lib.repeatL [32] dep).toArray }] 9)
 have hKa := hk1.alloc (Nat.le_trans hBw hk1.b.size) (.cells #[.string { data := (Lib.repeatL [32] dep).toArray }] 9)
 go_at_call 84
 refine (wSayT_ok B X dep l (padL dep) [{ data := (Lib.repeatL [32] dep).toArray }] 1 _ _ hWa rfl (WrT.lt hw1) (heap_alloc_new _ _) (by simp [repeat_pad]) lq28 lq29 (Nat.le_trans hBw hKa.b.size)).mono ?_
 rintro e w2 ⟨rfl, hw2, hk2⟩
 have hK2 := hKa.trans hk2
 have hL2 := HS.out.kept hK2
 go_wp2_with fail
 go_at_call 84
 refine (wSay_ok B X dep _ L n n A w2 hw2 HN.out hL2 (Nat.le_refl _) lq24 (by rw [Lib.byteCells_length, totalS_flat, HP.out, length_append]; omega) (Nat.le_trans hBw hK2.b.size)).mono ?_
 rintro e w3 ⟨rfl, hw3, hk3⟩
 go_wp2_with fail
 go_end0
 refine ⟨rfl, ?_, hK2.trans hk3⟩
 have : Lib.byteCells (l ++ (padL dep ++ p)) = Lib.byteCells (l ++ padL dep) ++ L.flatMap Lib.strCells := by rw [strCells_flat, HP.out, ← byteCells_append, List.append_assoc]
 unfold WrT
 rw [this]
 exact hw3
def Mb (q : Nd) : Prop := q.kind = 0 ∨ Ex q
theorem wWord_ok (D : Nat) (w0 : World) (X dep : Nat) (hE : EOk D w0 X dep) (s : ByteArray) (T : Nd) (hT : Mb T) (hD : T.depth ≤ D) (hWt : T.weight ≤ 1000000) (A : Option Addr) (c : Nat) (K : Option Addr) (d : Nat) (l0 : List UInt8) (w : World) (hN : NodeAt w0 T A c K d) (hBs : Below w0.heap.size w0 w) (hW : WrT w0.heap.size X dep l0 w) (hlen : l0.length + (s.data.toList ++ maybeL T).length ≤ 1000000000000) :
  Calls Tryz.prog 148 #[.pointer (some ⟨X, 0, none⟩), .string s, ndV T A c K d] w fun e w' => e = .returned (.tuple #[]) ∧ WrT w0.heap.size X dep (l0 ++ (s.data.toList ++ maybeL T)) w' ∧ WK w0.heap.size X w w' := by
 by_cases hk : T.kind = 0
 ·obtain ⟨hm1, hm2, hrm, hw32, hk1, hk2, hk64, ha64, hts', hKs⟩ := hN.parts; have hk2' := hk2; unfold maxLen at hm2 hk2 hts'; obtain ⟨hk64a, hk64b⟩ := hk64; obtain ⟨ha64a, ha64b⟩ := ha64; have hB0 : w0.heap.size ≤ w.heap.size := hBs.size; have hbX : X < w.heap.size := WrT.lt hW; have hK0 : WK w0.heap.size X w (w.alloc (bx T.kind T A c K d)) := (WK.refl _ _ _).alloc hB0 _; have hWb := hW.alloc (bx T.kind T A c K d); have hBb : Below w0.heap.size w0 (w.alloc (bx T.kind T A c K d)) := hBs.trans hK0.b; have hbx := heap_alloc_new w (bx T.kind T A c K d)
  have hsg : (w.alloc (bx T.kind T A c K d)).heap.size = w.heap.size + 1 := by simp
  have e1 : (T.kind != 0) = false := by simp [hk]
  have HTX := Lh (show maybeL T = [] by rw [maybeL, if_pos hk]); rw [HTX.out] at hlen; have HLN := Lh hlen; clear hKs hN hlen hE hT hD hWt hrm hw32 hk; obtain ⟨c0, c1, c2, c3, c4, c5⟩ := (cells_box hbx).box; have hlb := blt c0; have hlX := WrT.lt hWb; unfold ndV; go_enter Tryz.func148, Tryz.ntmps148; go_wp2_with fail; have hWa := hWb.alloc (.cells #[.string s] 9); have hKa := hK0.alloc (Nat.le_trans hB0 hK0.b.size) (.cells #[.string s] 9); have hbxa := (Lib.alloc_old _ (.cells #[.string s] 9) _ hlb).trans hbx
  go_at_call 84
  refine (wSayT_ok w0.heap.size X dep _ (s.data.toList) [s] 1 (w.heap.size + 1) _ hWa rfl lq17 lq19 lq30 lq28 lq8 (Nat.le_trans hB0 hKa.b.size)).mono ?_
  exact lv120
 ·obtain ⟨hm1, hm2, hrm, hw32, hk1, hk2, hk64, ha64, hts', hKs⟩ := hN.parts; have hk2' := hk2; unfold maxLen at hm2 hk2 hts'; obtain ⟨hk64a, hk64b⟩ := hk64; obtain ⟨ha64a, ha64b⟩ := ha64; have hB0 : w0.heap.size ≤ w.heap.size := hBs.size; have hbX : X < w.heap.size := WrT.lt hW; have hK0 : WK w0.heap.size X w (w.alloc (bx T.kind T A c K d)) := (WK.refl _ _ _).alloc hB0 _; have hWb := hW.alloc (bx T.kind T A c K d); have hBb : Below w0.heap.size w0 (w.alloc (bx T.kind T A c K d)) := hBs.trans hK0.b; have hbx := heap_alloc_new w (bx T.kind T A c K d)
  have hsg : (w.alloc (bx T.kind T A c K d)).heap.size = w.heap.size + 1 := by simp
  have e1 : (T.kind != 0) = true := by simp [hk]
  have HTX := Lh (show maybeL T = [32] ++ T.txt by rw [maybeL, if_neg hk]); have HF := Lh (hE T (hT.resolve_left hk) hD hWt); have HNT := Lh hN; rw [HTX.out] at hlen; have HLN := Lh hlen; clear hKs hN hlen hE hT hD hWt hrm hw32 hk; obtain ⟨c0, c1, c2, c3, c4, c5⟩ := (cells_box hbx).box; have hlb := blt c0; have hlX := WrT.lt hWb; unfold ndV; go_enter Tryz.func148, Tryz.ntmps148; go_wp2_with fail; have hWa := hWb.alloc (.cells #[.string s] 9); have hKa := hK0.alloc (Nat.le_trans hB0 hK0.b.size) (.cells #[.string s] 9); have hbxa := (Lib.alloc_old _ (.cells #[.string s] 9) _ hlb).trans hbx
  go_at_call 84
  refine (wSayT_ok w0.heap.size X dep _ (s.data.toList) [s] 1 (w.heap.size + 1) _ hWa rfl lq17 lq19 lq30 lq28 lq8 (Nat.le_trans hB0 hKa.b.size)).mono ?_
  rintro e w_1 ⟨rfl, hW_1, hk_1⟩; have hK_1 := hKa.trans hk_1; have hbx := box_keep hk_1 hbxa hbX; have hB_1 : Below w0.heap.size w0 w_1 := hBs.trans hK_1.b; obtain ⟨c0, c1, c2, c3, c4, c5⟩ := (cells_box hbx).box; have hlb := blt c0; have hlX := WrT.lt hW_1; go_wp2_with fail; have hWa := hW_1.alloc (.cells #[.string { data := #[32] }] 9); have hKa := hK_1.alloc (Nat.le_trans hB0 hK_1.b.size) (.cells #[.string { data := #[32] }] 9); have hbxa := (Lib.alloc_old _ (.cells #[.string { data := #[32] }] 9) _ hlb).trans hbx
  go_at_call 84
  refine (wSayT_ok w0.heap.size X dep _ ([32]) [⟨#[32]⟩] 1 _ _ hWa rfl (WrT.lt hW_1) (heap_alloc_new _ _) rfl lq28 lq8 (Nat.le_trans hB0 hKa.b.size)).mono ?_
  rintro e w_2 ⟨rfl, hW_2, hk_2⟩; have hK_2 := hKa.trans hk_2; have hbx := box_keep hk_2 hbxa hbX; have hB_2 : Below w0.heap.size w0 w_2 := hBs.trans hK_2.b; obtain ⟨c0, c1, c2, c3, c4, c5⟩ := (cells_box hbx).box; have hlb := blt c0; have hlX := WrT.lt hW_2; go_wp2_with fail; have hI := HF.out A c K d _ _ HNT.out hB_2 hW_2 lq8; unfold ndV at hI
  go_at_call 81
  refine hI.mono ?_
  rintro e w_3 ⟨rfl, hW_3, hk_3⟩; have hK_3 := hK_2.trans hk_3; have hbx := box_keep hk_3 hbx hbX; clear hI; have hB_3 : Below w0.heap.size w0 w_3 := hBs.trans hK_3.b; obtain ⟨c0, c1, c2, c3, c4, c5⟩ := (cells_box hbx).box; have hlb := blt c0; exact lv159
theorem wParam_ok (D : Nat) (w0 : World) (X dep : Nat) (hE : EOk D w0 X dep) (T : Nd) (hk : T.kind = 19) (hT : T.right = true) (hD : T.depth ≤ D + 1) (hWt : T.weight ≤ 1000000) : FSays 86 w0 X dep parL T := by
 intro A c K d l0 w hN hBs hW hlen
 have hpq : T.kids = [] ∨ ∃ q, T.kids = [q] ∧ Mb q := by
  rw [param_eq hk] at hT; simp only [Bool.and_eq_true, Bool.or_eq_true, beq_iff_eq] at hT
  rcases hT.2 with h | h
  ·exact .inl (List.length_eq_zero_iff.1 h)
  ·match hks : T.kids with
   | [] => exact .inl rfl
   | [q] =>
    exact lv156
   | a :: b :: r => rw [hks] at h; simp [rowB] at h
 rcases hpq with hks | ⟨q, hks, hmb⟩
 ·have el : ((T.kids.length : Int) == 0) = true := by rw [hks]; rfl
  have hts : parL T = [42, 42] ++ tx T := by rw [parL, hks]
  rw [hts] at hlen; have HTX := Lh hts; have HLN := Lh hlen; obtain ⟨hm1, hm2, hrm, hw32, hk1, hk2, hk64, ha64, hts', hKs⟩ := hN.parts; have hk2' := hk2; unfold maxLen at hm2 hk2 hts'; obtain ⟨hk64a, hk64b⟩ := hk64; obtain ⟨ha64a, ha64b⟩ := ha64; have hB0 : w0.heap.size ≤ w.heap.size := hBs.size; have hbX : X < w.heap.size := WrT.lt hW; have hK0 : WK w0.heap.size X w (w.alloc (bx T.kind T A c K d)) := (WK.refl _ _ _).alloc hB0 _; have hWb := hW.alloc (bx T.kind T A c K d); have hBb : Below w0.heap.size w0 (w.alloc (bx T.kind T A c K d)) := hBs.trans hK0.b
  have hbx := heap_alloc_new w (bx T.kind T A c K d); have hsg : (w.alloc (bx T.kind T A c K d)).heap.size = w.heap.size + 1 := by simp
  clear hKs hN hlen hE hT hD hWt hrm hw32 hk hts hks ; obtain ⟨c0, c1, c2, c3, c4, c5⟩ := (cells_box hbx).box; have hlb := blt c0; have hlX := WrT.lt hWb; unfold ndV; go_enter Tryz.func86, Tryz.ntmps86; go_wp2_with fail; have hWa := hWb.alloc (.cells #[.string { data := #[42, 42] }, .string (T.text)] 9); have hKa := hK0.alloc (Nat.le_trans hB0 hK0.b.size) (.cells #[.string { data := #[42, 42] }, .string (T.text)] 9); have hbxa := (Lib.alloc_old _ (.cells #[.string { data := #[42, 42] }, .string (T.text)] 9) _ hlb).trans hbx
  go_at_call 84
  refine (wSayT_ok w0.heap.size X dep _ ([42, 42] ++ tx T) [⟨#[42, 42]⟩, T.text] 2 (w.heap.size + 1) _ hWa rfl lq17 lq19 (by simp [tx]) lq28 lq8 (Nat.le_trans hB0 hKa.b.size)).mono ?_
  exact lv120
 ·by_cases hq0 : q.kind = 0
  ·have el : ((T.kids.length : Int) == 0) = false := by rw [hks]; rfl
   have hg0 : T.kids[0]? = some q := by rw [hks]; rfl
   obtain ⟨b, off, A0, c0', K0, d0, hKe0, hC0, hN0⟩ := hN.kid hg0; rw [Nat.zero_mul, Nat.add_zero] at hC0; subst hKe0; have i0 : (0 : Int) < (T.kids.length : Int) := by rw [hks]; simp
   have i0' : 0 < T.kids.length := by rw [hks]; simp
   have eq0 : (q.kind == 0) = true := by simpa using hq0
   have hts : parL T = tx T := by rw [parL, hks]; simp [hq0]
   rw [hts] at hlen; have HTX := Lh hts; have HLN := Lh hlen; obtain ⟨hm1, hm2, hrm, hw32, hk1, hk2, hk64, ha64, hts', hKs⟩ := hN.parts; have hk2' := hk2; unfold maxLen at hm2 hk2 hts'; obtain ⟨hk64a, hk64b⟩ := hk64; obtain ⟨ha64a, ha64b⟩ := ha64; have hB0 : w0.heap.size ≤ w.heap.size := hBs.size; have hbX : X < w.heap.size := WrT.lt hW; have hK0 : WK w0.heap.size X w (w.alloc (bx T.kind T A c (some ⟨b, off, none⟩) d)) := (WK.refl _ _ _).alloc hB0 _; have hWb := hW.alloc (bx T.kind T A c (some ⟨b, off, none⟩) d)
   have hBb : Below w0.heap.size w0 (w.alloc (bx T.kind T A c (some ⟨b, off, none⟩) d)) := hBs.trans hK0.b; have hbx := heap_alloc_new w (bx T.kind T A c (some ⟨b, off, none⟩) d); have hsg : (w.alloc (bx T.kind T A c (some ⟨b, off, none⟩) d)).heap.size = w.heap.size + 1 := by simp
   clear hKs hN hlen hE hT hD hWt hrm hw32 hk hts hks hg0 hN0 hq0 hmb; obtain ⟨c0, c1, c2, c3, c4, c5⟩ := (cells_box hbx).box; have hlb := blt c0; obtain ⟨n00, n01, n02, n03, n04, n05⟩ := hC0.later hBb; have hlk0 := blt n00; have hlX := WrT.lt hWb; unfold ndV; go_enter Tryz.func86, Tryz.ntmps86; go_wp2_with fail; have hWa := hWb.alloc (.cells #[.string (T.text)] 9); have hKa := hK0.alloc (Nat.le_trans hB0 hK0.b.size) (.cells #[.string (T.text)] 9); have hbxa := (Lib.alloc_old _ (.cells #[.string (T.text)] 9) _ hlb).trans hbx
   go_at_call 84
   refine (wSayT_ok w0.heap.size X dep _ (tx T) [T.text] 1 (w.heap.size + 1) _ hWa rfl lq17 lq19 (by simp [tx]) lq28 lq8 (Nat.le_trans hB0 hKa.b.size)).mono ?_
   rintro e w_1 ⟨rfl, hW_1, hk_1⟩; have hK_1 := hKa.trans hk_1; have hbx := box_keep hk_1 hbxa hbX; have hB_1 : Below w0.heap.size w0 w_1 := hBs.trans hK_1.b; obtain ⟨c0, c1, c2, c3, c4, c5⟩ := (cells_box hbx).box; have hlb := blt c0; obtain ⟨n00, n01, n02, n03, n04, n05⟩ := hC0.later hB_1; have hlk0 := blt n00; exact lv158
  ·have el : ((T.kids.length : Int) == 0) = false := by rw [hks]; rfl
   have hg0 : T.kids[0]? = some q := by rw [hks]; rfl
   obtain ⟨b, off, A0, c0', K0, d0, hKe0, hC0, hN0⟩ := hN.kid hg0; rw [Nat.zero_mul, Nat.add_zero] at hC0; subst hKe0; have i0 : (0 : Int) < (T.kids.length : Int) := by rw [hks]; simp
   have i0' : 0 < T.kids.length := by rw [hks]; simp
   have eq0 : (q.kind == 0) = false := by simpa using hq0
   have hts : parL T = tx T ++ [61] ++ q.txt := by rw [parL, hks]; simp [hq0]
   have hd0 := wKM hD hWt q (mog hg0); have HF0 := Lh (hE q (hmb.resolve_left hq0) hd0.1 hd0.2); have HN0 := Lh hN0; clear hd0; rw [hts] at hlen; have HTX := Lh hts; have HLN := Lh hlen; obtain ⟨hm1, hm2, hrm, hw32, hk1, hk2, hk64, ha64, hts', hKs⟩ := hN.parts; have hk2' := hk2; unfold maxLen at hm2 hk2 hts'; obtain ⟨hk64a, hk64b⟩ := hk64; obtain ⟨ha64a, ha64b⟩ := ha64; have hB0 : w0.heap.size ≤ w.heap.size := hBs.size; have hbX : X < w.heap.size := WrT.lt hW; have hK0 : WK w0.heap.size X w (w.alloc (bx T.kind T A c (some ⟨b, off, none⟩) d)) := (WK.refl _ _ _).alloc hB0 _
   have hWb := hW.alloc (bx T.kind T A c (some ⟨b, off, none⟩) d); have hBb : Below w0.heap.size w0 (w.alloc (bx T.kind T A c (some ⟨b, off, none⟩) d)) := hBs.trans hK0.b; have hbx := heap_alloc_new w (bx T.kind T A c (some ⟨b, off, none⟩) d); have hsg : (w.alloc (bx T.kind T A c (some ⟨b, off, none⟩) d)).heap.size = w.heap.size + 1 := by simp
   clear hKs hN hlen hE hT hD hWt hrm hw32 hk hts hks hg0 hN0 hq0 hmb; obtain ⟨c0, c1, c2, c3, c4, c5⟩ := (cells_box hbx).box; have hlb := blt c0; obtain ⟨n00, n01, n02, n03, n04, n05⟩ := hC0.later hBb; have hlk0 := blt n00; have hlX := WrT.lt hWb; unfold ndV; go_enter Tryz.func86, Tryz.ntmps86; exact lv34
def St (T : Nd) : Prop := Sh.stmt.ev Nd.right T = true
def LOk (D : Nat) (w0 : World) (X : Nat) : Prop := ∀ dep, dep + D ≤ 1000000 → ∀ t, St t → t.depth ≤ D → t.weight ≤ 1000000 → FSays 47 w0 X dep (fun t => t.lin dep) t
theorem blk_kids {T : Nd} (h : (Sh.of 2).ev Nd.right T = true) : ∀ t ∈ T.kids, St t := by
 have hk : T.kind = 2 := by
  simp only [Sh.ev, Bool.and_eq_true, beq_iff_eq] at h; exact h.1
 rw [ev_of hk (tx := .non) (fm := .some 0 .stmt) rfl lq28] at h
 simp only [Fm.ev, Bool.and_eq_true] at h
 exact fun t ht => List.all_eq_true.1 h.2.2 t ht
theorem blk_lin {T : Nd} (h : T.kind = 2) (n : Nat) : T.lin n = (T.kids.map Nd.lin).flatMap (fun y => y n) := by rw [lin_eq, linOf, if_pos h]
theorem flat_lin_take {l : List Nd} {k : Nat} {t : Nd} (h : l[k]? = some t) (n : Nat) : ((l.take (k + 1)).map Nd.lin).flatMap (fun y => y n) = ((l.take k).map Nd.lin).flatMap (fun y => y n) ++ t.lin n := by
 obtain ⟨hk, rfl⟩ := List.getElem?_eq_some_iff.1 h
 rw [List.take_succ_eq_append_getElem hk, List.map_append, List.flatMap_append]
 simp
theorem flat_lin_le (l : List Nd) (k n : Nat) : (((l.take k).map Nd.lin).flatMap (fun y => y n)).length ≤ ((l.map Nd.lin).flatMap (fun y => y n)).length := by
 have : (l.map Nd.lin).flatMap (fun y => y n) = ((l.take k).map Nd.lin).flatMap (fun y => y n) ++ ((l.drop k).map Nd.lin).flatMap (fun y => y n) := by
  rw [← List.flatMap_append, ← List.map_append, List.take_append_drop]
 rw [this, length_append]
 omega
theorem wBlock_ok (D : Nat) (w0 : World) (X dep : Nat) (hdp : dep + D ≤ 1000000) (hL : LOk D w0 X) (T : Nd) (hT : (Sh.of 2).ev Nd.right T = true) (hD : T.depth ≤ D + 1) (hWt : T.weight ≤ 1000000) : FSays 31 w0 X dep (fun t => t.lin dep) T := by
 intro A c K d l0 w hN hBs hW hlen
 have hkd2 : T.kind = 2 := by simp only [Sh.ev, Bool.and_eq_true, beq_iff_eq] at hT; exact hT.1
 have hlin := blk_lin hkd2 dep
 have hlen : l0.length + (T.lin dep).length ≤ 1000000000000 := hlen
 rw [hlin] at hlen
 have HTX := Lh hlin
 have HLN := Lh hlen
 have HF := Lh (fun (t : Nd) (ht : t ∈ T.kids) => hL dep hdp t (blk_kids hT t ht) (wKM hD hWt t ht).1 (wKM hD hWt t ht).2)
 obtain ⟨hm1, hm2, hrm, hw32, hk1, hk2, hk64, ha64, hts', hKs⟩ := hN.parts
 have hk2' := hk2
 unfold maxLen at hm2 hk2 hts'
 obtain ⟨hk64a, hk64b⟩ := hk64
 obtain ⟨ha64a, ha64b⟩ := ha64
 have hB0 : w0.heap.size ≤ w.heap.size := hBs.size
 have hbX : X < w.heap.size := WrT.lt hW
 have hK0 : WK w0.heap.size X w (w.alloc (bx T.kind T A c K d)) := (WK.refl _ _ _).alloc hB0 _
 have hWb := hW.alloc (bx T.kind T A c K d)
 have hBb : Below w0.heap.size w0 (w.alloc (bx T.kind T A c K d)) := hBs.trans hK0.b
 have hbx := heap_alloc_new w (bx T.kind T A c K d)
 have hsg : (w.alloc (bx T.kind T A c K d)).heap.size = w.heap.size + 1 := by simp
 have HK := Lh hKs
 clear hKs hN hlen hL hT hD hWt hrm hw32 hkd2 hlin
 obtain ⟨c0, c1, c2, c3, c4, c5⟩ := (cells_box hbx).box
 have hlb := blt c0
 unfold ndV
 go_enter Tryz.func31, Tryz.ntmps31
 go_wp2_with fail
 go_loopw [9] (fun iv wr => ∃ k : Nat, iv = .int .i64 k ∧ k ≤ T.kids.length ∧ Hid (WrT w0.heap.size X dep (l0 ++ ((T.kids.take k).map Nd.lin).flatMap (fun y => y dep)) wr) ∧ Hid (WK w0.heap.size X w wr)) (fun iv _ => T.kids.length - (intOf iv).toNat)
 case atStart => exact ⟨0, rfl, Nat.zero_le _, Lh (hWb.eq lq30), Lh hK0⟩
 case round =>
  obtain ⟨k, rfl, hk, hR, hbr⟩ := hrel
  by_cases hkl : k < T.kids.length
  ·have o1 : decide ((k : Int) < (T.kids.length : Int)) = true := dTo; have o2 : decide (k < T.kids.length) = true := dTr hkl; obtain ⟨t, ht⟩ : ∃ t, T.kids[k]? = some t := ⟨_, List.getElem?_eq_getElem hkl⟩; obtain ⟨b, off, A', c', K', d', hKe, hC, hNt⟩ := HK.out.kid ht; rw [Nat.zero_add] at hC; subst hKe; have hbw : Below w0.heap.size w0 wr := hBs.trans hbr.out.b; obtain ⟨m0, m1, m2, m3, m4, m5⟩ := hC.later hbw; have hbn := blt m0; have hXw : X < wr.heap.size := hR.out.lt; have hst := flat_lin_take ht dep; have hle := flat_lin_le T.kids (k + 1) dep
   have hbt := (Below.refl wr.heap.size wr).alloc (Nat.le_refl _) (.cells #[.int .i64 t.kind, .int .i64 t.pos, .string t.text, .bool t.neg, .slice A' t.mag.length c', .slice K' t.kids.length d'] 27); have hkt : WK w0.heap.size X wr (wr.alloc (.cells #[.int .i64 t.kind, .int .i64 t.pos, .string t.text, .bool t.neg, .slice A' t.mag.length c', .slice K' t.kids.length d'] 27)) := (WK.refl _ _ _).alloc hbw.size _; have hRt := hR.out.alloc (.cells #[.int .i64 t.kind, .int .i64 t.pos, .string t.text, .bool t.neg, .slice A' t.mag.length c', .slice K' t.kids.length d'] 27)
   obtain ⟨z0, z1, z2, z3, z4, z5⟩ := (cells_box (heap_alloc_new wr (.cells #[.int .i64 t.kind, .int .i64 t.pos, .string t.text, .bool t.neg, .slice A' t.mag.length c', .slice K' t.kids.length d'] 27))).box; have hI := HF.out t (mog ht) A' c' K' d' _ _ hNt (hbw.trans (hbt.mono hbw.size)) hRt (by have h := HLN.out; rw [hst, length_append] at hle; show _ + (t.lin dep).length ≤ _; rw [length_append]; omega); unfold ndV at hI; have HST := Lh hst; have HKT := Lh hkt; clear hC hNt ht hst hle hbt hkt hRt hbw; go_wp2_with fail
   go_at_call 47
   refine hI.mono ?_
   rintro e w3 ⟨rfl, hw3, hk3⟩; clear hI; go_wp2_with fail
   go_roundw
   case rel => exact ⟨k + 1, by go_num, by omega, Lh (hw3.eq (by rw [HST.out, List.append_assoc])), Lh (hbr.out.trans (HKT.out.trans hk3))⟩
   case measure => simp [intOf]; omega
  ·have o1 : decide ((k : Int) < (T.kids.length : Int)) = false := dFo; have o2 : decide (k < T.kids.length) = false := dFa hkl; have hR2 := hR.out; rw [List.take_of_length_le lq29] at hR2; have HR2 := Lh hR2; clear hR2; go_wp2_with fail
   go_end0
   exact ⟨rfl, HR2.out.eq (by show _ = l0 ++ T.lin dep; rw [HTX.out]), hbr.out⟩
theorem wInner_ok (D : Nat) (w0 : World) (X dep : Nat) (hdp : dep + 1 + D ≤ 1000000) (hL : LOk D w0 X) (T : Nd) (hT : (Sh.of 2).ev Nd.right T = true) (hD : T.depth ≤ D + 1) (hWt : T.weight ≤ 1000000) : FSays 82 w0 X dep (fun t => [58, 10] ++ t.lin (dep + 1)) T := by
 intro A c K d l0 w hN hBs hW hlen
 have HLN := Lh (show l0.length + ([58, 10] ++ T.lin (dep + 1)).length ≤ 1000000000000 from hlen)
 have HF := Lh (wBlock_ok D w0 X (dep + 1) hdp hL T hT hD hWt)
 have HNT := Lh hN
 obtain ⟨hm1, hm2, hrm, hw32, hk1, hk2, hk64, ha64, hts', hKs⟩ := hN.parts
 have hk2' := hk2
 unfold maxLen at hm2 hk2 hts'
 obtain ⟨hk64a, hk64b⟩ := hk64
 obtain ⟨ha64a, ha64b⟩ := ha64
 have hB0 : w0.heap.size ≤ w.heap.size := hBs.size
 have hbX : X < w.heap.size := WrT.lt hW
 have hK0 : WK w0.heap.size X w (w.alloc (bx T.kind T A c K d)) := (WK.refl _ _ _).alloc hB0 _
 have hWb := hW.alloc (bx T.kind T A c K d)
 have hBb : Below w0.heap.size w0 (w.alloc (bx T.kind T A c K d)) := hBs.trans hK0.b
 have hbx := heap_alloc_new w (bx T.kind T A c K d)
 have hsg : (w.alloc (bx T.kind T A c K d)).heap.size = w.heap.size + 1 := by simp
 clear hKs hN hlen hL hT hD hWt hrm hw32
 obtain ⟨c0, c1, c2, c3, c4, c5⟩ := (cells_box hbx).box
 have hlb := blt c0
 have hlX := WrT.lt hWb
 unfold ndV
 go_enter Tryz.func82, Tryz.ntmps82
 go_wp2_with fail
 have hWa := hWb.alloc (.cells #[.string { data := #[58, 10] }] 9)
 have hKa := hK0.alloc (Nat.le_trans hB0 hK0.b.size) (.cells #[.string { data := #[58, 10] }] 9)
 have hbxa := (Lib.alloc_old _ (.cells #[.string { data := #[58, 10] }] 9) _ hlb).trans hbx
 go_at_call 84
 refine (wSayT_ok w0.heap.size X dep _ ([58, 10]) [⟨#[58, 10]⟩] 1 (w.heap.size + 1) _ hWa rfl lq17 lq19 rfl lq28 lq8 (Nat.le_trans hB0 hKa.b.size)).mono ?_
 rintro e w_1 ⟨rfl, hW_1, hk_1⟩
 have hK_1 := hKa.trans hk_1
 have hbx := box_keep hk_1 hbxa hbX
 have hB_1 : Below w0.heap.size w0 w_1 := hBs.trans hK_1.b
 obtain ⟨c0, c1, c2, c3, c4, c5⟩ := (cells_box hbx).box
 have hlb := blt c0
 have hlX := WrT.lt hW_1
 have x2 := Wr.cell2 hW_1
 have xf := Wr.frozen2 hW_1
 have hXle := WrT.le hW_1
 have hWd : WrT w0.heap.size X (dep + 1) _ (w_1.setCell ⟨X, 2, none⟩ (.int .i64 ((dep + 1 : Nat) : Int))) := Wr.deep hW_1 (dep + 1)
 rw [show ((dep + 1 : Nat) : Int) = (dep : Int) + 1 by omega] at hWd
 have hKd := hK_1.set hXle 2 (.int .i64 ((dep : Int) + 1))
 have hBd := hBs.trans hKd.b
 have hbxd : (w_1.setCell ⟨X, 2, none⟩ (.int .i64 ((dep : Int) + 1))).heap[w.heap.size]? = _ := box_keep ((WK.refl _ _ _).set hXle 2 _) hbx hbX
 obtain ⟨c0, c1, c2, c3, c4, c5⟩ := (cells_box hbxd).box
 have hlbd := blt c0
 have hI := HF.out A c K d _ _ HNT.out hBd hWd (by have h := HLN.out; simp only [length_append, length_cons, length_nil] at h ⊢; omega)
 unfold ndV at hI
 go_wp2_with fail
 go_at_call 31
 refine hI.mono ?_
 rintro e w3 ⟨rfl, hw3, hk3⟩
 clear hI
 have y2 := Wr.cell2 hw3
 have yf := Wr.frozen2 hw3
 rw [show ((dep + 1 : Nat) : Int) = (dep : Int) + 1 by omega] at y2
 have hlX3 := WrT.lt hw3
 have hWe : WrT w0.heap.size X dep _ (w3.setCell ⟨X, 2, none⟩ (.int .i64 ((dep : Nat) : Int))) := Wr.deep hw3 dep
 have hKe := (hKd.trans hk3).set hXle 2 (.int .i64 ((dep : Nat) : Int))
 go_wp2_with fail
 go_end0
 exact ⟨rfl, hWe.eq lq30, hKe⟩
end
end Go.Proofs.YtjefhdlncikhmaaGreatDoor
