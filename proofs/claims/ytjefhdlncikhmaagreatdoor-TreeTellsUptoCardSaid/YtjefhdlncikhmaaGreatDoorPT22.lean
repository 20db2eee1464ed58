/- Joined by a program: Wr4d, Wr4e, Wr4f. -/
import Derived.Test.YtjefhdlncikhmaaGreatDoorPT19
import Derived.Test.YtjefhdlncikhmaaGreatDoorPT20
namespace Go.Proofs.YtjefhdlncikhmaaGreatDoor
set_option linter.unusedVariables false
set_option linter.unusedSimpArgs false
set_option maxRecDepth 1000000
set_option maxHeartbeats 16000000
section
open Go.RowKit
open List (length_append length_cons length_nil length_singleton)
section
variable (D : Nat) (w0 : World) (X dep : Nat) (hE : EOk D w0 X dep) (hTg : TOk D w0 X dep) (T : Nd)
include D w0 X dep hE hTg T
theorem wp39 (hk : T.kind = 39) (hT : Ex T) (hD : T.depth ≤ D + 1) (hWt : T.weight ≤ 1000000) : FSays 146 w0 X dep Nd.txt T := by
 have _ := hTg
 intro A c K d l0 w hN hBs hW hlen
 have hlen3 : T.kids.length = 2 := len_row hk hT.1 (tx := .non) (L := [.expr, .expr]) rfl lq28
 obtain ⟨t0, t1, hks⟩ := kids_2 (l := T.kids) hlen3
 have hg0 : T.kids[0]? = some t0 := by rw [hks]; rfl
 obtain ⟨b, off, A0, c0', K0, d0, hKe0, hC0, hN0⟩ := hN.kid hg0
 have hg1 : T.kids[1]? = some t1 := by rw [hks]; rfl
 obtain ⟨b1, off1, A1, c1', K1, d1, hKe1, hC1, hN1⟩ := hN.kid hg1
 rw [Nat.zero_mul, Nat.add_zero] at hC0
 subst hKe0
 injection hKe1 with e1
 injection e1 with e1 e2
 subst e1 e2
 rw [show 1 * 6 = 6 from rfl] at hC1
 have hd0 : t0.depth ≤ D ∧ t0.weight ≤ 1000000 := wKM hD hWt t0 (mog hg0)
 have HF0 := Lh (hE t0 (ex_kids hT lq29 lq29 lq29 t0 (mog hg0)) hd0.1 hd0.2)
 have HN0 := Lh hN0
 have i0 : (0 : Int) < (T.kids.length : Int) := by omega
 have i0' : 0 < T.kids.length := by omega
 have hd1 : t1.depth ≤ D ∧ t1.weight ≤ 1000000 := wKM hD hWt t1 (mog hg1)
 have HF1 := Lh (hE t1 (ex_kids hT lq29 lq29 lq29 t1 (mog hg1)) hd1.1 hd1.2)
 have HN1 := Lh hN1
 have i1 : (1 : Int) < (T.kids.length : Int) := by omega
 have i1' : 1 < T.kids.length := by omega
 have hts : T.txt = t0.txt ++ [58, 32] ++ t1.txt := by rw [txt_eq, hks]; simp [txtOf, hk, gl]
 have HTX := Lh hts
 have HLN := Lh (show l0.length + (t0.txt ++ [58, 32] ++ t1.txt).length ≤ 1000000000000 by rw [← hts]; exact hlen)
 have z39 : (T.kind == 39) = true := by rw [hk]; rfl
 obtain ⟨z40, z52, z44, z47, z50, z51, z53, z54⟩ := kz8 hk 40 52 44 47 50 51 53 54 rfl
 obtain ⟨hm1, hm2, hrm, hw32, hk1, hk2, hk64, ha64, hts', hKs⟩ := hN.parts
 have hk2' := hk2
 unfold maxLen at hm2 hk2 hts'
 obtain ⟨hk64a, hk64b⟩ := hk64
 obtain ⟨ha64a, ha64b⟩ := ha64
 have hB0 : w0.heap.size ≤ w.heap.size := hBs.size
 have hbX : X < w.heap.size := WrT.lt hW
 have hK0 : WK w0.heap.size X w (w.alloc (bx T.kind T A c (some ⟨b, off, none⟩) d)) := (WK.refl _ _ _).alloc hB0 _
 have hWb := hW.alloc (bx T.kind T A c (some ⟨b, off, none⟩) d)
 have hBb : Below w0.heap.size w0 (w.alloc (bx T.kind T A c (some ⟨b, off, none⟩) d)) := hBs.trans hK0.b
 have hbx := heap_alloc_new w (bx T.kind T A c (some ⟨b, off, none⟩) d)
 have hsg : (w.alloc (bx T.kind T A c (some ⟨b, off, none⟩) d)).heap.size = w.heap.size + 1 := by simp
 clear hKs hN hlen hE hTg hT hD hWt hrm hw32 hk hts hks hlen3 hg0 hN0 hd0 hg1 hN1 hd1
 obtain ⟨c0, c1, c2, c3, c4, c5⟩ := (cells_box hbx).box
 have hlb := blt c0
 obtain ⟨n00, n01, n02, n03, n04, n05⟩ := hC0.later hBb
 have hlk0 := blt n00
 obtain ⟨n10, n11, n12, n13, n14, n15⟩ := hC1.later hBb
 have hlk1 := blt n10
 have hlX := WrT.lt hWb
 unfold ndV
 go_enter Tryz.func146, Tryz.ntmps146
 go_wp2_with fail
 have hI := HF0.out A0 c0' K0 d0 _ _ HN0.out hBb hWb lq8
 unfold ndV at hI
 go_at_call 81
 refine hI.mono ?_
 rintro e w_1 ⟨rfl, hW_1, hk_1⟩
 have hK_1 := hK0.trans hk_1
 have hbx := box_keep hk_1 hbx hbX
 clear hI
 have hB_1 : Below w0.heap.size w0 w_1 := hBs.trans hK_1.b
 obtain ⟨c0, c1, c2, c3, c4, c5⟩ := (cells_box hbx).box
 have hlb := blt c0
 obtain ⟨n00, n01, n02, n03, n04, n05⟩ := hC0.later hB_1
 have hlk0 := blt n00
 obtain ⟨n10, n11, n12, n13, n14, n15⟩ := hC1.later hB_1
 have hlk1 := blt n10
 have hlX := WrT.lt hW_1
 go_wp2_with fail
 have hWa := hW_1.alloc (.cells #[.string { data := #[58, 32] }] 9)
 have hKa := hK_1.alloc (Nat.le_trans hB0 hK_1.b.size) (.cells #[.string { data := #[58, 32] }] 9)
 have hbxa := (Lib.alloc_old _ (.cells #[.string { data := #[58, 32] }] 9) _ hlb).trans hbx
 go_at_call 84
 refine (wSayT_ok w0.heap.size X dep _ ([58, 32]) [⟨#[58, 32]⟩] 1 _ _ hWa rfl (WrT.lt hW_1) (heap_alloc_new _ _) rfl lq28 lq8 (Nat.le_trans hB0 hKa.b.size)).mono ?_
 rintro e w_2 ⟨rfl, hW_2, hk_2⟩
 have hK_2 := hKa.trans hk_2
 have hbx := box_keep hk_2 hbxa hbX
 have hB_2 : Below w0.heap.size w0 w_2 := hBs.trans hK_2.b
 obtain ⟨c0, c1, c2, c3, c4, c5⟩ := (cells_box hbx).box
 have hlb := blt c0
 obtain ⟨n00, n01, n02, n03, n04, n05⟩ := hC0.later hB_2
 have hlk0 := blt n00
 obtain ⟨n10, n11, n12, n13, n14, n15⟩ := hC1.later hB_2
 have hlk1 := blt n10
 have hlX := WrT.lt hW_2
 go_wp2_with fail
 have hI := HF1.out A1 c1' K1 d1 _ _ HN1.out hB_2 hW_2 lq8
 unfold ndV at hI
 go_at_call 81
 refine hI.mono ?_
 rintro e w_3 ⟨rfl, hW_3, hk_3⟩
 have hK_3 := hK_2.trans hk_3
 have hbx := box_keep hk_3 hbx hbX
 clear hI
 have hB_3 : Below w0.heap.size w0 w_3 := hBs.trans hK_3.b
 obtain ⟨c0, c1, c2, c3, c4, c5⟩ := (cells_box hbx).box
 have hlb := blt c0
 obtain ⟨n00, n01, n02, n03, n04, n05⟩ := hC0.later hB_3
 have hlk0 := blt n00
 obtain ⟨n10, n11, n12, n13, n14, n15⟩ := hC1.later hB_3
 have hlk1 := blt n10
 exact lv159
theorem wp40 (hk : T.kind = 40) (hT : Ex T) (hD : T.depth ≤ D + 1) (hWt : T.weight ≤ 1000000) : FSays 146 w0 X dep Nd.txt T := by
 have _ := hTg
 intro A c K d l0 w hN hBs hW hlen
 have hlen3 : T.kids.length = 1 := len_row hk hT.1 (tx := .non) (L := [.expr]) rfl lq28
 obtain ⟨t0, hks⟩ := kids_1 (l := T.kids) hlen3
 have hg0 : T.kids[0]? = some t0 := by rw [hks]; rfl
 obtain ⟨b, off, A0, c0', K0, d0, hKe0, hC0, hN0⟩ := hN.kid hg0
 rw [Nat.zero_mul, Nat.add_zero] at hC0
 subst hKe0
 have hd0 : t0.depth ≤ D ∧ t0.weight ≤ 1000000 := wKM hD hWt t0 (mog hg0)
 have HF0 := Lh (hE t0 (ex_kids hT lq29 lq29 lq29 t0 (mog hg0)) hd0.1 hd0.2)
 have HN0 := Lh hN0
 have i0 : (0 : Int) < (T.kids.length : Int) := by omega
 have i0' : 0 < T.kids.length := by omega
 have hts : T.txt = [42, 42] ++ t0.txt := by rw [txt_eq, hks]; simp [txtOf, hk, gl]
 have HTX := Lh hts
 have HLN := Lh (show l0.length + ([42, 42] ++ t0.txt).length ≤ 1000000000000 by rw [← hts]; exact hlen)
 have z39 : (T.kind == 39) = false := by rw [hk]; rfl
 have z40 : (T.kind == 40) = true := by rw [hk]; rfl
 obtain ⟨z52, z44, z47, z50, z51, z53, z54⟩ := kz7 hk 52 44 47 50 51 53 54 rfl
 obtain ⟨hm1, hm2, hrm, hw32, hk1, hk2, hk64, ha64, hts', hKs⟩ := hN.parts
 have hk2' := hk2
 unfold maxLen at hm2 hk2 hts'
 obtain ⟨hk64a, hk64b⟩ := hk64
 obtain ⟨ha64a, ha64b⟩ := ha64
 have hB0 : w0.heap.size ≤ w.heap.size := hBs.size
 have hbX : X < w.heap.size := WrT.lt hW
 have hK0 : WK w0.heap.size X w (w.alloc (bx T.kind T A c (some ⟨b, off, none⟩) d)) := (WK.refl _ _ _).alloc hB0 _
 have hWb := hW.alloc (bx T.kind T A c (some ⟨b, off, none⟩) d)
 have hBb : Below w0.heap.size w0 (w.alloc (bx T.kind T A c (some ⟨b, off, none⟩) d)) := hBs.trans hK0.b
 have hbx := heap_alloc_new w (bx T.kind T A c (some ⟨b, off, none⟩) d)
 have hsg : (w.alloc (bx T.kind T A c (some ⟨b, off, none⟩) d)).heap.size = w.heap.size + 1 := by simp
 clear hKs hN hlen hE hTg hT hD hWt hrm hw32 hk hts hks hlen3 hg0 hN0 hd0
 obtain ⟨c0, c1, c2, c3, c4, c5⟩ := (cells_box hbx).box
 have hlb := blt c0
 obtain ⟨n00, n01, n02, n03, n04, n05⟩ := hC0.later hBb
 have hlk0 := blt n00
 have hlX := WrT.lt hWb
 unfold ndV
 go_enter Tryz.func146, Tryz.ntmps146
 go_wp2_with fail
 have hWa := hWb.alloc (.cells #[.string { data := #[42, 42] }] 9)
 have hKa := hK0.alloc (Nat.le_trans hB0 hK0.b.size) (.cells #[.string { data := #[42, 42] }] 9)
 have hbxa := (Lib.alloc_old _ (.cells #[.string { data := #[42, 42] }] 9) _ hlb).trans hbx
 go_at_call 84
 refine (wSayT_ok w0.heap.size X dep _ ([42, 42]) [⟨#[42, 42]⟩] 1 (w.heap.size + 1) _ hWa rfl lq17 lq19 rfl lq28 lq8 (Nat.le_trans hB0 hKa.b.size)).mono ?_
 rintro e w_1 ⟨rfl, hW_1, hk_1⟩
 have hK_1 := hKa.trans hk_1
 have hbx := box_keep hk_1 hbxa hbX
 have hB_1 : Below w0.heap.size w0 w_1 := hBs.trans hK_1.b
 obtain ⟨c0, c1, c2, c3, c4, c5⟩ := (cells_box hbx).box
 have hlb := blt c0
 obtain ⟨n00, n01, n02, n03, n04, n05⟩ := hC0.later hB_1
 have hlk0 := blt n00
 have hlX := WrT.lt hW_1
 go_wp2_with fail
 have hI := HF0.out A0 c0' K0 d0 _ _ HN0.out hB_1 hW_1 lq8
 unfold ndV at hI
 go_at_call 81
 refine hI.mono ?_
 rintro e w_2 ⟨rfl, hW_2, hk_2⟩
 have hK_2 := hK_1.trans hk_2
 have hbx := box_keep hk_2 hbx hbX
 clear hI
 have hB_2 : Below w0.heap.size w0 w_2 := hBs.trans hK_2.b
 obtain ⟨c0, c1, c2, c3, c4, c5⟩ := (cells_box hbx).box
 have hlb := blt c0
 obtain ⟨n00, n01, n02, n03, n04, n05⟩ := hC0.later hB_2
 have hlk0 := blt n00
 have hlX := WrT.lt hW_2
 go_wp2_with fail
 ((try simp only [Exit.inBlock, Exit.then]); first | refine bodyPost_end (results_none rfl _ _ _) rfl ?_ | refine bodyPost_ret (results_none rfl _ _ _) rfl ?_)
 exact ⟨rfl, hW_2.eq lq11, hK_2⟩
theorem wp52 (hk : T.kind = 52) (hT : Ex T) (hD : T.depth ≤ D + 1) (hWt : T.weight ≤ 1000000) : FSays 146 w0 X dep Nd.txt T := by
 have _ := hTg
 intro A c K d l0 w hN hBs hW hlen
 have hlen3 : T.kids.length = 1 := len_row hk hT.1 (tx := .name) (L := [.expr]) rfl lq28
 obtain ⟨t0, hks⟩ := kids_1 (l := T.kids) hlen3
 have hg0 : T.kids[0]? = some t0 := by rw [hks]; rfl
 obtain ⟨b, off, A0, c0', K0, d0, hKe0, hC0, hN0⟩ := hN.kid hg0
 rw [Nat.zero_mul, Nat.add_zero] at hC0
 subst hKe0
 have hd0 : t0.depth ≤ D ∧ t0.weight ≤ 1000000 := wKM hD hWt t0 (mog hg0)
 have HF0 := Lh (hE t0 (ex_kids hT lq29 lq29 lq29 t0 (mog hg0)) hd0.1 hd0.2)
 have HN0 := Lh hN0
 have i0 : (0 : Int) < (T.kids.length : Int) := by omega
 have i0' : 0 < T.kids.length := by omega
 have hts : T.txt = tx T ++ [61] ++ t0.txt := by rw [txt_eq, hks]; simp [txtOf, hk, gl]
 have HTX := Lh hts
 have HLN := Lh (show l0.length + (tx T ++ [61] ++ t0.txt).length ≤ 1000000000000 by rw [← hts]; exact hlen)
 obtain ⟨z39, z40⟩ := kz2 hk 39 40 rfl
 have z52 : (T.kind == 52) = true := by rw [hk]; rfl
 obtain ⟨z44, z47, z50, z51, z53, z54⟩ := kz6 hk 44 47 50 51 53 54 rfl
 obtain ⟨hm1, hm2, hrm, hw32, hk1, hk2, hk64, ha64, hts', hKs⟩ := hN.parts
 have hk2' := hk2
 unfold maxLen at hm2 hk2 hts'
 obtain ⟨hk64a, hk64b⟩ := hk64
 obtain ⟨ha64a, ha64b⟩ := ha64
 have hB0 : w0.heap.size ≤ w.heap.size := hBs.size
 have hbX : X < w.heap.size := WrT.lt hW
 have hK0 : WK w0.heap.size X w (w.alloc (bx T.kind T A c (some ⟨b, off, none⟩) d)) := (WK.refl _ _ _).alloc hB0 _
 have hWb := hW.alloc (bx T.kind T A c (some ⟨b, off, none⟩) d)
 have hBb : Below w0.heap.size w0 (w.alloc (bx T.kind T A c (some ⟨b, off, none⟩) d)) := hBs.trans hK0.b
 have hbx := heap_alloc_new w (bx T.kind T A c (some ⟨b, off, none⟩) d)
 have hsg : (w.alloc (bx T.kind T A c (some ⟨b, off, none⟩) d)).heap.size = w.heap.size + 1 := by simp
 clear hKs hN hlen hE hTg hT hD hWt hrm hw32 hk hts hks hlen3 hg0 hN0 hd0
 obtain ⟨c0, c1, c2, c3, c4, c5⟩ := (cells_box hbx).box
 have hlb := blt c0
 obtain ⟨n00, n01, n02, n03, n04, n05⟩ := hC0.later hBb
 have hlk0 := blt n00
 have hlX := WrT.lt hWb
 unfold ndV
 go_enter Tryz.func146, Tryz.ntmps146
 exact lv34
theorem wp44 (hk : T.kind = 44) (hT : Ex T) (hD : T.depth ≤ D + 1) (hWt : T.weight ≤ 1000000) : FSays 146 w0 X dep Nd.txt T := by
 have _ := hTg
 intro A c K d l0 w hN hBs hW hlen
 have hlen3 : T.kids.length = 3 := len_row hk hT.1 (tx := .non) (L := [.expr, .expr, .expr]) rfl lq28
 obtain ⟨t0, t1, t2, hks⟩ := kids_3 (l := T.kids) hlen3
 have hg0 : T.kids[0]? = some t0 := by rw [hks]; rfl
 obtain ⟨b, off, A0, c0', K0, d0, hKe0, hC0, hN0⟩ := hN.kid hg0
 have hg1 : T.kids[1]? = some t1 := by rw [hks]; rfl
 obtain ⟨b1, off1, A1, c1', K1, d1, hKe1, hC1, hN1⟩ := hN.kid hg1
 have hg2 : T.kids[2]? = some t2 := by rw [hks]; rfl
 obtain ⟨b2, off2, A2, c2', K2, d2, hKe2, hC2, hN2⟩ := hN.kid hg2
 rw [Nat.zero_mul, Nat.add_zero] at hC0
 subst hKe0
 injection hKe1 with e1
 injection e1 with e1 e2
 subst e1 e2
 rw [show 1 * 6 = 6 from rfl] at hC1
 injection hKe2 with e1
 injection e1 with e1 e2
 subst e1 e2
 rw [show 2 * 6 = 12 from rfl] at hC2
 have hd0 : t0.depth ≤ D ∧ t0.weight ≤ 1000000 := wKM hD hWt t0 (mog hg0)
 have HF0 := Lh (hE t0 (ex_kids hT lq29 lq29 lq29 t0 (mog hg0)) hd0.1 hd0.2)
 have HN0 := Lh hN0
 have i0 : (0 : Int) < (T.kids.length : Int) := by omega
 have i0' : 0 < T.kids.length := by omega
 have hd1 : t1.depth ≤ D ∧ t1.weight ≤ 1000000 := wKM hD hWt t1 (mog hg1)
 have HF1 := Lh (hE t1 (ex_kids hT lq29 lq29 lq29 t1 (mog hg1)) hd1.1 hd1.2)
 have HN1 := Lh hN1
 have i1 : (1 : Int) < (T.kids.length : Int) := by omega
 have i1' : 1 < T.kids.length := by omega
 have hd2 : t2.depth ≤ D ∧ t2.weight ≤ 1000000 := wKM hD hWt t2 (mog hg2)
 have HF2 := Lh (hE t2 (ex_kids hT lq29 lq29 lq29 t2 (mog hg2)) hd2.1 hd2.2)
 have HN2 := Lh hN2
 have i2 : (2 : Int) < (T.kids.length : Int) := by omega
 have i2' : 2 < T.kids.length := by omega
 have hts : T.txt = [40] ++ t0.txt ++ [32, 105, 102, 32] ++ t1.txt ++ [32, 101, 108, 115, 101, 32] ++ t2.txt ++ [41] := by rw [txt_eq, hks]; simp [txtOf, hk, gl]
 have HTX := Lh hts
 have HLN := Lh (show l0.length + ([40] ++ t0.txt ++ [32, 105, 102, 32] ++ t1.txt ++ [32, 101, 108, 115, 101, 32] ++ t2.txt ++ [41]).length ≤ 1000000000000 by rw [← hts]; exact hlen)
 obtain ⟨z39, z40, z52⟩ := kz3 hk 39 40 52 rfl
 have z44 : (T.kind == 44) = true := by rw [hk]; rfl
 obtain ⟨z47, z50, z51, z53, z54⟩ := kz5 hk 47 50 51 53 54 rfl
 obtain ⟨hm1, hm2, hrm, hw32, hk1, hk2, hk64, ha64, hts', hKs⟩ := hN.parts
 have hk2' := hk2
 unfold maxLen at hm2 hk2 hts'
 obtain ⟨hk64a, hk64b⟩ := hk64
 obtain ⟨ha64a, ha64b⟩ := ha64
 have hB0 : w0.heap.size ≤ w.heap.size := hBs.size
 have hbX : X < w.heap.size := WrT.lt hW
 have hK0 : WK w0.heap.size X w (w.alloc (bx T.kind T A c (some ⟨b, off, none⟩) d)) := (WK.refl _ _ _).alloc hB0 _
 have hWb := hW.alloc (bx T.kind T A c (some ⟨b, off, none⟩) d)
 have hBb : Below w0.heap.size w0 (w.alloc (bx T.kind T A c (some ⟨b, off, none⟩) d)) := hBs.trans hK0.b
 have hbx := heap_alloc_new w (bx T.kind T A c (some ⟨b, off, none⟩) d)
 have hsg : (w.alloc (bx T.kind T A c (some ⟨b, off, none⟩) d)).heap.size = w.heap.size + 1 := by simp
 clear hKs hN hlen hE hTg hT hD hWt hrm hw32 hk hts hks hlen3 hg0 hN0 hd0 hg1 hN1 hd1 hg2 hN2 hd2
 obtain ⟨c0, c1, c2, c3, c4, c5⟩ := (cells_box hbx).box
 have hlb := blt c0
 obtain ⟨n00, n01, n02, n03, n04, n05⟩ := hC0.later hBb
 have hlk0 := blt n00
 obtain ⟨n10, n11, n12, n13, n14, n15⟩ := hC1.later hBb
 have hlk1 := blt n10
 obtain ⟨n20, n21, n22, n23, n24, n25⟩ := hC2.later hBb
 have hlk2 := blt n20
 have hlX := WrT.lt hWb
 unfold ndV
 go_enter Tryz.func146, Tryz.ntmps146
 go_wp2_with fail
 have hWa := hWb.alloc (.cells #[.string { data := #[40] }] 9)
 have hKa := hK0.alloc (Nat.le_trans hB0 hK0.b.size) (.cells #[.string { data := #[40] }] 9)
 have hbxa := (Lib.alloc_old _ (.cells #[.string { data := #[40] }] 9) _ hlb).trans hbx
 go_at_call 84
 refine (wSayT_ok w0.heap.size X dep _ ([40]) [⟨#[40]⟩] 1 (w.heap.size + 1) _ hWa rfl lq17 lq19 rfl lq28 lq8 (Nat.le_trans hB0 hKa.b.size)).mono ?_
 rintro e w_1 ⟨rfl, hW_1, hk_1⟩
 have hK_1 := hKa.trans hk_1
 have hbx := box_keep hk_1 hbxa hbX
 have hB_1 : Below w0.heap.size w0 w_1 := hBs.trans hK_1.b
 obtain ⟨c0, c1, c2, c3, c4, c5⟩ := (cells_box hbx).box
 have hlb := blt c0
 obtain ⟨n00, n01, n02, n03, n04, n05⟩ := hC0.later hB_1
 have hlk0 := blt n00
 obtain ⟨n10, n11, n12, n13, n14, n15⟩ := hC1.later hB_1
 have hlk1 := blt n10
 obtain ⟨n20, n21, n22, n23, n24, n25⟩ := hC2.later hB_1
 have hlk2 := blt n20
 have hlX := WrT.lt hW_1
 go_wp2_with fail
 have hI := HF0.out A0 c0' K0 d0 _ _ HN0.out hB_1 hW_1 lq8
 unfold ndV at hI
 go_at_call 81
 refine hI.mono ?_
 rintro e w_2 ⟨rfl, hW_2, hk_2⟩
 have hK_2 := hK_1.trans hk_2
 have hbx := box_keep hk_2 hbx hbX
 clear hI
 have hB_2 : Below w0.heap.size w0 w_2 := hBs.trans hK_2.b
 obtain ⟨c0, c1, c2, c3, c4, c5⟩ := (cells_box hbx).box
 have hlb := blt c0
 obtain ⟨n00, n01, n02, n03, n04, n05⟩ := hC0.later hB_2
 have hlk0 := blt n00
 obtain ⟨n10, n11, n12, n13, n14, n15⟩ := hC1.later hB_2
 have hlk1 := blt n10
 obtain ⟨n20, n21, n22, n23, n24, n25⟩ := hC2.later hB_2
 have hlk2 := blt n20
 have hlX := WrT.lt hW_2
 go_wp2_with fail
 have hWa := hW_2.alloc (.cells #[.string { data := #[32, 105, 102, 32] }] 9)
 have hKa := hK_2.alloc (Nat.le_trans hB0 hK_2.b.size) (.cells #[.string { data := #[32, 105, 102, 32] }] 9)
 have hbxa := (Lib.alloc_old _ (.cells #[.string { data := #[32, 105, 102, 32] }] 9) _ hlb).trans hbx
 go_at_call 84
 refine (wSayT_ok w0.heap.size X dep _ ([32, 105, 102, 32]) [⟨#[32, 105, 102, 32]⟩] 1 _ _ hWa rfl (WrT.lt hW_2) (heap_alloc_new _ _) rfl lq28 lq8 (Nat.le_trans hB0 hKa.b.size)).mono ?_
 rintro e w_3 ⟨rfl, hW_3, hk_3⟩
 have hK_3 := hKa.trans hk_3
 have hbx := box_keep hk_3 hbxa hbX
 have hB_3 : Below w0.heap.size w0 w_3 := hBs.trans hK_3.b
 obtain ⟨c0, c1, c2, c3, c4, c5⟩ := (cells_box hbx).box
 have hlb := blt c0
 obtain ⟨n00, n01, n02, n03, n04, n05⟩ := hC0.later hB_3
 have hlk0 := blt n00
 obtain ⟨n10, n11, n12, n13, n14, n15⟩ := hC1.later hB_3
 have hlk1 := blt n10
 obtain ⟨n20, n21, n22, n23, n24, n25⟩ := hC2.later hB_3
 have hlk2 := blt n20
 have hlX := WrT.lt hW_3
 go_wp2_with fail
 have hI := HF1.out A1 c1' K1 d1 _ _ HN1.out hB_3 hW_3 lq8
 unfold ndV at hI
 go_at_call 81
 refine hI.mono ?_
 rintro e w_4 ⟨rfl, hW_4, hk_4⟩
 have hK_4 := hK_3.trans hk_4
 have hbx := box_keep hk_4 hbx hbX
 clear hI
 have hB_4 : Below w0.heap.size w0 w_4 := hBs.trans hK_4.b
 obtain ⟨c0, c1, c2, c3, c4, c5⟩ := (cells_box hbx).box
 have hlb := blt c0
 obtain ⟨n00, n01, n02, n03, n04, n05⟩ := hC0.later hB_4
 have hlk0 := blt n00
 obtain ⟨n10, n11, n12, n13, n14, n15⟩ := hC1.later hB_4
 have hlk1 := blt n10
 obtain ⟨n20, n21, n22, n23, n24, n25⟩ := hC2.later hB_4
 have hlk2 := blt n20
 have hlX := WrT.lt hW_4
 go_wp2_with fail
 have hWa := hW_4.alloc (.cells #[.string { data := #[32, 101, 108, 115, 101, 32] }] 9)
 have hKa := hK_4.alloc (Nat.le_trans hB0 hK_4.b.size) (.cells #[.string { data := #[32, 101, 108, 115, 101, 32] }] 9)
 have hbxa := (Lib.alloc_old _ (.cells #[.string { data := #[32, 101, 108, 115, 101, 32] }] 9) _ hlb).trans hbx
 go_at_call 84
 refine (wSayT_ok w0.heap.size X dep _ ([32, 101, 108, 115, 101, 32]) [⟨#[32, 101, 108, 115, 101, 32]⟩] 1 _ _ hWa rfl (WrT.lt hW_4) (heap_alloc_new _ _) rfl lq28 lq8 (Nat.le_trans hB0 hKa.b.size)).mono ?_
 rintro e w_5 ⟨rfl, hW_5, hk_5⟩
 have hK_5 := hKa.trans hk_5
 have hbx := box_keep hk_5 hbxa hbX
 have hB_5 : Below w0.heap.size w0 w_5 := hBs.trans hK_5.b
 obtain ⟨c0, c1, c2, c3, c4, c5⟩ := (cells_box hbx).box
 have hlb := blt c0
 obtain ⟨n00, n01, n02, n03, n04, n05⟩ := hC0.later hB_5
 have hlk0 := blt n00
 obtain ⟨n10, n11, n12, n13, n14, n15⟩ := hC1.later hB_5
 have hlk1 := blt n10
 obtain ⟨n20, n21, n22, n23, n24, n25⟩ := hC2.later hB_5
 have hlk2 := blt n20
 have hlX := WrT.lt hW_5
 go_wp2_with fail
 have hI := HF2.out A2 c2' K2 d2 _ _ HN2.out hB_5 hW_5 lq8
 unfold ndV at hI
 go_at_call 81
 refine hI.mono ?_
 rintro e w_6 ⟨rfl, hW_6, hk_6⟩
 have hK_6 := hK_5.trans hk_6
 have hbx := box_keep hk_6 hbx hbX
 clear hI
 have hB_6 : Below w0.heap.size w0 w_6 := hBs.trans hK_6.b
 obtain ⟨c0, c1, c2, c3, c4, c5⟩ := (cells_box hbx).box
 have hlb := blt c0
 obtain ⟨n00, n01, n02, n03, n04, n05⟩ := hC0.later hB_6
 have hlk0 := blt n00
 obtain ⟨n10, n11, n12, n13, n14, n15⟩ := hC1.later hB_6
 have hlk1 := blt n10
 obtain ⟨n20, n21, n22, n23, n24, n25⟩ := hC2.later hB_6
 have hlk2 := blt n20
 have hlX := WrT.lt hW_6
 go_wp2_with fail
 have hWa := hW_6.alloc (.cells #[.string { data := #[41] }] 9)
 have hKa := hK_6.alloc (Nat.le_trans hB0 hK_6.b.size) (.cells #[.string { data := #[41] }] 9)
 have hbxa := (Lib.alloc_old _ (.cells #[.string { data := #[41] }] 9) _ hlb).trans hbx
 go_at_call 84
 refine (wSayT_ok w0.heap.size X dep _ ([41]) [⟨#[41]⟩] 1 _ _ hWa rfl (WrT.lt hW_6) (heap_alloc_new _ _) rfl lq28 lq8 (Nat.le_trans hB0 hKa.b.size)).mono ?_
 rintro e w_7 ⟨rfl, hW_7, hk_7⟩
 have hK_7 := hKa.trans hk_7
 have hbx := box_keep hk_7 hbxa hbX
 have hB_7 : Below w0.heap.size w0 w_7 := hBs.trans hK_7.b
 obtain ⟨c0, c1, c2, c3, c4, c5⟩ := (cells_box hbx).box
 have hlb := blt c0
 obtain ⟨n00, n01, n02, n03, n04, n05⟩ := hC0.later hB_7
 have hlk0 := blt n00
 obtain ⟨n10, n11, n12, n13, n14, n15⟩ := hC1.later hB_7
 have hlk1 := blt n10
 obtain ⟨n20, n21, n22, n23, n24, n25⟩ := hC2.later hB_7
 have hlk2 := blt n20
 have hlX := WrT.lt hW_7
 go_wp2_with fail
 ((try simp only [Exit.inBlock, Exit.then]); first | refine bodyPost_end (results_none rfl _ _ _) rfl ?_ | refine bodyPost_ret (results_none rfl _ _ _) rfl ?_)
 exact ⟨rfl, hW_7.eq lq11, hK_7⟩
end

section
variable (D : Nat) (w0 : World) (X dep : Nat) (hE : EOk D w0 X dep) (hTg : TOk D w0 X dep) (T : Nd)
include D w0 X dep hE hTg T
theorem wp47 (hk : T.kind = 47) (hT : Ex T) (hD : T.depth ≤ D + 1) (hWt : T.weight ≤ 1000000) : FSays 146 w0 X dep Nd.txt T := by
 have _ := hTg
 intro A c K d l0 w hN hBs hW hlen
 have hlen3 : T.kids.length = 1 := len_row hk hT.1 (tx := .non) (L := [.expr]) rfl lq28
 obtain ⟨t0, hks⟩ := kids_1 hlen3
 have hts : T.txt = [40, 110, 111, 116, 32] ++ sepL com (T.kids.map Nd.txt) ++ [41] := by rw [txt_eq]; simp [txtOf, hk, hks, gl, sepL]
 have HTX := Lh hts
 have HLN := Lh (show l0.length + ([40, 110, 111, 116, 32] ++ sepL com (T.kids.map Nd.txt) ++ [41]).length ≤ 1000000000000 by rw [← hts]; exact hlen)
 obtain ⟨z39, z40, z52, z44⟩ := kz4 hk 39 40 52 44 rfl
 have z47 : (T.kind == 47) = true := by rw [hk]; rfl
 obtain ⟨z50, z51, z53, z54⟩ := kz4 hk 50 51 53 54 rfl
 obtain ⟨hm1, hm2, hrm, hw32, hk1, hk2, hk64, ha64, hts', hKs⟩ := hN.parts
 have hk2' := hk2
 unfold maxLen at hm2 hk2 hts'
 obtain ⟨hk64a, hk64b⟩ := hk64
 obtain ⟨ha64a, ha64b⟩ := ha64
 have hB0 : w0.heap.size ≤ w.heap.size := hBs.size
 have hbX : X < w.heap.size := WrT.lt hW
 have hK0 : WK w0.heap.size X w (w.alloc (bx T.kind T A c K d)) := (WK.refl _ _ _).alloc hB0 _
 have hWb := hW.alloc (bx T.kind T A c K d)
 have hBb : Below w0.heap.size w0 (w.alloc (bx T.kind T A c K d)) := hBs.trans hK0.b
 have hbx := heap_alloc_new w (bx T.kind T A c K d)
 have hsg : (w.alloc (bx T.kind T A c K d)).heap.size = w.heap.size + 1 := by simp
 have HFA := Lh (fun (t : Nd) (ht : t ∈ T.kids) => hE t (ex_kids hT lq29 lq29 lq29 t ht) (wKM hD hWt t ht).1 (wKM hD hWt t ht).2)
 have HKA := Lh hKs
 clear hKs hN hlen hE hTg hT hD hWt hrm hw32 hk hts hks hlen3 
 obtain ⟨c0, c1, c2, c3, c4, c5⟩ := (cells_box hbx).box
 have hlb := blt c0
 have hlX := WrT.lt hWb
 unfold ndV
 go_enter Tryz.func146, Tryz.ntmps146
 go_wp2_with fail
 have hI := wBetween_ok ⟨#[40, 110, 111, 116, 32]⟩ ⟨#[41]⟩ T.kids T.kids.length K d w0 X dep _ _ rfl HKA.out HFA.out hk1 hk2' hBb hWb lq8
 exact lv115
theorem wp50 (hk : T.kind = 50) (hT : Ex T) (hD : T.depth ≤ D + 1) (hWt : T.weight ≤ 1000000) : FSays 146 w0 X dep Nd.txt T := by
 have _ := hTg
 intro A c K d l0 w hN hBs hW hlen
 have hlen3 : T.kids.length = 1 := len_row hk hT.1 (tx := .non) (L := [.expr]) rfl lq28
 obtain ⟨t0, hks⟩ := kids_1 hlen3
 have hts : T.txt = [40, 45] ++ sepL com (T.kids.map Nd.txt) ++ [41] := by rw [txt_eq]; simp [txtOf, hk, hks, gl, sepL]
 have HTX := Lh hts
 have HLN := Lh (show l0.length + ([40, 45] ++ sepL com (T.kids.map Nd.txt) ++ [41]).length ≤ 1000000000000 by rw [← hts]; exact hlen)
 obtain ⟨z39, z40, z52, z44, z47⟩ := kz5 hk 39 40 52 44 47 rfl
 have z50 : (T.kind == 50) = true := by rw [hk]; rfl
 obtain ⟨z51, z53, z54⟩ := kz3 hk 51 53 54 rfl
 obtain ⟨hm1, hm2, hrm, hw32, hk1, hk2, hk64, ha64, hts', hKs⟩ := hN.parts
 have hk2' := hk2
 unfold maxLen at hm2 hk2 hts'
 obtain ⟨hk64a, hk64b⟩ := hk64
 obtain ⟨ha64a, ha64b⟩ := ha64
 have hB0 : w0.heap.size ≤ w.heap.size := hBs.size
 have hbX : X < w.heap.size := WrT.lt hW
 have hK0 : WK w0.heap.size X w (w.alloc (bx T.kind T A c K d)) := (WK.refl _ _ _).alloc hB0 _
 have hWb := hW.alloc (bx T.kind T A c K d)
 have hBb : Below w0.heap.size w0 (w.alloc (bx T.kind T A c K d)) := hBs.trans hK0.b
 have hbx := heap_alloc_new w (bx T.kind T A c K d)
 have hsg : (w.alloc (bx T.kind T A c K d)).heap.size = w.heap.size + 1 := by simp
 have HFA := Lh (fun (t : Nd) (ht : t ∈ T.kids) => hE t (ex_kids hT lq29 lq29 lq29 t ht) (wKM hD hWt t ht).1 (wKM hD hWt t ht).2)
 have HKA := Lh hKs
 clear hKs hN hlen hE hTg hT hD hWt hrm hw32 hk hts hks hlen3 
 obtain ⟨c0, c1, c2, c3, c4, c5⟩ := (cells_box hbx).box
 have hlb := blt c0
 have hlX := WrT.lt hWb
 unfold ndV
 go_enter Tryz.func146, Tryz.ntmps146
 go_wp2_with fail
 have hI := wBetween_ok ⟨#[40, 45]⟩ ⟨#[41]⟩ T.kids T.kids.length K d w0 X dep _ _ rfl HKA.out HFA.out hk1 hk2' hBb hWb lq8
 exact lv115
end

theorem wp51 (D : Nat) (w0 : World) (X dep : Nat) (hE : EOk D w0 X dep) (hTg : TOk D w0 X dep) (T : Nd) (hk : T.kind = 51) (hT : Ex T) (hD : T.depth ≤ D + 1) (hWt : T.weight ≤ 1000000) : FSays 146 w0 X dep Nd.txt T := by
 intro A c K d l0 w hN hBs hW hlen
 have hlen3 : 1 ≤ T.kids.length := len_call hk hT.1
 obtain ⟨t0, hg0⟩ : ∃ t0, T.kids[0]? = some t0 := ⟨_, gEo⟩
 have htk : T.kids = t0 :: T.kids.drop 1 := by
  match hks : T.kids, hg0 with
  | a :: r, h => simp at h; simp [h]
 obtain ⟨b, off, A0, c0', K0, d0, hKe0, hC0, hN0⟩ := hN.kid hg0
 rw [Nat.zero_mul, Nat.add_zero] at hC0
 subst hKe0
 have hd0 : t0.depth ≤ D ∧ t0.weight ≤ 1000000 := wKM hD hWt t0 (mog hg0)
 have hex0 := ex_kids hT lq29 lq29 lq29
 have HF0 := Lh (hE t0 (hex0 t0 (mog hg0)) hd0.1 hd0.2)
 have HN0 := Lh hN0
 have HFT := Lh (fun (t : Nd) (ht : t ∈ T.kids.drop 1) => hE t (hex0 t (List.mem_of_mem_drop ht)) (wKM hD hWt t (List.mem_of_mem_drop ht)).1 (wKM hD hWt t (List.mem_of_mem_drop ht)).2)
 have i0 : (0 : Int) < (T.kids.length : Int) := by omega
 have i0' : 0 < T.kids.length := by omega
 have i1 : (1 : Int) ≤ (T.kids.length : Int) := by omega
 have hkd := hN.parts.2.2.2.2.1
 have i2 : (1 : Int) ≤ (d : Int) := by omega
 have i3 : (T.kids.length : Int) ≤ (d : Int) := by omega
 have hts : T.txt = t0.txt ++ [40] ++ sepL com ((T.kids.drop 1).map Nd.txt) ++ [41] := by
  exact lv181
 have HTX := Lh hts
 have HLN := Lh (show l0.length + (t0.txt ++ [40] ++ sepL com ((T.kids.drop 1).map Nd.txt) ++ [41]).length ≤ 1000000000000 by rw [← hts]; exact hlen)
 obtain ⟨z39, z40, z52, z44, z47, z50⟩ := kz6 hk 39 40 52 44 47 50 rfl
 have z51 : (T.kind == 51) = true := by rw [hk]; rfl
 obtain ⟨z53, z54⟩ := kz2 hk 53 54 rfl
 obtain ⟨hm1, hm2, hrm, hw32, hk1, hk2, hk64, ha64, hts', hKs⟩ := hN.parts
 have hk2' := hk2
 unfold maxLen at hm2 hk2 hts'
 obtain ⟨hk64a, hk64b⟩ := hk64
 obtain ⟨ha64a, ha64b⟩ := ha64
 have hB0 : w0.heap.size ≤ w.heap.size := hBs.size
 have hbX : X < w.heap.size := WrT.lt hW
 have hK0 : WK w0.heap.size X w (w.alloc (bx T.kind T A c (some ⟨b, off, none⟩) d)) := (WK.refl _ _ _).alloc hB0 _
 have hWb := hW.alloc (bx T.kind T A c (some ⟨b, off, none⟩) d)
 have hBb : Below w0.heap.size w0 (w.alloc (bx T.kind T A c (some ⟨b, off, none⟩) d)) := hBs.trans hK0.b
 have hbx := heap_alloc_new w (bx T.kind T A c (some ⟨b, off, none⟩) d)
 have hsg : (w.alloc (bx T.kind T A c (some ⟨b, off, none⟩) d)).heap.size = w.heap.size + 1 := by simp
 have HKT := Lh (hKs.cut 1 d hkd)
 clear hKs hN hlen hE hTg hT hD hWt hrm hw32 hk hts hg0 hN0 hd0 hex0 htk hlen3
 by_cases hd1 : d = 1
 ·subst hd1; simp only [if_true] at HKT; obtain ⟨c0, c1, c2, c3, c4, c5⟩ := (cells_box hbx).box; have hlb := blt c0; obtain ⟨n00, n01, n02, n03, n04, n05⟩ := hC0.later hBb; have hlk0 := blt n00; have hlX := WrT.lt hWb; unfold ndV; go_enter Tryz.func146, Tryz.ntmps146; go_wp2_with fail; have hI := HF0.out A0 c0' K0 d0 _ _ HN0.out hBb hWb lq8; unfold ndV at hI
  go_at_call 81
  refine hI.mono ?_
  rintro e w_1 ⟨rfl, hW_1, hk_1⟩; have hK_1 := hK0.trans hk_1; have hbx := box_keep hk_1 hbx hbX; clear hI; have hB_1 : Below w0.heap.size w0 w_1 := hBs.trans hK_1.b; obtain ⟨c0, c1, c2, c3, c4, c5⟩ := (cells_box hbx).box; have hlb := blt c0; obtain ⟨n00, n01, n02, n03, n04, n05⟩ := hC0.later hB_1; have hlk0 := blt n00; have hlX := WrT.lt hW_1; go_wp2_with fail; have hI := wBetween_ok ⟨#[40]⟩ ⟨#[41]⟩ (T.kids.drop 1) 0 (some ⟨b, off, none⟩) 0 w0 X dep _ _ lq20 HKT.out HFT.out lq29 lq29 hB_1 hW_1 lq8; exact lv107
 ·simp only [if_neg hd1] at HKT; obtain ⟨c0, c1, c2, c3, c4, c5⟩ := (cells_box hbx).box; have hlb := blt c0; obtain ⟨n00, n01, n02, n03, n04, n05⟩ := hC0.later hBb; have hlk0 := blt n00; have hlX := WrT.lt hWb; unfold ndV; go_enter Tryz.func146, Tryz.ntmps146; go_wp2_with fail; have hI := HF0.out A0 c0' K0 d0 _ _ HN0.out hBb hWb lq8; unfold ndV at hI
  go_at_call 81
  refine hI.mono ?_
  rintro e w_1 ⟨rfl, hW_1, hk_1⟩; have hK_1 := hK0.trans hk_1; have hbx := box_keep hk_1 hbx hbX; clear hI; have hB_1 : Below w0.heap.size w0 w_1 := hBs.trans hK_1.b; obtain ⟨c0, c1, c2, c3, c4, c5⟩ := (cells_box hbx).box; have hlb := blt c0; obtain ⟨n00, n01, n02, n03, n04, n05⟩ := hC0.later hB_1; have hlk0 := blt n00; have hlX := WrT.lt hW_1; go_wp2_with fail; have hI := wBetween_ok ⟨#[40]⟩ ⟨#[41]⟩ (T.kids.drop 1) (T.kids.length - 1) (some ⟨b, off + 6, none⟩) (d - 1) w0 X dep _ _ (by rw [List.length_drop]) HKT.out HFT.out lq29 lq29 hB_1 hW_1 lq8; exact lv107
end
end Go.Proofs.YtjefhdlncikhmaaGreatDoor
