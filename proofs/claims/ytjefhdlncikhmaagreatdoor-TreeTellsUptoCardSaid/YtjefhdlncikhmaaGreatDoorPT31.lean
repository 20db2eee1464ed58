/- Joined by a program: Wr6d. -/
import Derived.Test.YtjefhdlncikhmaaGreatDoorPT28
namespace Go.Proofs.YtjefhdlncikhmaaGreatDoor
set_option linter.unusedVariables false
set_option linter.unusedSimpArgs false
set_option maxRecDepth 1000000
set_option maxHeartbeats 16000000
section
open Go.RowKit
open List (length_append length_cons length_nil length_singleton)
section
variable (D : Nat) (w0 : World) (X dep : Nat) (hdp : dep + (D + 1) ≤ 1000000) (hL : LOk D w0 X) (T : Nd)
include D w0 X dep hdp hL T
theorem wl17 (hk : T.kind = 17) (hT : St T) (hD : T.depth ≤ D + 1) (hWt : T.weight ≤ 1000000) : FSays 47 w0 X dep (fun t => t.lin dep) T := by
 have _ := hdp
 intro A c K d l0 w hN hBs hW hlen
 have hdm : dep ≤ 1000000 := by omega
 have hst : (Tx.non.ev T.text && noNumB T && rowB T.kids [Sh.ev Nd.right .targets, Sh.ev Nd.right .expr, Sh.ev Nd.right .block]) = true := by
  exact lv162
 have hro : rowB T.kids [Sh.ev Nd.right .targets, Sh.ev Nd.right .expr, Sh.ev Nd.right .block] = true := (Bool.and_eq_true _ _ ▸ hst).2
 have hlen3 : T.kids.length = 3 := row_len hro
 obtain ⟨t0, t1, t2, hks⟩ := kids_3 (l := T.kids) hlen3
 rw [hks] at hro
 simp only [rowB, Bool.and_eq_true, Bool.and_true] at hro
 obtain ⟨r0, r1, r2⟩ := hro
 have hg0 : T.kids[0]? = some t0 := by rw [hks]; rfl
 obtain ⟨b, off, A0, c0', K0, d0, hKe0, hC0, hN0⟩ := hN.kid hg0
 have hd0 : t0.depth ≤ D ∧ t0.weight ≤ 1000000 := wKM hD hWt t0 (mog hg0)
 have hg1 : T.kids[1]? = some t1 := by rw [hks]; rfl
 obtain ⟨b1, off1, A1, c1', K1, d1, hKe1, hC1, hN1⟩ := hN.kid hg1
 have hd1 : t1.depth ≤ D ∧ t1.weight ≤ 1000000 := wKM hD hWt t1 (mog hg1)
 have hg2 : T.kids[2]? = some t2 := by rw [hks]; rfl
 obtain ⟨b2, off2, A2, c2', K2, d2, hKe2, hC2, hN2⟩ := hN.kid hg2
 have hd2 : t2.depth ≤ D ∧ t2.weight ≤ 1000000 := wKM hD hWt t2 (mog hg2)
 rw [Nat.zero_mul, Nat.add_zero] at hC0
 subst hKe0
 injection hKe1 with e1
 injection e1 with e1 e2
 subst e1 e2
 rw [show 1 * 6 = 6 from rfl] at hC1
 injection hKe2 with e1
 injection e1 with e1 e2
 subst e1 e2
 rw [show 2 * 6 = 12 from rfl] at hC2
 have HF0 := Lh (wTargets_ok D w0 X dep (wExpr_ok w0 X dep D) t0 (ev_tgts r0) hd0.1 hd0.2)
 have HN0 := Lh hN0
 have i0 : (0 : Int) < (T.kids.length : Int) := by omega
 have i0' : 0 < T.kids.length := by omega
 have HF1 := Lh (wExpr_ok w0 X dep D t1 (ev_ex r1) hd1.1 hd1.2)
 have HN1 := Lh hN1
 have i1 : (1 : Int) < (T.kids.length : Int) := by omega
 have i1' : 1 < T.kids.length := by omega
 have HF2 := Lh (wInner_ok D w0 X dep lq29 hL t2 (blk_of r2) lq29 hd2.2)
 have HN2 := Lh hN2
 have i2 : (2 : Int) < (T.kids.length : Int) := by omega
 have i2' : 2 < T.kids.length := by omega
 have hlen : l0.length + (T.lin dep).length ≤ 1000000000000 := hlen
 have hts : T.lin dep = padL dep ++ [102, 111, 114, 32] ++ t0.txt ++ [32, 105, 110, 32] ++ t1.txt ++ [58, 10] ++ t2.lin (dep + 1) := by rw [lin_eq]; simp [linOf, hk, hks, kd, gy]
 rw [hts] at hlen
 have HTX := Lh hts
 have HLN := Lh hlen
 obtain ⟨z15, z16⟩ := kz2 hk 15 16 rfl
 have z17 : (T.kind == 17) = true := by rw [hk]; rfl
 obtain ⟨z18, z20, z21⟩ := kz3 hk 18 20 21 rfl
 obtain ⟨hm1, hm2, hrm, hw32, hk1, hk2, hk64, ha64, hts', hKs⟩ := hN.parts
 have hk2' := hk2
 unfold maxLen at hm2 hk2 hts'
 obtain ⟨hk64a, hk64b⟩ := hk64
 obtain ⟨ha64a, ha64b⟩ := ha64
 have hB0 : w0.heap.size ≤ w.heap.size := hBs.size
 have hbX : X < w.heap.size := WrT.lt hW
 have hK0 : WK w0.heap.size X w (w.alloc (bx T.kind T A c (some ⟨b, off, none⟩) d)) := (WK.refl _ _ _).alloc hB0 _
 have hWb := hW.alloc (bx T.kind T A c (some ⟨b, off, none⟩) d)
 have hBb : Below w0.heap.size w0 (w.alloc (bx T.kind T A c (some ⟨b, off, none⟩) d)) := hBs.trans hK0.b
 have hbx := heap_alloc_new w (bx T.kind T A c (some ⟨b, off, none⟩) d)
 have hsg : (w.alloc (bx T.kind T A c (some ⟨b, off, none⟩) d)).heap.size = w.heap.size + 1 := by simp
 clear hKs hN hlen hT hD hWt hrm hw32 hk hts hst hlen3 hks hg0 hN0 hd0 r0 hg1 hN1 hd1 r1 hg2 hN2 hd2 r2 hL
 obtain ⟨c0, c1, c2, c3, c4, c5⟩ := (cells_box hbx).box
 have hlb := blt c0
 obtain ⟨n00, n01, n02, n03, n04, n05⟩ := hC0.later hBb
 have hlk0 := blt n00
 obtain ⟨n10, n11, n12, n13, n14, n15⟩ := hC1.later hBb
 have hlk1 := blt n10
 obtain ⟨n20, n21, n22, n23, n24, n25⟩ := hC2.later hBb
 have hlk2 := blt n20
 have hlX := WrT.lt hWb
 unfold ndV
 go_enter Tryz.func47, Tryz.ntmps47
 go_wp2_with fail
 have hWa := hWb.alloc (.cells #[.string { data := #[102, 111, 114, 32] }] 9)
 have hKa := hK0.alloc (Nat.le_trans hB0 hK0.b.size) (.cells #[.string { data := #[102, 111, 114, 32] }] 9)
 have hbxa := (Lib.alloc_old _ (.cells #[.string { data := #[102, 111, 114, 32] }] 9) _ hlb).trans hbx
 have hlta : X < w.heap.size + 1 := lq17
 go_at_call 80
 refine (wHead_ok w0.heap.size X dep _ ([102, 111, 114, 32]) [⟨#[102, 111, 114, 32]⟩] 1 _ _ hWa rfl (.inr ⟨w.heap.size + 1, rfl, by omega, lq19⟩) rfl lq28 hdm lq6 (Nat.le_trans hB0 hKa.b.size)).mono ?_
 rintro e w_1 ⟨rfl, hW_1, hk_1⟩
 have hK_1 := hKa.trans hk_1
 have hbx := box_keep hk_1 hbxa hbX
 have hB_1 : Below w0.heap.size w0 w_1 := hBs.trans hK_1.b
 obtain ⟨c0, c1, c2, c3, c4, c5⟩ := (cells_box hbx).box
 have hlb := blt c0
 obtain ⟨n00, n01, n02, n03, n04, n05⟩ := hC0.later hB_1
 have hlk0 := blt n00
 obtain ⟨n10, n11, n12, n13, n14, n15⟩ := hC1.later hB_1
 have hlk1 := blt n10
 obtain ⟨n20, n21, n22, n23, n24, n25⟩ := hC2.later hB_1
 have hlk2 := blt n20
 have hlX := WrT.lt hW_1
 go_wp2_with fail
 have hI := HF0.out A0 c0' K0 d0 _ _ HN0.out hB_1 hW_1 lq8
 unfold ndV at hI
 go_at_call 83
 refine hI.mono ?_
 rintro e w_2 ⟨rfl, hW_2, hk_2⟩
 have hK_2 := hK_1.trans hk_2
 have hbx := box_keep hk_2 hbx hbX
 clear hI
 have hB_2 : Below w0.heap.size w0 w_2 := hBs.trans hK_2.b
 obtain ⟨c0, c1, c2, c3, c4, c5⟩ := (cells_box hbx).box
 have hlb := blt c0
 obtain ⟨n00, n01, n02, n03, n04, n05⟩ := hC0.later hB_2
 have hlk0 := blt n00
 obtain ⟨n10, n11, n12, n13, n14, n15⟩ := hC1.later hB_2
 have hlk1 := blt n10
 obtain ⟨n20, n21, n22, n23, n24, n25⟩ := hC2.later hB_2
 have hlk2 := blt n20
 have hlX := WrT.lt hW_2
 go_wp2_with fail
 have hWa := hW_2.alloc (.cells #[.string { data := #[32, 105, 110, 32] }] 9)
 have hKa := hK_2.alloc (Nat.le_trans hB0 hK_2.b.size) (.cells #[.string { data := #[32, 105, 110, 32] }] 9)
 have hbxa := (Lib.alloc_old _ (.cells #[.string { data := #[32, 105, 110, 32] }] 9) _ hlb).trans hbx
 go_at_call 84
 refine (wSayT_ok w0.heap.size X dep _ ([32, 105, 110, 32]) [⟨#[32, 105, 110, 32]⟩] 1 _ _ hWa rfl (WrT.lt hW_2) (heap_alloc_new _ _) rfl lq28 lq8 (Nat.le_trans hB0 hKa.b.size)).mono ?_
 rintro e w_3 ⟨rfl, hW_3, hk_3⟩
 have hK_3 := hKa.trans hk_3
 have hbx := box_keep hk_3 hbxa hbX
 have hB_3 : Below w0.heap.size w0 w_3 := hBs.trans hK_3.b
 obtain ⟨c0, c1, c2, c3, c4, c5⟩ := (cells_box hbx).box
 have hlb := blt c0
 obtain ⟨n00, n01, n02, n03, n04, n05⟩ := hC0.later hB_3
 have hlk0 := blt n00
 obtain ⟨n10, n11, n12, n13, n14, n15⟩ := hC1.later hB_3
 have hlk1 := blt n10
 obtain ⟨n20, n21, n22, n23, n24, n25⟩ := hC2.later hB_3
 have hlk2 := blt n20
 have hlX := WrT.lt hW_3
 go_wp2_with fail
 have hI := HF1.out A1 c1' K1 d1 _ _ HN1.out hB_3 hW_3 lq8
 unfold ndV at hI
 go_at_call 81
 refine hI.mono ?_
 rintro e w_4 ⟨rfl, hW_4, hk_4⟩
 have hK_4 := hK_3.trans hk_4
 have hbx := box_keep hk_4 hbx hbX
 clear hI
 exact lv41
theorem wl20z (hk : T.kind = 20) (hT : St T) (hv : ∀ t, T.kids[0]? = some t → t.kind = 0) (hD : T.depth ≤ D + 1) (hWt : T.weight ≤ 1000000) : FSays 47 w0 X dep (fun t => t.lin dep) T := by
 have _ := hdp
 intro A c K d l0 w hN hBs hW hlen
 have hdm : dep ≤ 1000000 := by omega
 have hst : (Tx.name.ev T.text && noNumB T && rowB T.kids [Sh.ev Nd.right (.or2 .none .expr), Sh.ev Nd.right .block]) = true := by
  exact lv164
 have hro : rowB T.kids [Sh.ev Nd.right (.or2 .none .expr), Sh.ev Nd.right .block] = true := (Bool.and_eq_true _ _ ▸ hst).2
 have hlen3 : T.kids.length = 2 := row_len hro
 obtain ⟨t0, t1, hks⟩ := kids_2 (l := T.kids) hlen3
 rw [hks] at hro
 simp only [rowB, Bool.and_eq_true, Bool.and_true] at hro
 obtain ⟨r0, r1⟩ := hro
 have hg0 : T.kids[0]? = some t0 := by rw [hks]; rfl
 obtain ⟨b, off, A0, c0', K0, d0, hKe0, hC0, hN0⟩ := hN.kid hg0
 have hd0 : t0.depth ≤ D ∧ t0.weight ≤ 1000000 := wKM hD hWt t0 (mog hg0)
 have hg1 : T.kids[1]? = some t1 := by rw [hks]; rfl
 obtain ⟨b1, off1, A1, c1', K1, d1, hKe1, hC1, hN1⟩ := hN.kid hg1
 have hd1 : t1.depth ≤ D ∧ t1.weight ≤ 1000000 := wKM hD hWt t1 (mog hg1)
 rw [Nat.zero_mul, Nat.add_zero] at hC0
 subst hKe0
 injection hKe1 with e1
 injection e1 with e1 e2
 subst e1 e2
 rw [show 1 * 6 = 6 from rfl] at hC1
 have hm0 := mb_of r0
 have HN0 := Lh hN0
 have i0 : (0 : Int) < (T.kids.length : Int) := by omega
 have i0' : 0 < T.kids.length := by omega
 have HF1 := Lh (wInner_ok D w0 X dep lq29 hL t1 (blk_of r1) lq29 hd1.2)
 have HN1 := Lh hN1
 have i1 : (1 : Int) < (T.kids.length : Int) := by omega
 have i1' : 1 < T.kids.length := by omega
 have hv2 := hv t0 hg0
 have q2 : (t0.kind != 0) = false := by simp [hv2]
 have hlen : l0.length + (T.lin dep).length ≤ 1000000000000 := hlen
 have hts : T.lin dep = padL dep ++ [99, 108, 97, 115, 115, 32] ++ tx T ++ [58, 10] ++ t1.lin (dep + 1) := by rw [lin_eq]; simp [linOf, hk, hks, kd, gy, hv2]
 rw [hts] at hlen
 have HTX := Lh hts
 have HLN := Lh hlen
 obtain ⟨z15, z16, z17, z18⟩ := kz4 hk 15 16 17 18 rfl
 have z20 : (T.kind == 20) = true := by rw [hk]; rfl
 have z21 : (T.kind == 21) = false := by rw [hk]; rfl
 obtain ⟨hm1, hm2, hrm, hw32, hk1, hk2, hk64, ha64, hts', hKs⟩ := hN.parts
 have hk2' := hk2
 unfold maxLen at hm2 hk2 hts'
 obtain ⟨hk64a, hk64b⟩ := hk64
 obtain ⟨ha64a, ha64b⟩ := ha64
 have hB0 : w0.heap.size ≤ w.heap.size := hBs.size
 have hbX : X < w.heap.size := WrT.lt hW
 have hK0 : WK w0.heap.size X w (w.alloc (bx T.kind T A c (some ⟨b, off, none⟩) d)) := (WK.refl _ _ _).alloc hB0 _
 have hWb := hW.alloc (bx T.kind T A c (some ⟨b, off, none⟩) d)
 have hBb : Below w0.heap.size w0 (w.alloc (bx T.kind T A c (some ⟨b, off, none⟩) d)) := hBs.trans hK0.b
 have hbx := heap_alloc_new w (bx T.kind T A c (some ⟨b, off, none⟩) d)
 have hsg : (w.alloc (bx T.kind T A c (some ⟨b, off, none⟩) d)).heap.size = w.heap.size + 1 := by simp
 clear hKs hN hlen hT hD hWt hrm hw32 hk hts hst hlen3 hks hg0 hN0 hd0 r0 hg1 hN1 hd1 r1 hv hv2 hm0 hL
 obtain ⟨c0, c1, c2, c3, c4, c5⟩ := (cells_box hbx).box
 have hlb := blt c0
 obtain ⟨n00, n01, n02, n03, n04, n05⟩ := hC0.later hBb
 have hlk0 := blt n00
 obtain ⟨n10, n11, n12, n13, n14, n15⟩ := hC1.later hBb
 have hlk1 := blt n10
 have hlX := WrT.lt hWb
 unfold ndV
 go_enter Tryz.func47, Tryz.ntmps47
 go_wp2_with fail
 have hWa := hWb.alloc (.cells #[.string { data := #[99, 108, 97, 115, 115, 32] }, .string T.text] 9)
 have hKa := hK0.alloc (Nat.le_trans hB0 hK0.b.size) (.cells #[.string { data := #[99, 108, 97, 115, 115, 32] }, .string T.text] 9)
 have hbxa := (Lib.alloc_old _ (.cells #[.string { data := #[99, 108, 97, 115, 115, 32] }, .string T.text] 9) _ hlb).trans hbx
 have hlta : X < w.heap.size + 1 := lq17
 go_at_call 80
 refine (wHead_ok w0.heap.size X dep _ ([99, 108, 97, 115, 115, 32] ++ tx T) [⟨#[99, 108, 97, 115, 115, 32]⟩, T.text] 2 _ _ hWa rfl (.inr ⟨w.heap.size + 1, rfl, by omega, lq19⟩) (by simp [tx]) lq28 hdm lq6 (Nat.le_trans hB0 hKa.b.size)).mono ?_
 exact lv42
theorem wl20e (hk : T.kind = 20) (hT : St T) (hv : ∀ t, T.kids[0]? = some t → ¬ t.kind = 0) (hD : T.depth ≤ D + 1) (hWt : T.weight ≤ 1000000) : FSays 47 w0 X dep (fun t => t.lin dep) T := by
 have _ := hdp
 intro A c K d l0 w hN hBs hW hlen
 have hdm : dep ≤ 1000000 := by omega
 have hst : (Tx.name.ev T.text && noNumB T && rowB T.kids [Sh.ev Nd.right (.or2 .none .expr), Sh.ev Nd.right .block]) = true := by
  exact lv164
 have hro : rowB T.kids [Sh.ev Nd.right (.or2 .none .expr), Sh.ev Nd.right .block] = true := (Bool.and_eq_true _ _ ▸ hst).2
 have hlen3 : T.kids.length = 2 := row_len hro
 obtain ⟨t0, t1, hks⟩ := kids_2 (l := T.kids) hlen3
 rw [hks] at hro
 simp only [rowB, Bool.and_eq_true, Bool.and_true] at hro
 obtain ⟨r0, r1⟩ := hro
 have hg0 : T.kids[0]? = some t0 := by rw [hks]; rfl
 obtain ⟨b, off, A0, c0', K0, d0, hKe0, hC0, hN0⟩ := hN.kid hg0
 have hd0 : t0.depth ≤ D ∧ t0.weight ≤ 1000000 := wKM hD hWt t0 (mog hg0)
 have hg1 : T.kids[1]? = some t1 := by rw [hks]; rfl
 obtain ⟨b1, off1, A1, c1', K1, d1, hKe1, hC1, hN1⟩ := hN.kid hg1
 have hd1 : t1.depth ≤ D ∧ t1.weight ≤ 1000000 := wKM hD hWt t1 (mog hg1)
 rw [Nat.zero_mul, Nat.add_zero] at hC0
 subst hKe0
 injection hKe1 with e1
 injection e1 with e1 e2
 subst e1 e2
 rw [show 1 * 6 = 6 from rfl] at hC1
 have hm0 := mb_of r0
 have HN0 := Lh hN0
 have i0 : (0 : Int) < (T.kids.length : Int) := by omega
 have i0' : 0 < T.kids.length := by omega
 have HF1 := Lh (wInner_ok D w0 X dep lq29 hL t1 (blk_of r1) lq29 hd1.2)
 have HN1 := Lh hN1
 have i1 : (1 : Int) < (T.kids.length : Int) := by omega
 have i1' : 1 < T.kids.length := by omega
 have hv2 := hv t0 hg0
 have q2 : (t0.kind != 0) = true := by simp [hv2]
 have HF0 := Lh (wExpr_ok w0 X dep D t0 (hm0.resolve_left hv2) hd0.1 hd0.2)
 have hlen : l0.length + (T.lin dep).length ≤ 1000000000000 := hlen
 have hts : T.lin dep = padL dep ++ [99, 108, 97, 115, 115, 32] ++ tx T ++ [40] ++ t0.txt ++ [41] ++ [58, 10] ++ t1.lin (dep + 1) := by rw [lin_eq]; simp [linOf, hk, hks, kd, gy, hv2]
 rw [hts] at hlen
 have HTX := Lh hts
 have HLN := Lh hlen
 obtain ⟨z15, z16, z17, z18⟩ := kz4 hk 15 16 17 18 rfl
 have z20 : (T.kind == 20) = true := by rw [hk]; rfl
 have z21 : (T.kind == 21) = false := by rw [hk]; rfl
 obtain ⟨hm1, hm2, hrm, hw32, hk1, hk2, hk64, ha64, hts', hKs⟩ := hN.parts
 have hk2' := hk2
 unfold maxLen at hm2 hk2 hts'
 obtain ⟨hk64a, hk64b⟩ := hk64
 obtain ⟨ha64a, ha64b⟩ := ha64
 have hB0 : w0.heap.size ≤ w.heap.size := hBs.size
 have hbX : X < w.heap.size := WrT.lt hW
 have hK0 : WK w0.heap.size X w (w.alloc (bx T.kind T A c (some ⟨b, off, none⟩) d)) := (WK.refl _ _ _).alloc hB0 _
 have hWb := hW.alloc (bx T.kind T A c (some ⟨b, off, none⟩) d)
 have hBb : Below w0.heap.size w0 (w.alloc (bx T.kind T A c (some ⟨b, off, none⟩) d)) := hBs.trans hK0.b
 have hbx := heap_alloc_new w (bx T.kind T A c (some ⟨b, off, none⟩) d)
 have hsg : (w.alloc (bx T.kind T A c (some ⟨b, off, none⟩) d)).heap.size = w.heap.size + 1 := by simp
 clear hKs hN hlen hT hD hWt hrm hw32 hk hts hst hlen3 hks hg0 hN0 hd0 r0 hg1 hN1 hd1 r1 hv hv2 hm0 hL
 obtain ⟨c0, c1, c2, c3, c4, c5⟩ := (cells_box hbx).box
 have hlb := blt c0
 obtain ⟨n00, n01, n02, n03, n04, n05⟩ := hC0.later hBb
 have hlk0 := blt n00
 obtain ⟨n10, n11, n12, n13, n14, n15⟩ := hC1.later hBb
 have hlk1 := blt n10
 have hlX := WrT.lt hWb
 unfold ndV
 go_enter Tryz.func47, Tryz.ntmps47
 go_wp2_with fail
 have hWa := hWb.alloc (.cells #[.string { data := #[99, 108, 97, 115, 115, 32] }, .string T.text] 9)
 have hKa := hK0.alloc (Nat.le_trans hB0 hK0.b.size) (.cells #[.string { data := #[99, 108, 97, 115, 115, 32] }, .string T.text] 9)
 have hbxa := (Lib.alloc_old _ (.cells #[.string { data := #[99, 108, 97, 115, 115, 32] }, .string T.text] 9) _ hlb).trans hbx
 have hlta : X < w.heap.size + 1 := lq17
 go_at_call 80
 refine (wHead_ok w0.heap.size X dep _ ([99, 108, 97, 115, 115, 32] ++ tx T) [⟨#[99, 108, 97, 115, 115, 32]⟩, T.text] 2 _ _ hWa rfl (.inr ⟨w.heap.size + 1, rfl, by omega, lq19⟩) (by simp [tx]) lq28 hdm lq6 (Nat.le_trans hB0 hKa.b.size)).mono ?_
 rintro e w_1 ⟨rfl, hW_1, hk_1⟩
 have hK_1 := hKa.trans hk_1
 have hbx := box_keep hk_1 hbxa hbX
 have hB_1 : Below w0.heap.size w0 w_1 := hBs.trans hK_1.b
 obtain ⟨c0, c1, c2, c3, c4, c5⟩ := (cells_box hbx).box
 have hlb := blt c0
 obtain ⟨n00, n01, n02, n03, n04, n05⟩ := hC0.later hB_1
 have hlk0 := blt n00
 obtain ⟨n10, n11, n12, n13, n14, n15⟩ := hC1.later hB_1
 have hlk1 := blt n10
 have hlX := WrT.lt hW_1
 go_wp2_with fail
 have hWa := hW_1.alloc (.cells #[.string { data := #[40] }] 9)
 have hKa := hK_1.alloc (Nat.le_trans hB0 hK_1.b.size) (.cells #[.string { data := #[40] }] 9)
 have hbxa := (Lib.alloc_old _ (.cells #[.string { data := #[40] }] 9) _ hlb).trans hbx
 go_at_call 84
 refine (wSayT_ok w0.heap.size X dep _ ([40]) [⟨#[40]⟩] 1 _ _ hWa rfl (WrT.lt hW_1) (heap_alloc_new _ _) rfl lq28 lq8 (Nat.le_trans hB0 hKa.b.size)).mono ?_
 rintro e w_2 ⟨rfl, hW_2, hk_2⟩
 have hK_2 := hKa.trans hk_2
 have hbx := box_keep hk_2 hbxa hbX
 have hB_2 : Below w0.heap.size w0 w_2 := hBs.trans hK_2.b
 obtain ⟨c0, c1, c2, c3, c4, c5⟩ := (cells_box hbx).box
 have hlb := blt c0
 obtain ⟨n00, n01, n02, n03, n04, n05⟩ := hC0.later hB_2
 have hlk0 := blt n00
 obtain ⟨n10, n11, n12, n13, n14, n15⟩ := hC1.later hB_2
 have hlk1 := blt n10
 have hlX := WrT.lt hW_2
 go_wp2_with fail
 have hI := HF0.out A0 c0' K0 d0 _ _ HN0.out hB_2 hW_2 lq8
 unfold ndV at hI
 go_at_call 81
 refine hI.mono ?_
 rintro e w_3 ⟨rfl, hW_3, hk_3⟩
 have hK_3 := hK_2.trans hk_3
 have hbx := box_keep hk_3 hbx hbX
 clear hI
 have hB_3 : Below w0.heap.size w0 w_3 := hBs.trans hK_3.b
 obtain ⟨c0, c1, c2, c3, c4, c5⟩ := (cells_box hbx).box
 have hlb := blt c0
 obtain ⟨n00, n01, n02, n03, n04, n05⟩ := hC0.later hB_3
 have hlk0 := blt n00
 obtain ⟨n10, n11, n12, n13, n14, n15⟩ := hC1.later hB_3
 have hlk1 := blt n10
 have hlX := WrT.lt hW_3
 go_wp2_with fail
 have hWa := hW_3.alloc (.cells #[.string { data := #[41] }] 9)
 have hKa := hK_3.alloc (Nat.le_trans hB0 hK_3.b.size) (.cells #[.string { data := #[41] }] 9)
 have hbxa := (Lib.alloc_old _ (.cells #[.string { data := #[41] }] 9) _ hlb).trans hbx
 go_at_call 84
 refine (wSayT_ok w0.heap.size X dep _ ([41]) [⟨#[41]⟩] 1 _ _ hWa rfl (WrT.lt hW_3) (heap_alloc_new _ _) rfl lq28 lq8 (Nat.le_trans hB0 hKa.b.size)).mono ?_
 exact lv43
end

end
end Go.Proofs.YtjefhdlncikhmaaGreatDoor
