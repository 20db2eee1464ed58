/- Joined by a program: Wr6c. -/
import Derived.Test.YtjefhdlncikhmaaGreatDoorPT28
namespace Go.Proofs.YtjefhdlncikhmaaGreatDoor
set_option linter.unusedVariables false
set_option linter.unusedSimpArgs false
set_option maxRecDepth 1000000
set_option maxHeartbeats 16000000
section
open Go.RowKit
open List (length_append length_cons length_nil length_singleton)
section
variable (D : Nat) (w0 : World) (X dep : Nat) (hdp : dep + (D + 1) ≤ 1000000) (hL : LOk D w0 X) (T : Nd)
include D w0 X dep hdp hL T
theorem wl15z (hk : T.kind = 15) (hT : St T) (hv : ∀ t, T.kids[2]? = some t → t.kind = 0) (hD : T.depth ≤ D + 1) (hWt : T.weight ≤ 1000000) : FSays 47 w0 X dep (fun t => t.lin dep) T := by
 have _ := hdp
 intro A c K d l0 w hN hBs hW hlen
 have hdm : dep ≤ 1000000 := by omega
 have hst : (Tx.non.ev T.text && noNumB T && rowB T.kids [Sh.ev Nd.right .expr, Sh.ev Nd.right .block, Sh.ev Nd.right (.or2 .none .block)]) = true := by
  exact lv157
 have hro : rowB T.kids [Sh.ev Nd.right .expr, Sh.ev Nd.right .block, Sh.ev Nd.right (.or2 .none .block)] = true := (Bool.and_eq_true _ _ ▸ hst).2
 have hlen3 : T.kids.length = 3 := row_len hro
 obtain ⟨t0, t1, t2, hks⟩ := kids_3 (l := T.kids) hlen3
 rw [hks] at hro
 simp only [rowB, Bool.and_eq_true, Bool.and_true] at hro
 obtain ⟨r0, r1, r2⟩ := hro
 have hg0 : T.kids[0]? = some t0 := by rw [hks]; rfl
 obtain ⟨b, off, A0, c0', K0, d0, hKe0, hC0, hN0⟩ := hN.kid hg0
 have hd0 : t0.depth ≤ D ∧ t0.weight ≤ 1000000 := wKM hD hWt t0 (mog hg0)
 have hg1 : T.kids[1]? = some t1 := by rw [hks]; rfl
 obtain ⟨b1, off1, A1, c1', K1, d1, hKe1, hC1, hN1⟩ := hN.kid hg1
 have hd1 : t1.depth ≤ D ∧ t1.weight ≤ 1000000 := wKM hD hWt t1 (mog hg1)
 have hg2 : T.kids[2]? = some t2 := by rw [hks]; rfl
 obtain ⟨b2, off2, A2, c2', K2, d2, hKe2, hC2, hN2⟩ := hN.kid hg2
 have hd2 : t2.depth ≤ D ∧ t2.weight ≤ 1000000 := wKM hD hWt t2 (mog hg2)
 rw [Nat.zero_mul, Nat.add_zero] at hC0
 subst hKe0
 injection hKe1 with e1
 injection e1 with e1 e2
 subst e1 e2
 rw [show 1 * 6 = 6 from rfl] at hC1
 injection hKe2 with e1
 injection e1 with e1 e2
 subst e1 e2
 rw [show 2 * 6 = 12 from rfl] at hC2
 have HF0 := Lh (wExpr_ok w0 X dep D t0 (ev_ex r0) hd0.1 hd0.2)
 have HN0 := Lh hN0
 have i0 : (0 : Int) < (T.kids.length : Int) := by omega
 have i0' : 0 < T.kids.length := by omega
 have HF1 := Lh (wInner_ok D w0 X dep lq29 hL t1 (blk_of r1) lq29 hd1.2)
 have HN1 := Lh hN1
 have i1 : (1 : Int) < (T.kids.length : Int) := by omega
 have i1' : 1 < T.kids.length := by omega
 have HN2 := Lh hN2
 have i2 : (2 : Int) < (T.kids.length : Int) := by omega
 have i2' : 2 < T.kids.length := by omega
 have hv2 := hv t2 hg2
 have q2 : (t2.kind == 2) = false := by simp [hv2]
 have hlen : l0.length + (T.lin dep).length ≤ 1000000000000 := hlen
 have hts : T.lin dep = padL dep ++ [105, 102, 32] ++ t0.txt ++ [58, 10] ++ t1.lin (dep + 1) := by rw [lin_eq]; simp [linOf, hk, hks, kd, gy, hv2]
 rw [hts] at hlen
 have HTX := Lh hts
 have HLN := Lh hlen
 have z15 : (T.kind == 15) = true := by rw [hk]; rfl
 obtain ⟨z16, z17, z18, z20, z21⟩ := kz5 hk 16 17 18 20 21 rfl
 obtain ⟨hm1, hm2, hrm, hw32, hk1, hk2, hk64, ha64, hts', hKs⟩ := hN.parts
 have hk2' := hk2
 unfold maxLen at hm2 hk2 hts'
 obtain ⟨hk64a, hk64b⟩ := hk64
 obtain ⟨ha64a, ha64b⟩ := ha64
 have hB0 : w0.heap.size ≤ w.heap.size := hBs.size
 have hbX : X < w.heap.size := WrT.lt hW
 have hK0 : WK w0.heap.size X w (w.alloc (bx T.kind T A c (some ⟨b, off, none⟩) d)) := (WK.refl _ _ _).alloc hB0 _
 have hWb := hW.alloc (bx T.kind T A c (some ⟨b, off, none⟩) d)
 have hBb : Below w0.heap.size w0 (w.alloc (bx T.kind T A c (some ⟨b, off, none⟩) d)) := hBs.trans hK0.b
 have hbx := heap_alloc_new w (bx T.kind T A c (some ⟨b, off, none⟩) d)
 have hsg : (w.alloc (bx T.kind T A c (some ⟨b, off, none⟩) d)).heap.size = w.heap.size + 1 := by simp
 clear hKs hN hlen hT hD hWt hrm hw32 hk hts hst hlen3 hks hg0 hN0 hd0 r0 hg1 hN1 hd1 r1 hg2 hN2 hd2 r2 hv hv2 hL
 obtain ⟨c0, c1, c2, c3, c4, c5⟩ := (cells_box hbx).box
 have hlb := blt c0
 obtain ⟨n00, n01, n02, n03, n04, n05⟩ := hC0.later hBb
 have hlk0 := blt n00
 obtain ⟨n10, n11, n12, n13, n14, n15⟩ := hC1.later hBb
 have hlk1 := blt n10
 obtain ⟨n20, n21, n22, n23, n24, n25⟩ := hC2.later hBb
 have hlk2 := blt n20
 have hlX := WrT.lt hWb
 unfold ndV
 go_enter Tryz.func47, Tryz.ntmps47
 go_wp2_with fail
 have hWa := hWb.alloc (.cells #[.string { data := #[105, 102, 32] }] 9)
 have hKa := hK0.alloc (Nat.le_trans hB0 hK0.b.size) (.cells #[.string { data := #[105, 102, 32] }] 9)
 have hbxa := (Lib.alloc_old _ (.cells #[.string { data := #[105, 102, 32] }] 9) _ hlb).trans hbx
 have hlta : X < w.heap.size + 1 := lq17
 go_at_call 80
 refine (wHead_ok w0.heap.size X dep _ ([105, 102, 32]) [⟨#[105, 102, 32]⟩] 1 _ _ hWa rfl (.inr ⟨w.heap.size + 1, rfl, by omega, lq19⟩) rfl lq28 hdm lq6 (Nat.le_trans hB0 hKa.b.size)).mono ?_
 rintro e w_1 ⟨rfl, hW_1, hk_1⟩
 have hK_1 := hKa.trans hk_1
 have hbx := box_keep hk_1 hbxa hbX
 have hB_1 : Below w0.heap.size w0 w_1 := hBs.trans hK_1.b
 obtain ⟨c0, c1, c2, c3, c4, c5⟩ := (cells_box hbx).box
 have hlb := blt c0
 obtain ⟨n00, n01, n02, n03, n04, n05⟩ := hC0.later hB_1
 have hlk0 := blt n00
 obtain ⟨n10, n11, n12, n13, n14, n15⟩ := hC1.later hB_1
 have hlk1 := blt n10
 obtain ⟨n20, n21, n22, n23, n24, n25⟩ := hC2.later hB_1
 have hlk2 := blt n20
 have hlX := WrT.lt hW_1
 go_wp2_with fail
 have hI := HF0.out A0 c0' K0 d0 _ _ HN0.out hB_1 hW_1 lq8
 unfold ndV at hI
 go_at_call 81
 refine hI.mono ?_
 rintro e w_2 ⟨rfl, hW_2, hk_2⟩
 have hK_2 := hK_1.trans hk_2
 have hbx := box_keep hk_2 hbx hbX
 clear hI
 have hB_2 : Below w0.heap.size w0 w_2 := hBs.trans hK_2.b
 obtain ⟨c0, c1, c2, c3, c4, c5⟩ := (cells_box hbx).box
 have hlb := blt c0
 obtain ⟨n00, n01, n02, n03, n04, n05⟩ := hC0.later hB_2
 have hlk0 := blt n00
 obtain ⟨n10, n11, n12, n13, n14, n15⟩ := hC1.later hB_2
 have hlk1 := blt n10
 obtain ⟨n20, n21, n22, n23, n24, n25⟩ := hC2.later hB_2
 have hlk2 := blt n20
 have hlX := WrT.lt hW_2
 go_wp2_with fail
 have hI := HF1.out A1 c1' K1 d1 _ _ HN1.out hB_2 hW_2 lq8
 unfold ndV at hI
 go_at_call 82
 refine hI.mono ?_
 rintro e w_3 ⟨rfl, hW_3, hk_3⟩
 have hK_3 := hK_2.trans hk_3
 have hbx := box_keep hk_3 hbx hbX
 clear hI
 have hB_3 : Below w0.heap.size w0 w_3 := hBs.trans hK_3.b
 obtain ⟨c0, c1, c2, c3, c4, c5⟩ := (cells_box hbx).box
 have hlb := blt c0
 obtain ⟨n00, n01, n02, n03, n04, n05⟩ := hC0.later hB_3
 have hlk0 := blt n00
 obtain ⟨n10, n11, n12, n13, n14, n15⟩ := hC1.later hB_3
 have hlk1 := blt n10
 obtain ⟨n20, n21, n22, n23, n24, n25⟩ := hC2.later hB_3
 have hlk2 := blt n20
 exact lv160
theorem wl15b (hk : T.kind = 15) (hT : St T) (hv : ∀ t, T.kids[2]? = some t → ¬ t.kind = 0) (hD : T.depth ≤ D + 1) (hWt : T.weight ≤ 1000000) : FSays 47 w0 X dep (fun t => t.lin dep) T := by
 have _ := hdp
 intro A c K d l0 w hN hBs hW hlen
 have hdm : dep ≤ 1000000 := by omega
 have hst : (Tx.non.ev T.text && noNumB T && rowB T.kids [Sh.ev Nd.right .expr, Sh.ev Nd.right .block, Sh.ev Nd.right (.or2 .none .block)]) = true := by
  exact lv157
 have hro : rowB T.kids [Sh.ev Nd.right .expr, Sh.ev Nd.right .block, Sh.ev Nd.right (.or2 .none .block)] = true := (Bool.and_eq_true _ _ ▸ hst).2
 have hlen3 : T.kids.length = 3 := row_len hro
 obtain ⟨t0, t1, t2, hks⟩ := kids_3 (l := T.kids) hlen3
 rw [hks] at hro
 simp only [rowB, Bool.and_eq_true, Bool.and_true] at hro
 obtain ⟨r0, r1, r2⟩ := hro
 have hg0 : T.kids[0]? = some t0 := by rw [hks]; rfl
 obtain ⟨b, off, A0, c0', K0, d0, hKe0, hC0, hN0⟩ := hN.kid hg0
 have hd0 : t0.depth ≤ D ∧ t0.weight ≤ 1000000 := wKM hD hWt t0 (mog hg0)
 have hg1 : T.kids[1]? = some t1 := by rw [hks]; rfl
 obtain ⟨b1, off1, A1, c1', K1, d1, hKe1, hC1, hN1⟩ := hN.kid hg1
 have hd1 : t1.depth ≤ D ∧ t1.weight ≤ 1000000 := wKM hD hWt t1 (mog hg1)
 have hg2 : T.kids[2]? = some t2 := by rw [hks]; rfl
 obtain ⟨b2, off2, A2, c2', K2, d2, hKe2, hC2, hN2⟩ := hN.kid hg2
 have hd2 : t2.depth ≤ D ∧ t2.weight ≤ 1000000 := wKM hD hWt t2 (mog hg2)
 rw [Nat.zero_mul, Nat.add_zero] at hC0
 subst hKe0
 injection hKe1 with e1
 injection e1 with e1 e2
 subst e1 e2
 rw [show 1 * 6 = 6 from rfl] at hC1
 injection hKe2 with e1
 injection e1 with e1 e2
 subst e1 e2
 rw [show 2 * 6 = 12 from rfl] at hC2
 have HF0 := Lh (wExpr_ok w0 X dep D t0 (ev_ex r0) hd0.1 hd0.2)
 have HN0 := Lh hN0
 have i0 : (0 : Int) < (T.kids.length : Int) := by omega
 have i0' : 0 < T.kids.length := by omega
 have HF1 := Lh (wInner_ok D w0 X dep lq29 hL t1 (blk_of r1) lq29 hd1.2)
 have HN1 := Lh hN1
 have i1 : (1 : Int) < (T.kids.length : Int) := by omega
 have i1' : 1 < T.kids.length := by omega
 have HN2 := Lh hN2
 have i2 : (2 : Int) < (T.kids.length : Int) := by omega
 have i2' : 2 < T.kids.length := by omega
 have hv2 := hv t2 hg2
 have hb2 : Sh.block.ev Nd.right t2 = true := by
  rcases Bool.or_eq_true _ _ ▸ (show (Sh.none.ev Nd.right t2 || Sh.block.ev Nd.right t2) = true from r2) with h | h
  ·exact absurd (kind_none h) hv2
  ·exact h
 have hk22 : t2.kind = 2 := by have := blk_of hb2; simp only [Sh.ev, Bool.and_eq_true, beq_iff_eq] at this; exact this.1
 have q2 : (t2.kind == 2) = true := by simp [hk22]
 have HF2 := Lh (wInner_ok D w0 X dep lq29 hL t2 (blk_of hb2) lq29 hd2.2)
 have hlen : l0.length + (T.lin dep).length ≤ 1000000000000 := hlen
 have hts : T.lin dep = padL dep ++ [105, 102, 32] ++ t0.txt ++ [58, 10] ++ t1.lin (dep + 1) ++ padL dep ++ [101, 108, 115, 101] ++ [58, 10] ++ t2.lin (dep + 1) := by rw [lin_eq]; simp [linOf, hk, hks, kd, gy, hv2]
 rw [hts] at hlen
 have HTX := Lh hts
 have HLN := Lh hlen
 have z15 : (T.kind == 15) = true := by rw [hk]; rfl
 obtain ⟨z16, z17, z18, z20, z21⟩ := kz5 hk 16 17 18 20 21 rfl
 obtain ⟨hm1, hm2, hrm, hw32, hk1, hk2, hk64, ha64, hts', hKs⟩ := hN.parts
 have hk2' := hk2
 unfold maxLen at hm2 hk2 hts'
 obtain ⟨hk64a, hk64b⟩ := hk64
 obtain ⟨ha64a, ha64b⟩ := ha64
 have hB0 : w0.heap.size ≤ w.heap.size := hBs.size
 have hbX : X < w.heap.size := WrT.lt hW
 have hK0 : WK w0.heap.size X w (w.alloc (bx T.kind T A c (some ⟨b, off, none⟩) d)) := (WK.refl _ _ _).alloc hB0 _
 have hWb := hW.alloc (bx T.kind T A c (some ⟨b, off, none⟩) d)
 have hBb : Below w0.heap.size w0 (w.alloc (bx T.kind T A c (some ⟨b, off, none⟩) d)) := hBs.trans hK0.b
 have hbx := heap_alloc_new w (bx T.kind T A c (some ⟨b, off, none⟩) d)
 have hsg : (w.alloc (bx T.kind T A c (some ⟨b, off, none⟩) d)).heap.size = w.heap.size + 1 := by simp
 clear hKs hN hlen hT hD hWt hrm hw32 hk hts hst hlen3 hks hg0 hN0 hd0 r0 hg1 hN1 hd1 r1 hg2 hN2 hd2 r2 hv hv2 hb2 hk22 hL
 obtain ⟨c0, c1, c2, c3, c4, c5⟩ := (cells_box hbx).box
 have hlb := blt c0
 obtain ⟨n00, n01, n02, n03, n04, n05⟩ := hC0.later hBb
 have hlk0 := blt n00
 obtain ⟨n10, n11, n12, n13, n14, n15⟩ := hC1.later hBb
 have hlk1 := blt n10
 obtain ⟨n20, n21, n22, n23, n24, n25⟩ := hC2.later hBb
 have hlk2 := blt n20
 have hlX := WrT.lt hWb
 unfold ndV
 go_enter Tryz.func47, Tryz.ntmps47
 go_wp2_with fail
 have hWa := hWb.alloc (.cells #[.string { data := #[105, 102, 32] }] 9)
 have hKa := hK0.alloc (Nat.le_trans hB0 hK0.b.size) (.cells #[.string { data := #[105, 102, 32] }] 9)
 have hbxa := (Lib.alloc_old _ (.cells #[.string { data := #[105, 102, 32] }] 9) _ hlb).trans hbx
 have hlta : X < w.heap.size + 1 := lq17
 go_at_call 80
 refine (wHead_ok w0.heap.size X dep _ ([105, 102, 32]) [⟨#[105, 102, 32]⟩] 1 _ _ hWa rfl (.inr ⟨w.heap.size + 1, rfl, by omega, lq19⟩) rfl lq28 hdm lq6 (Nat.le_trans hB0 hKa.b.size)).mono ?_
 rintro e w_1 ⟨rfl, hW_1, hk_1⟩
 have hK_1 := hKa.trans hk_1
 have hbx := box_keep hk_1 hbxa hbX
 have hB_1 : Below w0.heap.size w0 w_1 := hBs.trans hK_1.b
 obtain ⟨c0, c1, c2, c3, c4, c5⟩ := (cells_box hbx).box
 have hlb := blt c0
 obtain ⟨n00, n01, n02, n03, n04, n05⟩ := hC0.later hB_1
 have hlk0 := blt n00
 obtain ⟨n10, n11, n12, n13, n14, n15⟩ := hC1.later hB_1
 have hlk1 := blt n10
 obtain ⟨n20, n21, n22, n23, n24, n25⟩ := hC2.later hB_1
 have hlk2 := blt n20
 have hlX := WrT.lt hW_1
 go_wp2_with fail
 have hI := HF0.out A0 c0' K0 d0 _ _ HN0.out hB_1 hW_1 lq8
 unfold ndV at hI
 go_at_call 81
 refine hI.mono ?_
 rintro e w_2 ⟨rfl, hW_2, hk_2⟩
 have hK_2 := hK_1.trans hk_2
 have hbx := box_keep hk_2 hbx hbX
 clear hI
 have hB_2 : Below w0.heap.size w0 w_2 := hBs.trans hK_2.b
 obtain ⟨c0, c1, c2, c3, c4, c5⟩ := (cells_box hbx).box
 have hlb := blt c0
 obtain ⟨n00, n01, n02, n03, n04, n05⟩ := hC0.later hB_2
 have hlk0 := blt n00
 obtain ⟨n10, n11, n12, n13, n14, n15⟩ := hC1.later hB_2
 have hlk1 := blt n10
 obtain ⟨n20, n21, n22, n23, n24, n25⟩ := hC2.later hB_2
 have hlk2 := blt n20
 have hlX := WrT.lt hW_2
 go_wp2_with fail
 have hI := HF1.out A1 c1' K1 d1 _ _ HN1.out hB_2 hW_2 lq8
 unfold ndV at hI
 go_at_call 82
 refine hI.mono ?_
 rintro e w_3 ⟨rfl, hW_3, hk_3⟩
 have hK_3 := hK_2.trans hk_3
 have hbx := box_keep hk_3 hbx hbX
 clear hI
 have hB_3 : Below w0.heap.size w0 w_3 := hBs.trans hK_3.b
 obtain ⟨c0, c1, c2, c3, c4, c5⟩ := (cells_box hbx).box
 have hlb := blt c0
 obtain ⟨n00, n01, n02, n03, n04, n05⟩ := hC0.later hB_3
 have hlk0 := blt n00
 obtain ⟨n10, n11, n12, n13, n14, n15⟩ := hC1.later hB_3
 have hlk1 := blt n10
 obtain ⟨n20, n21, n22, n23, n24, n25⟩ := hC2.later hB_3
 have hlk2 := blt n20
 have hlX := WrT.lt hW_3
 go_wp2_with fail
 have hWa := hW_3.alloc (.cells #[.string { data := #[101, 108, 115, 101] }] 9)
 have hKa := hK_3.alloc (Nat.le_trans hB0 hK_3.b.size) (.cells #[.string { data := #[101, 108, 115, 101] }] 9)
 have hbxa := (Lib.alloc_old _ (.cells #[.string { data := #[101, 108, 115, 101] }] 9) _ hlb).trans hbx
 have hlta : X < w_3.heap.size := (WrT.lt hW_3)
 go_at_call 80
 refine (wHead_ok w0.heap.size X dep _ ([101, 108, 115, 101]) [⟨#[101, 108, 115, 101]⟩] 1 _ _ hWa rfl (.inr ⟨_, rfl, by omega, (heap_alloc_new _ _)⟩) rfl lq28 hdm lq6 (Nat.le_trans hB0 hKa.b.size)).mono ?_
 rintro e w_4 ⟨rfl, hW_4, hk_4⟩
 have hK_4 := hKa.trans hk_4
 have hbx := box_keep hk_4 hbxa hbX
 exact lv41
theorem wl16 (hk : T.kind = 16) (hT : St T) (hD : T.depth ≤ D + 1) (hWt : T.weight ≤ 1000000) : FSays 47 w0 X dep (fun t => t.lin dep) T := by
 have _ := hdp
 intro A c K d l0 w hN hBs hW hlen
 have hdm : dep ≤ 1000000 := by omega
 have hst : (Tx.non.ev T.text && noNumB T && rowB T.kids [Sh.ev Nd.right .expr, Sh.ev Nd.right .block]) = true := by
  exact lv171
 have hro : rowB T.kids [Sh.ev Nd.right .expr, Sh.ev Nd.right .block] = true := (Bool.and_eq_true _ _ ▸ hst).2
 have hlen3 : T.kids.length = 2 := row_len hro
 obtain ⟨t0, t1, hks⟩ := kids_2 (l := T.kids) hlen3
 rw [hks] at hro
 simp only [rowB, Bool.and_eq_true, Bool.and_true] at hro
 obtain ⟨r0, r1⟩ := hro
 have hg0 : T.kids[0]? = some t0 := by rw [hks]; rfl
 obtain ⟨b, off, A0, c0', K0, d0, hKe0, hC0, hN0⟩ := hN.kid hg0
 have hd0 : t0.depth ≤ D ∧ t0.weight ≤ 1000000 := wKM hD hWt t0 (mog hg0)
 have hg1 : T.kids[1]? = some t1 := by rw [hks]; rfl
 obtain ⟨b1, off1, A1, c1', K1, d1, hKe1, hC1, hN1⟩ := hN.kid hg1
 have hd1 : t1.depth ≤ D ∧ t1.weight ≤ 1000000 := wKM hD hWt t1 (mog hg1)
 rw [Nat.zero_mul, Nat.add_zero] at hC0
 subst hKe0
 injection hKe1 with e1
 injection e1 with e1 e2
 subst e1 e2
 rw [show 1 * 6 = 6 from rfl] at hC1
 have HF0 := Lh (wExpr_ok w0 X dep D t0 (ev_ex r0) hd0.1 hd0.2)
 have HN0 := Lh hN0
 have i0 : (0 : Int) < (T.kids.length : Int) := by omega
 have i0' : 0 < T.kids.length := by omega
 have HF1 := Lh (wInner_ok D w0 X dep lq29 hL t1 (blk_of r1) lq29 hd1.2)
 have HN1 := Lh hN1
 have i1 : (1 : Int) < (T.kids.length : Int) := by omega
 have i1' : 1 < T.kids.length := by omega
 have hlen : l0.length + (T.lin dep).length ≤ 1000000000000 := hlen
 have hts : T.lin dep = padL dep ++ [119, 104, 105, 108, 101, 32] ++ t0.txt ++ [58, 10] ++ t1.lin (dep + 1) := by rw [lin_eq]; simp [linOf, hk, hks, kd, gy]
 rw [hts] at hlen
 have HTX := Lh hts
 have HLN := Lh hlen
 have z15 : (T.kind == 15) = false := by rw [hk]; rfl
 have z16 : (T.kind == 16) = true := by rw [hk]; rfl
 obtain ⟨z17, z18, z20, z21⟩ := kz4 hk 17 18 20 21 rfl
 obtain ⟨hm1, hm2, hrm, hw32, hk1, hk2, hk64, ha64, hts', hKs⟩ := hN.parts
 have hk2' := hk2
 unfold maxLen at hm2 hk2 hts'
 obtain ⟨hk64a, hk64b⟩ := hk64
 obtain ⟨ha64a, ha64b⟩ := ha64
 have hB0 : w0.heap.size ≤ w.heap.size := hBs.size
 have hbX : X < w.heap.size := WrT.lt hW
 have hK0 : WK w0.heap.size X w (w.alloc (bx T.kind T A c (some ⟨b, off, none⟩) d)) := (WK.refl _ _ _).alloc hB0 _
 have hWb := hW.alloc (bx T.kind T A c (some ⟨b, off, none⟩) d)
 have hBb : Below w0.heap.size w0 (w.alloc (bx T.kind T A c (some ⟨b, off, none⟩) d)) := hBs.trans hK0.b
 have hbx := heap_alloc_new w (bx T.kind T A c (some ⟨b, off, none⟩) d)
 have hsg : (w.alloc (bx T.kind T A c (some ⟨b, off, none⟩) d)).heap.size = w.heap.size + 1 := by simp
 clear hKs hN hlen hT hD hWt hrm hw32 hk hts hst hlen3 hks hg0 hN0 hd0 r0 hg1 hN1 hd1 r1 hL
 obtain ⟨c0, c1, c2, c3, c4, c5⟩ := (cells_box hbx).box
 have hlb := blt c0
 obtain ⟨n00, n01, n02, n03, n04, n05⟩ := hC0.later hBb
 have hlk0 := blt n00
 obtain ⟨n10, n11, n12, n13, n14, n15⟩ := hC1.later hBb
 have hlk1 := blt n10
 have hlX := WrT.lt hWb
 unfold ndV
 go_enter Tryz.func47, Tryz.ntmps47
 go_wp2_with fail
 have hWa := hWb.alloc (.cells #[.string { data := #[119, 104, 105, 108, 101, 32] }] 9)
 have hKa := hK0.alloc (Nat.le_trans hB0 hK0.b.size) (.cells #[.string { data := #[119, 104, 105, 108, 101, 32] }] 9)
 have hbxa := (Lib.alloc_old _ (.cells #[.string { data := #[119, 104, 105, 108, 101, 32] }] 9) _ hlb).trans hbx
 have hlta : X < w.heap.size + 1 := lq17
 go_at_call 80
 refine (wHead_ok w0.heap.size X dep _ ([119, 104, 105, 108, 101, 32]) [⟨#[119, 104, 105, 108, 101, 32]⟩] 1 _ _ hWa rfl (.inr ⟨w.heap.size + 1, rfl, by omega, lq19⟩) rfl lq28 hdm lq6 (Nat.le_trans hB0 hKa.b.size)).mono ?_
 rintro e w_1 ⟨rfl, hW_1, hk_1⟩
 have hK_1 := hKa.trans hk_1
 have hbx := box_keep hk_1 hbxa hbX
 have hB_1 : Below w0.heap.size w0 w_1 := hBs.trans hK_1.b
 obtain ⟨c0, c1, c2, c3, c4, c5⟩ := (cells_box hbx).box
 have hlb := blt c0
 obtain ⟨n00, n01, n02, n03, n04, n05⟩ := hC0.later hB_1
 have hlk0 := blt n00
 obtain ⟨n10, n11, n12, n13, n14, n15⟩ := hC1.later hB_1
 have hlk1 := blt n10
 have hlX := WrT.lt hW_1
 go_wp2_with fail
 have hI := HF0.out A0 c0' K0 d0 _ _ HN0.out hB_1 hW_1 lq8
 unfold ndV at hI
 go_at_call 81
 refine hI.mono ?_
 rintro e w_2 ⟨rfl, hW_2, hk_2⟩
 have hK_2 := hK_1.trans hk_2
 have hbx := box_keep hk_2 hbx hbX
 clear hI
 have hB_2 : Below w0.heap.size w0 w_2 := hBs.trans hK_2.b
 obtain ⟨c0, c1, c2, c3, c4, c5⟩ := (cells_box hbx).box
 have hlb := blt c0
 obtain ⟨n00, n01, n02, n03, n04, n05⟩ := hC0.later hB_2
 have hlk0 := blt n00
 obtain ⟨n10, n11, n12, n13, n14, n15⟩ := hC1.later hB_2
 have hlk1 := blt n10
 have hlX := WrT.lt hW_2
 go_wp2_with fail
 have hI := HF1.out A1 c1' K1 d1 _ _ HN1.out hB_2 hW_2 lq8
 unfold ndV at hI
 go_at_call 82
 refine hI.mono ?_
 rintro e w_3 ⟨rfl, hW_3, hk_3⟩
 have hK_3 := hK_2.trans hk_3
 have hbx := box_keep hk_3 hbx hbX
 clear hI
 have hB_3 : Below w0.heap.size w0 w_3 := hBs.trans hK_3.b
 obtain ⟨c0, c1, c2, c3, c4, c5⟩ := (cells_box hbx).box
 have hlb := blt c0
 obtain ⟨n00, n01, n02, n03, n04, n05⟩ := hC0.later hB_3
 have hlk0 := blt n00
 obtain ⟨n10, n11, n12, n13, n14, n15⟩ := hC1.later hB_3
 have hlk1 := blt n10
 exact lv160
end

end
end Go.Proofs.YtjefhdlncikhmaaGreatDoor
