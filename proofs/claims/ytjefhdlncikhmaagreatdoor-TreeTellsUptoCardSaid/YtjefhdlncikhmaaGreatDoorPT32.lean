/- Joined by a program: Wr6e, Wr6f. -/
import Derived.Test.YtjefhdlncikhmaaGreatDoorPT28
namespace Go.Proofs.YtjefhdlncikhmaaGreatDoor
set_option linter.unusedVariables false
set_option linter.unusedSimpArgs false
set_option maxRecDepth 1000000
set_option maxHeartbeats 16000000
section
open Go.RowKit
open List (length_append length_cons length_nil length_singleton)
section
variable (D : Nat) (w0 : World) (X dep : Nat) (hdp : dep + (D + 1) ≤ 1000000)
include D w0 X dep hdp
theorem wl_simple (T : Nd) (hS : FSays 88 w0 X dep simpL T) (hk : 3 ≤ T.kind ∧ T.kind ≤ 14) : FSays 47 w0 X dep (fun t => t.lin dep) T := by
 have _ := D
 have _ := hdp
 intro A c K d l0 w hN hBs hW hlen
 have hdm : dep ≤ 1000000 := by omega
 have hlen : l0.length + (T.lin dep).length ≤ 1000000000000 := hlen
 have hts : T.lin dep = padL dep ++ simpL T ++ [10] := lin_simp hk dep
 rw [hts] at hlen
 have HTX := Lh hts
 have HLN := Lh hlen
 have HS := Lh hS
 have HNT := Lh hN
 have z15 : (T.kind == 15) = false := bFo
 have z16 : (T.kind == 16) = false := bFo
 have z17 : (T.kind == 17) = false := bFo
 have z18 : (T.kind == 18) = false := bFo
 have z20 : (T.kind == 20) = false := bFo
 have z21 : (T.kind == 21) = false := bFo
 obtain ⟨hm1, hm2, hrm, hw32, hk1, hk2, hk64, ha64, hts', hKs⟩ := hN.parts
 have hk2' := hk2
 unfold maxLen at hm2 hk2 hts'
 obtain ⟨hk64a, hk64b⟩ := hk64
 obtain ⟨ha64a, ha64b⟩ := ha64
 have hB0 : w0.heap.size ≤ w.heap.size := hBs.size
 have hbX : X < w.heap.size := WrT.lt hW
 have hK0 : WK w0.heap.size X w (w.alloc (bx T.kind T A c K d)) := (WK.refl _ _ _).alloc hB0 _
 have hWb := hW.alloc (bx T.kind T A c K d)
 have hBb : Below w0.heap.size w0 (w.alloc (bx T.kind T A c K d)) := hBs.trans hK0.b
 have hbx := heap_alloc_new w (bx T.kind T A c K d)
 have hsg : (w.alloc (bx T.kind T A c K d)).heap.size = w.heap.size + 1 := by simp
 clear hKs hN hlen hrm hw32 hk hts hS
 obtain ⟨c0, c1, c2, c3, c4, c5⟩ := (cells_box hbx).box
 have hlb := blt c0
 have hlX := WrT.lt hWb
 unfold ndV
 go_enter Tryz.func47, Tryz.ntmps47
 go_wp2_with fail
 go_at_call 80
 refine (wHead_ok w0.heap.size X dep _ [] [] 0 none _ hWb rfl (.inl rfl) rfl lq28 hdm lq6 (Nat.le_trans hB0 hK0.b.size)).mono ?_
 rintro e w_1 ⟨rfl, hW_1, hk_1⟩
 have hK_1 := hK0.trans hk_1
 have hbx := box_keep hk_1 hbx hbX
 have hB_1 : Below w0.heap.size w0 w_1 := hBs.trans hK_1.b
 obtain ⟨c0, c1, c2, c3, c4, c5⟩ := (cells_box hbx).box
 have hlb := blt c0
 have hlX := WrT.lt hW_1
 go_wp2_with fail
 have hI := HS.out A c K d _ _ HNT.out hB_1 hW_1 lq8
 unfold ndV at hI
 go_at_call 88
 refine hI.mono ?_
 rintro e w_2 ⟨rfl, hW_2, hk_2⟩
 have hK_2 := hK_1.trans hk_2
 have hbx := box_keep hk_2 hbx hbX
 clear hI
 have hB_2 : Below w0.heap.size w0 w_2 := hBs.trans hK_2.b
 obtain ⟨c0, c1, c2, c3, c4, c5⟩ := (cells_box hbx).box
 have hlb := blt c0
 have hlX := WrT.lt hW_2
 go_wp2_with fail
 have hWa := hW_2.alloc (.cells #[.string { data := #[10] }] 9)
 have hKa := hK_2.alloc (Nat.le_trans hB0 hK_2.b.size) (.cells #[.string { data := #[10] }] 9)
 have hbxa := (Lib.alloc_old _ (.cells #[.string { data := #[10] }] 9) _ hlb).trans hbx
 go_at_call 84
 refine (wSayT_ok w0.heap.size X dep _ ([10]) [⟨#[10]⟩] 1 _ _ hWa rfl (WrT.lt hW_2) (heap_alloc_new _ _) rfl lq28 lq8 (Nat.le_trans hB0 hKa.b.size)).mono ?_
 rintro e w_3 ⟨rfl, hW_3, hk_3⟩
 have hK_3 := hKa.trans hk_3
 have hbx := box_keep hk_3 hbxa hbX
 have hB_3 : Below w0.heap.size w0 w_3 := hBs.trans hK_3.b
 obtain ⟨c0, c1, c2, c3, c4, c5⟩ := (cells_box hbx).box
 have hlb := blt c0
 exact lv160
theorem wxzz (hL : LOk D w0 X) (T : Nd) (hk : T.kind = 22) (hT : T.right = true) (t0 t1 : Nd) (hks : T.kids = [t0, t1]) (hq : t0.kind = 0) (htz : T.text.size = 0) (hD : T.depth ≤ D + 1) (hWt : T.weight ≤ 1000000) : FSays 87 w0 X dep (fun t => t.lin dep) T := by
 have _ := hdp
 intro A c K d l0 w hN hBs hW hlen
 have hdm : dep ≤ 1000000 := by omega
 have HTE := Lh (text_empty T.text)
 have et : T.text.toList.isEmpty = true := by rw [HTE.out]; rw [htz]; rfl
 have q0 : (t0.kind != 0) = false := by simp [hq]
 rw [exc_eq hk hks] at hT
 simp only [Bool.and_eq_true] at hT
 have r1 := hT.2.1.2
 have hlen3 : T.kids.length = 2 := by rw [hks]; rfl
 have hg0 : T.kids[0]? = some t0 := by rw [hks]; rfl
 obtain ⟨b, off, A0, c0', K0, d0, hKe0, hC0, hN0⟩ := hN.kid hg0
 have hd0 : t0.depth ≤ D ∧ t0.weight ≤ 1000000 := wKM hD hWt t0 (mog hg0)
 have hg1 : T.kids[1]? = some t1 := by rw [hks]; rfl
 obtain ⟨b1, off1, A1, c1', K1, d1, hKe1, hC1, hN1⟩ := hN.kid hg1
 have hd1 : t1.depth ≤ D ∧ t1.weight ≤ 1000000 := wKM hD hWt t1 (mog hg1)
 rw [Nat.zero_mul, Nat.add_zero] at hC0
 subst hKe0
 injection hKe1 with e1
 injection e1 with e1 e2
 subst e1 e2
 rw [show 1 * 6 = 6 from rfl] at hC1
 have HF1 := Lh (wInner_ok D w0 X dep lq29 hL t1 (blk_of r1) lq29 hd1.2)
 have HN0 := Lh hN0
 have i0 : (0 : Int) < (T.kids.length : Int) := by omega
 have i0' : 0 < T.kids.length := by omega
 have HN1 := Lh hN1
 have i1 : (1 : Int) < (T.kids.length : Int) := by omega
 have i1' : 1 < T.kids.length := by omega
 have hlen : l0.length + (T.lin dep).length ≤ 1000000000000 := hlen
 have hts : T.lin dep = padL dep ++ [101, 120, 99, 101, 112, 116] ++ [58, 10] ++ t1.lin (dep + 1) := by rw [lin_eq]; simp [linOf, hk, hks, kd, gy, maybeL, hq, htz]
 rw [hts] at hlen
 have HTX := Lh hts
 have HLN := Lh hlen
 obtain ⟨hm1, hm2, hrm, hw32, hk1, hk2, hk64, ha64, hts', hKs⟩ := hN.parts
 have hk2' := hk2
 unfold maxLen at hm2 hk2 hts'
 obtain ⟨hk64a, hk64b⟩ := hk64
 obtain ⟨ha64a, ha64b⟩ := ha64
 have hB0 : w0.heap.size ≤ w.heap.size := hBs.size
 have hbX : X < w.heap.size := WrT.lt hW
 have hK0 : WK w0.heap.size X w (w.alloc (bx T.kind T A c (some ⟨b, off, none⟩) d)) := (WK.refl _ _ _).alloc hB0 _
 have hWb := hW.alloc (bx T.kind T A c (some ⟨b, off, none⟩) d)
 have hBb : Below w0.heap.size w0 (w.alloc (bx T.kind T A c (some ⟨b, off, none⟩) d)) := hBs.trans hK0.b
 have hbx := heap_alloc_new w (bx T.kind T A c (some ⟨b, off, none⟩) d)
 have hsg : (w.alloc (bx T.kind T A c (some ⟨b, off, none⟩) d)).heap.size = w.heap.size + 1 := by simp
 clear hKs hN hlen hT hD hWt hrm hw32 hk hts hg0 hg1 hN0 hN1 hd0 hd1 r1 hks hlen3 hq htz hL
 obtain ⟨c0, c1, c2, c3, c4, c5⟩ := (cells_box hbx).box
 have hlb := blt c0
 obtain ⟨n00, n01, n02, n03, n04, n05⟩ := hC0.later hBb
 have hlk0 := blt n00
 obtain ⟨n10, n11, n12, n13, n14, n15⟩ := hC1.later hBb
 have hlk1 := blt n10
 have hlX := WrT.lt hWb
 unfold ndV
 go_enter Tryz.func87, Tryz.ntmps87
 go_wp2_with fail
 have hWa := hWb.alloc (.cells #[.string { data := #[101, 120, 99, 101, 112, 116] }] 9)
 have hKa := hK0.alloc (Nat.le_trans hB0 hK0.b.size) (.cells #[.string { data := #[101, 120, 99, 101, 112, 116] }] 9)
 have hbxa := (Lib.alloc_old _ (.cells #[.string { data := #[101, 120, 99, 101, 112, 116] }] 9) _ hlb).trans hbx
 have hlta : X < w.heap.size + 1 := lq17
 go_at_call 80
 refine (wHead_ok w0.heap.size X dep _ ([101, 120, 99, 101, 112, 116]) [⟨#[101, 120, 99, 101, 112, 116]⟩] 1 _ _ hWa rfl (.inr ⟨w.heap.size + 1, rfl, by omega, lq19⟩) rfl lq28 hdm lq6 (Nat.le_trans hB0 hKa.b.size)).mono ?_
 exact lv42
theorem wxez (hL : LOk D w0 X) (T : Nd) (hk : T.kind = 22) (hT : T.right = true) (t0 t1 : Nd) (hks : T.kids = [t0, t1]) (hq : ¬ t0.kind = 0) (htz : T.text.size = 0) (hD : T.depth ≤ D + 1) (hWt : T.weight ≤ 1000000) : FSays 87 w0 X dep (fun t => t.lin dep) T := by
 have _ := hdp
 intro A c K d l0 w hN hBs hW hlen
 have hdm : dep ≤ 1000000 := by omega
 have HTE := Lh (text_empty T.text)
 have et : T.text.toList.isEmpty = true := by rw [HTE.out]; rw [htz]; rfl
 have q0 : (t0.kind != 0) = true := by simp [hq]
 rw [exc_eq hk hks] at hT
 simp only [Bool.and_eq_true] at hT
 have r1 := hT.2.1.2
 have hlen3 : T.kids.length = 2 := by rw [hks]; rfl
 have r0 : Ex t0 := by
  rcases Bool.or_eq_true _ _ ▸ hT.2.1.1 with h | h
  ·exact absurd (kind_none h) hq
  ·exact ev_ex h
 have hg0 : T.kids[0]? = some t0 := by rw [hks]; rfl
 obtain ⟨b, off, A0, c0', K0, d0, hKe0, hC0, hN0⟩ := hN.kid hg0
 have hd0 : t0.depth ≤ D ∧ t0.weight ≤ 1000000 := wKM hD hWt t0 (mog hg0)
 have hg1 : T.kids[1]? = some t1 := by rw [hks]; rfl
 obtain ⟨b1, off1, A1, c1', K1, d1, hKe1, hC1, hN1⟩ := hN.kid hg1
 have hd1 : t1.depth ≤ D ∧ t1.weight ≤ 1000000 := wKM hD hWt t1 (mog hg1)
 rw [Nat.zero_mul, Nat.add_zero] at hC0
 subst hKe0
 injection hKe1 with e1
 injection e1 with e1 e2
 subst e1 e2
 rw [show 1 * 6 = 6 from rfl] at hC1
 have HF0 := Lh (wExpr_ok w0 X dep D t0 r0 hd0.1 hd0.2)
 have HF1 := Lh (wInner_ok D w0 X dep lq29 hL t1 (blk_of r1) lq29 hd1.2)
 have HN0 := Lh hN0
 have i0 : (0 : Int) < (T.kids.length : Int) := by omega
 have i0' : 0 < T.kids.length := by omega
 have HN1 := Lh hN1
 have i1 : (1 : Int) < (T.kids.length : Int) := by omega
 have i1' : 1 < T.kids.length := by omega
 have hlen : l0.length + (T.lin dep).length ≤ 1000000000000 := hlen
 have hts : T.lin dep = padL dep ++ [101, 120, 99, 101, 112, 116] ++ [32] ++ t0.txt ++ [58, 10] ++ t1.lin (dep + 1) := by rw [lin_eq]; simp [linOf, hk, hks, kd, gy, maybeL, hq, htz]
 rw [hts] at hlen
 have HTX := Lh hts
 have HLN := Lh hlen
 obtain ⟨hm1, hm2, hrm, hw32, hk1, hk2, hk64, ha64, hts', hKs⟩ := hN.parts
 have hk2' := hk2
 unfold maxLen at hm2 hk2 hts'
 obtain ⟨hk64a, hk64b⟩ := hk64
 obtain ⟨ha64a, ha64b⟩ := ha64
 have hB0 : w0.heap.size ≤ w.heap.size := hBs.size
 have hbX : X < w.heap.size := WrT.lt hW
 have hK0 : WK w0.heap.size X w (w.alloc (bx T.kind T A c (some ⟨b, off, none⟩) d)) := (WK.refl _ _ _).alloc hB0 _
 have hWb := hW.alloc (bx T.kind T A c (some ⟨b, off, none⟩) d)
 have hBb : Below w0.heap.size w0 (w.alloc (bx T.kind T A c (some ⟨b, off, none⟩) d)) := hBs.trans hK0.b
 have hbx := heap_alloc_new w (bx T.kind T A c (some ⟨b, off, none⟩) d)
 have hsg : (w.alloc (bx T.kind T A c (some ⟨b, off, none⟩) d)).heap.size = w.heap.size + 1 := by simp
 clear hKs hN hlen hT hD hWt hrm hw32 hk hts hg0 hg1 hN0 hN1 hd0 hd1 r1 hks hlen3 hq htz hL r0
 obtain ⟨c0, c1, c2, c3, c4, c5⟩ := (cells_box hbx).box
 have hlb := blt c0
 obtain ⟨n00, n01, n02, n03, n04, n05⟩ := hC0.later hBb
 have hlk0 := blt n00
 obtain ⟨n10, n11, n12, n13, n14, n15⟩ := hC1.later hBb
 have hlk1 := blt n10
 have hlX := WrT.lt hWb
 unfold ndV
 go_enter Tryz.func87, Tryz.ntmps87
 go_wp2_with fail
 have hWa := hWb.alloc (.cells #[.string { data := #[101, 120, 99, 101, 112, 116] }] 9)
 have hKa := hK0.alloc (Nat.le_trans hB0 hK0.b.size) (.cells #[.string { data := #[101, 120, 99, 101, 112, 116] }] 9)
 have hbxa := (Lib.alloc_old _ (.cells #[.string { data := #[101, 120, 99, 101, 112, 116] }] 9) _ hlb).trans hbx
 have hlta : X < w.heap.size + 1 := lq17
 go_at_call 80
 refine (wHead_ok w0.heap.size X dep _ ([101, 120, 99, 101, 112, 116]) [⟨#[101, 120, 99, 101, 112, 116]⟩] 1 _ _ hWa rfl (.inr ⟨w.heap.size + 1, rfl, by omega, lq19⟩) rfl lq28 hdm lq6 (Nat.le_trans hB0 hKa.b.size)).mono ?_
 rintro e w_1 ⟨rfl, hW_1, hk_1⟩
 have hK_1 := hKa.trans hk_1
 have hbx := box_keep hk_1 hbxa hbX
 have hB_1 : Below w0.heap.size w0 w_1 := hBs.trans hK_1.b
 obtain ⟨c0, c1, c2, c3, c4, c5⟩ := (cells_box hbx).box
 have hlb := blt c0
 obtain ⟨n00, n01, n02, n03, n04, n05⟩ := hC0.later hB_1
 have hlk0 := blt n00
 obtain ⟨n10, n11, n12, n13, n14, n15⟩ := hC1.later hB_1
 have hlk1 := blt n10
 have hlX := WrT.lt hW_1
 go_wp2_with fail
 have hWa := hW_1.alloc (.cells #[.string { data := #[32] }] 9)
 have hKa := hK_1.alloc (Nat.le_trans hB0 hK_1.b.size) (.cells #[.string { data := #[32] }] 9)
 have hbxa := (Lib.alloc_old _ (.cells #[.string { data := #[32] }] 9) _ hlb).trans hbx
 go_at_call 84
 refine (wSayT_ok w0.heap.size X dep _ ([32]) [⟨#[32]⟩] 1 _ _ hWa rfl (WrT.lt hW_1) (heap_alloc_new _ _) rfl lq28 lq8 (Nat.le_trans hB0 hKa.b.size)).mono ?_
 rintro e w_2 ⟨rfl, hW_2, hk_2⟩
 have hK_2 := hKa.trans hk_2
 have hbx := box_keep hk_2 hbxa hbX
 have hB_2 : Below w0.heap.size w0 w_2 := hBs.trans hK_2.b
 obtain ⟨c0, c1, c2, c3, c4, c5⟩ := (cells_box hbx).box
 have hlb := blt c0
 obtain ⟨n00, n01, n02, n03, n04, n05⟩ := hC0.later hB_2
 have hlk0 := blt n00
 obtain ⟨n10, n11, n12, n13, n14, n15⟩ := hC1.later hB_2
 have hlk1 := blt n10
 have hlX := WrT.lt hW_2
 go_wp2_with fail
 have hI := HF0.out A0 c0' K0 d0 _ _ HN0.out hB_2 hW_2 lq8
 unfold ndV at hI
 go_at_call 81
 refine hI.mono ?_
 rintro e w_3 ⟨rfl, hW_3, hk_3⟩
 have hK_3 := hK_2.trans hk_3
 have hbx := box_keep hk_3 hbx hbX
 clear hI
 have hB_3 : Below w0.heap.size w0 w_3 := hBs.trans hK_3.b
 obtain ⟨c0, c1, c2, c3, c4, c5⟩ := (cells_box hbx).box
 have hlb := blt c0
 obtain ⟨n00, n01, n02, n03, n04, n05⟩ := hC0.later hB_3
 have hlk0 := blt n00
 obtain ⟨n10, n11, n12, n13, n14, n15⟩ := hC1.later hB_3
 have hlk1 := blt n10
 have hlX := WrT.lt hW_3
 go_wp2_with fail
 have hI := HF1.out A1 c1' K1 d1 _ _ HN1.out hB_3 hW_3 lq8
 unfold ndV at hI
 go_at_call 82
 refine hI.mono ?_
 rintro e w_4 ⟨rfl, hW_4, hk_4⟩
 have hK_4 := hK_3.trans hk_4
 have hbx := box_keep hk_4 hbx hbX
 clear hI
 have hB_4 : Below w0.heap.size w0 w_4 := hBs.trans hK_4.b
 obtain ⟨c0, c1, c2, c3, c4, c5⟩ := (cells_box hbx).box
 have hlb := blt c0
 obtain ⟨n00, n01, n02, n03, n04, n05⟩ := hC0.later hB_4
 have hlk0 := blt n00
 obtain ⟨n10, n11, n12, n13, n14, n15⟩ := hC1.later hB_4
 have hlk1 := blt n10
 exact lv161
theorem wxen (hL : LOk D w0 X) (T : Nd) (hk : T.kind = 22) (hT : T.right = true) (t0 t1 : Nd) (hks : T.kids = [t0, t1]) (hq : ¬ t0.kind = 0) (htz : ¬ T.text.size = 0) (hD : T.depth ≤ D + 1) (hWt : T.weight ≤ 1000000) : FSays 87 w0 X dep (fun t => t.lin dep) T := by
 have _ := hdp
 intro A c K d l0 w hN hBs hW hlen
 have hdm : dep ≤ 1000000 := by omega
 have HTE := Lh (text_empty T.text)
 have et : T.text.toList.isEmpty = false := by rw [HTE.out]; simpa using htz
 have q0 : (t0.kind != 0) = true := by simp [hq]
 rw [exc_eq hk hks] at hT
 simp only [Bool.and_eq_true] at hT
 have r1 := hT.2.1.2
 have hlen3 : T.kids.length = 2 := by rw [hks]; rfl
 have r0 : Ex t0 := by
  rcases Bool.or_eq_true _ _ ▸ hT.2.1.1 with h | h
  ·exact absurd (kind_none h) hq
  ·exact ev_ex h
 have hg0 : T.kids[0]? = some t0 := by rw [hks]; rfl
 obtain ⟨b, off, A0, c0', K0, d0, hKe0, hC0, hN0⟩ := hN.kid hg0
 have hd0 : t0.depth ≤ D ∧ t0.weight ≤ 1000000 := wKM hD hWt t0 (mog hg0)
 have hg1 : T.kids[1]? = some t1 := by rw [hks]; rfl
 obtain ⟨b1, off1, A1, c1', K1, d1, hKe1, hC1, hN1⟩ := hN.kid hg1
 have hd1 : t1.depth ≤ D ∧ t1.weight ≤ 1000000 := wKM hD hWt t1 (mog hg1)
 rw [Nat.zero_mul, Nat.add_zero] at hC0
 subst hKe0
 injection hKe1 with e1
 injection e1 with e1 e2
 subst e1 e2
 rw [show 1 * 6 = 6 from rfl] at hC1
 have HF0 := Lh (wExpr_ok w0 X dep D t0 r0 hd0.1 hd0.2)
 have HF1 := Lh (wInner_ok D w0 X dep lq29 hL t1 (blk_of r1) lq29 hd1.2)
 have HN0 := Lh hN0
 have i0 : (0 : Int) < (T.kids.length : Int) := by omega
 have i0' : 0 < T.kids.length := by omega
 have HN1 := Lh hN1
 have i1 : (1 : Int) < (T.kids.length : Int) := by omega
 have i1' : 1 < T.kids.length := by omega
 have hlen : l0.length + (T.lin dep).length ≤ 1000000000000 := hlen
 have hts : T.lin dep = padL dep ++ [101, 120, 99, 101, 112, 116] ++ [32] ++ t0.txt ++ [32, 97, 115, 32] ++ tx T ++ [58, 10] ++ t1.lin (dep + 1) := by rw [lin_eq]; simp [linOf, hk, hks, kd, gy, maybeL, hq, htz]
 rw [hts] at hlen
 have HTX := Lh hts
 have HLN := Lh hlen
 obtain ⟨hm1, hm2, hrm, hw32, hk1, hk2, hk64, ha64, hts', hKs⟩ := hN.parts
 have hk2' := hk2
 unfold maxLen at hm2 hk2 hts'
 obtain ⟨hk64a, hk64b⟩ := hk64
 obtain ⟨ha64a, ha64b⟩ := ha64
 have hB0 : w0.heap.size ≤ w.heap.size := hBs.size
 have hbX : X < w.heap.size := WrT.lt hW
 have hK0 : WK w0.heap.size X w (w.alloc (bx T.kind T A c (some ⟨b, off, none⟩) d)) := (WK.refl _ _ _).alloc hB0 _
 have hWb := hW.alloc (bx T.kind T A c (some ⟨b, off, none⟩) d)
 have hBb : Below w0.heap.size w0 (w.alloc (bx T.kind T A c (some ⟨b, off, none⟩) d)) := hBs.trans hK0.b
 have hbx := heap_alloc_new w (bx T.kind T A c (some ⟨b, off, none⟩) d)
 have hsg : (w.alloc (bx T.kind T A c (some ⟨b, off, none⟩) d)).heap.size = w.heap.size + 1 := by simp
 clear hKs hN hlen hT hD hWt hrm hw32 hk hts hg0 hg1 hN0 hN1 hd0 hd1 r1 hks hlen3 hq htz hL r0
 obtain ⟨c0, c1, c2, c3, c4, c5⟩ := (cells_box hbx).box
 have hlb := blt c0
 obtain ⟨n00, n01, n02, n03, n04, n05⟩ := hC0.later hBb
 have hlk0 := blt n00
 obtain ⟨n10, n11, n12, n13, n14, n15⟩ := hC1.later hBb
 have hlk1 := blt n10
 have hlX := WrT.lt hWb
 unfold ndV
 go_enter Tryz.func87, Tryz.ntmps87
 go_wp2_with fail
 have hWa := hWb.alloc (.cells #[.string { data := #[101, 120, 99, 101, 112, 116] }] 9)
 have hKa := hK0.alloc (Nat.le_trans hB0 hK0.b.size) (.cells #[.string { data := #[101, 120, 99, 101, 112, 116] }] 9)
 have hbxa := (Lib.alloc_old _ (.cells #[.string { data := #[101, 120, 99, 101, 112, 116] }] 9) _ hlb).trans hbx
 have hlta : X < w.heap.size + 1 := lq17
 go_at_call 80
 refine (wHead_ok w0.heap.size X dep _ ([101, 120, 99, 101, 112, 116]) [⟨#[101, 120, 99, 101, 112, 116]⟩] 1 _ _ hWa rfl (.inr ⟨w.heap.size + 1, rfl, by omega, lq19⟩) rfl lq28 hdm lq6 (Nat.le_trans hB0 hKa.b.size)).mono ?_
 rintro e w_1 ⟨rfl, hW_1, hk_1⟩
 have hK_1 := hKa.trans hk_1
 have hbx := box_keep hk_1 hbxa hbX
 have hB_1 : Below w0.heap.size w0 w_1 := hBs.trans hK_1.b
 obtain ⟨c0, c1, c2, c3, c4, c5⟩ := (cells_box hbx).box
 have hlb := blt c0
 obtain ⟨n00, n01, n02, n03, n04, n05⟩ := hC0.later hB_1
 have hlk0 := blt n00
 obtain ⟨n10, n11, n12, n13, n14, n15⟩ := hC1.later hB_1
 have hlk1 := blt n10
 have hlX := WrT.lt hW_1
 go_wp2_with fail
 have hWa := hW_1.alloc (.cells #[.string { data := #[32] }] 9)
 have hKa := hK_1.alloc (Nat.le_trans hB0 hK_1.b.size) (.cells #[.string { data := #[32] }] 9)
 have hbxa := (Lib.alloc_old _ (.cells #[.string { data := #[32] }] 9) _ hlb).trans hbx
 go_at_call 84
 refine (wSayT_ok w0.heap.size X dep _ ([32]) [⟨#[32]⟩] 1 _ _ hWa rfl (WrT.lt hW_1) (heap_alloc_new _ _) rfl lq28 lq8 (Nat.le_trans hB0 hKa.b.size)).mono ?_
 rintro e w_2 ⟨rfl, hW_2, hk_2⟩
 have hK_2 := hKa.trans hk_2
 have hbx := box_keep hk_2 hbxa hbX
 have hB_2 : Below w0.heap.size w0 w_2 := hBs.trans hK_2.b
 obtain ⟨c0, c1, c2, c3, c4, c5⟩ := (cells_box hbx).box
 have hlb := blt c0
 obtain ⟨n00, n01, n02, n03, n04, n05⟩ := hC0.later hB_2
 have hlk0 := blt n00
 obtain ⟨n10, n11, n12, n13, n14, n15⟩ := hC1.later hB_2
 have hlk1 := blt n10
 have hlX := WrT.lt hW_2
 go_wp2_with fail
 have hI := HF0.out A0 c0' K0 d0 _ _ HN0.out hB_2 hW_2 lq8
 unfold ndV at hI
 go_at_call 81
 refine hI.mono ?_
 rintro e w_3 ⟨rfl, hW_3, hk_3⟩
 have hK_3 := hK_2.trans hk_3
 have hbx := box_keep hk_3 hbx hbX
 clear hI
 have hB_3 : Below w0.heap.size w0 w_3 := hBs.trans hK_3.b
 obtain ⟨c0, c1, c2, c3, c4, c5⟩ := (cells_box hbx).box
 have hlb := blt c0
 obtain ⟨n00, n01, n02, n03, n04, n05⟩ := hC0.later hB_3
 have hlk0 := blt n00
 obtain ⟨n10, n11, n12, n13, n14, n15⟩ := hC1.later hB_3
 have hlk1 := blt n10
 have hlX := WrT.lt hW_3
 go_wp2_with fail
 have hWa := hW_3.alloc (.cells #[.string { data := #[32, 97, 115, 32] }, .string (T.text)] 9)
 have hKa := hK_3.alloc (Nat.le_trans hB0 hK_3.b.size) (.cells #[.string { data := #[32, 97, 115, 32] }, .string (T.text)] 9)
 have hbxa := (Lib.alloc_old _ (.cells #[.string { data := #[32, 97, 115, 32] }, .string (T.text)] 9) _ hlb).trans hbx
 go_at_call 84
 refine (wSayT_ok w0.heap.size X dep _ ([32, 97, 115, 32] ++ tx T) [⟨#[32, 97, 115, 32]⟩, T.text] 2 _ _ hWa rfl (WrT.lt hW_3) (heap_alloc_new _ _) (by simp [tx]) lq28 lq8 (Nat.le_trans hB0 hKa.b.size)).mono ?_
 exact lv43
theorem wExcept_ok (hL : LOk D w0 X) (T : Nd) (hk : T.kind = 22) (hT : T.right = true) (hD : T.depth ≤ D + 1) (hWt : T.weight ≤ 1000000) : FSays 87 w0 X dep (fun t => t.lin dep) T := by
 obtain ⟨t0, t1, hks⟩ := kids_2 (except_kids hk hT)
 by_cases hq : t0.kind = 0
 ·by_cases htz : T.text.size = 0
  ·exact wxzz D w0 X dep hdp hL T hk hT t0 t1 hks hq htz hD hWt
  ·exfalso
   rw [exc_eq hk hks] at hT; have e1 : (T.text.size == 0) = false := by simpa using htz
   rw [e1, hq] at hT
   simp at hT
 ·by_cases htz : T.text.size = 0
  ·exact wxez D w0 X dep hdp hL T hk hT t0 t1 hks hq htz hD hWt
  ·exact wxen D w0 X dep hdp hL T hk hT t0 t1 hks hq htz hD hWt
end

theorem params_all : ∀ (l : List Nd) (g : Bool), paramsB Nd.right g l = true → ∀ p ∈ l, p.kind = 19 ∧ p.right = true
 | [], _, _, p, hp => by simp at hp
 | a :: r, g, h, p, hp => by
  rw [paramsB] at h
  by_cases hb : (!(a.kind == 19) || !a.right) = true
  ·rw [if_pos hb] at h; cases h
  ·rw [if_neg hb] at h; have ha : a.kind = 19 ∧ a.right = true := by
    simp only [Bool.or_eq_true, Bool.not_eq_true', not_or, beq_eq_false_iff_ne, ne_eq, Decidable.not_not, Bool.not_eq_false] at hb; exact hb
   have hr : ∃ g', paramsB Nd.right g' r = true ∨ r = [] := by
    cases hks : a.kids with
    | nil => rw [hks] at h; exact ⟨true, .inr (List.isEmpty_iff.1 h)⟩
    | cons q s =>
     rw [hks] at h
     dsimp only at h
     split at h
     ·exact ⟨true, .inl h⟩
     ·split at h
      ·cases h
      ·exact ⟨g, .inl h⟩
   rcases List.mem_cons.1 hp with rfl | hp
   ·exact ha
   ·obtain ⟨g', hr | hr⟩ := hr
    ·exact params_all r g' hr p hp
    ·rw [hr] at hp; simp at hp
theorem catch_all : ∀ (l : List Nd), catchB Nd.right l = true → ∀ p ∈ l, p.kind = 22 ∧ p.right = true
 | [], _, p, hp => by simp at hp
 | a :: r, h, p, hp => by
  rw [catchB] at h; simp only [Bool.and_eq_true, beq_iff_eq] at h
  rcases List.mem_cons.1 hp with rfl | hp
  ·exact ⟨h.1.1.1, h.1.1.2⟩
  ·exact catch_all r h.2 p hp
theorem wl18 (D : Nat) (w0 : World) (X dep : Nat) (hdp : dep + (D + 1) ≤ 1000000) (hL : LOk D w0 X) (T : Nd) (hk : T.kind = 18) (hT : St T) (hD : T.depth ≤ D + 1) (hWt : T.weight ≤ 1000000) : FSays 47 w0 X dep (fun t => t.lin dep) T := by
 intro A c K d l0 w hN hBs hW hlen
 have hdm : dep ≤ 1000000 := by omega
 have hst := (st_at hk (tx := .name) (fm := .dfn) rfl lq28 lq28 lq28).symm.trans hT
 have hdf : defL T.kids = true := (Bool.and_eq_true _ _ ▸ hst).2
 have h1 : 1 ≤ T.kids.length := by simp only [defL, Bool.and_eq_true, decide_eq_true_eq] at hdf; exact hdf.1.1
 obtain ⟨m, hm⟩ : ∃ m, T.kids.length = m + 1 := ⟨T.kids.length - 1, by omega⟩
 obtain ⟨tm, htm⟩ : ∃ t, T.kids[m]? = some t := ⟨_, gEo⟩
 rw [def_at hm htm, Bool.and_eq_true] at hdf
 obtain ⟨hbl, hpar⟩ := hdf
 obtain ⟨b, off, Am, cm', Km, dm, hKem, hCm, hNm⟩ := hN.kid htm
 subst hKem
 have hdl : T.kids.dropLast = T.kids.take m := by rw [List.dropLast_eq_take, hm]; rfl
 have hdd := wKM hD hWt tm (mog htm)
 have HFm := Lh (wInner_ok D w0 X dep lq29 hL tm (blk_of hbl) lq29 hdd.2)
 have HNm := Lh hNm
 have HPA := Lh (fun (p : Nd) (hp : p ∈ T.kids.take m) => wParam_ok D w0 X dep (wExpr_ok w0 X dep D) p (params_all _ _ hpar p hp).1 (params_all _ _ hpar p hp).2 (by have := (wKM hD hWt p (List.mem_of_mem_take hp)).1; omega) (wKM hD hWt p (List.mem_of_mem_take hp)).2)
 have hkd := hN.parts.2.2.2.2.1
 have hgm : gy (T.kids.map Nd.lin) (T.kids.length - 1) (dep + 1) = tm.lin (dep + 1) := by
  unfold gy; rw [hm, Nat.add_sub_cancel]
  simp [List.getD, htm]
 have o1 : (T.kids.length : Int) - 1 = (m : Int) := by omega
 have o3 : (0 : Int) ≤ (m : Int) := by omega
 have o4 : (m : Int) ≤ (d : Int) := by omega
 have o5 : (m : Int) < (T.kids.length : Int) := by omega
 have o6 : m ≤ d := by omega
 have o7 : m < T.kids.length := by omega
 have HTK := Lh (show (T.kids.take m).length = m by rw [List.length_take]; omega)
 have hlen : l0.length + (T.lin dep).length ≤ 1000000000000 := hlen
 have hts : T.lin dep = padL dep ++ [100, 101, 102, 32] ++ tx T ++ [40] ++ sepL com ((T.kids.take m).map parL) ++ [41] ++ [58, 10] ++ tm.lin (dep + 1) := by rw [lin_eq]; simp [linOf, hk, hdl, hgm]
 rw [hts] at hlen
 have HTX := Lh hts
 have HLN := Lh hlen
 obtain ⟨z15, z16, z17⟩ := kz3 hk 15 16 17 rfl
 have z18 : (T.kind == 18) = true := by rw [hk]; rfl
 obtain ⟨z20, z21⟩ := kz2 hk 20 21 rfl
 obtain ⟨hm1, hm2, hrm, hw32, hk1, hk2, hk64, ha64, hts', hKs⟩ := hN.parts
 have hk2' := hk2
 unfold maxLen at hm2 hk2 hts'
 obtain ⟨hk64a, hk64b⟩ := hk64
 obtain ⟨ha64a, ha64b⟩ := ha64
 have hB0 : w0.heap.size ≤ w.heap.size := hBs.size
 have hbX : X < w.heap.size := WrT.lt hW
 have hK0 : WK w0.heap.size X w (w.alloc (bx T.kind T A c (some ⟨b, off, none⟩) d)) := (WK.refl _ _ _).alloc hB0 _
 have hWb := hW.alloc (bx T.kind T A c (some ⟨b, off, none⟩) d)
 have hBb : Below w0.heap.size w0 (w.alloc (bx T.kind T A c (some ⟨b, off, none⟩) d)) := hBs.trans hK0.b
 have hbx := heap_alloc_new w (bx T.kind T A c (some ⟨b, off, none⟩) d)
 have hsg : (w.alloc (bx T.kind T A c (some ⟨b, off, none⟩) d)).heap.size = w.heap.size + 1 := by simp
 have HKT := Lh (hKs.take m)
 clear hKs hN hlen hT hD hWt hrm hw32 hk hts hst h1 hm htm hbl hpar hNm hdl hdd hgm hkd hL
 obtain ⟨c0, c1, c2, c3, c4, c5⟩ := (cells_box hbx).box
 have hlb := blt c0
 obtain ⟨nm_0, nm_1, nm_2, nm_3, nm_4, nm_5⟩ := hCm.later hBb
 have hlkm := blt nm_0
 have hlX := WrT.lt hWb
 unfold ndV
 go_enter Tryz.func47, Tryz.ntmps47
 go_wp2_with fail
 have hWa := hWb.alloc (.cells #[.string { data := #[100, 101, 102, 32] }, .string T.text, .string { data := #[40] }] 9)
 have hKa := hK0.alloc (Nat.le_trans hB0 hK0.b.size) (.cells #[.string { data := #[100, 101, 102, 32] }, .string T.text, .string { data := #[40] }] 9)
 have hbxa := (Lib.alloc_old _ (.cells #[.string { data := #[100, 101, 102, 32] }, .string T.text, .string { data := #[40] }] 9) _ hlb).trans hbx
 have hlta : X < w.heap.size + 1 := lq17
 go_at_call 80
 refine (wHead_ok w0.heap.size X dep _ ([100, 101, 102, 32] ++ tx T ++ [40]) [⟨#[100, 101, 102, 32]⟩, T.text, ⟨#[40]⟩] 3 _ _ hWa rfl (.inr ⟨w.heap.size + 1, rfl, by omega, lq19⟩) (by simp [tx]) lq28 hdm lq6 (Nat.le_trans hB0 hKa.b.size)).mono ?_
 rintro e w_1 ⟨rfl, hW_1, hk_1⟩
 have hK_1 := hKa.trans hk_1
 have hbx := box_keep hk_1 hbxa hbX
 have hB_1 : Below w0.heap.size w0 w_1 := hBs.trans hK_1.b
 obtain ⟨c0, c1, c2, c3, c4, c5⟩ := (cells_box hbx).box
 have hlb := blt c0
 obtain ⟨nm_0, nm_1, nm_2, nm_3, nm_4, nm_5⟩ := hCm.later hB_1
 have hlkm := blt nm_0
 have hlX := WrT.lt hW_1
 go_wp2_with fail
 have hI := wList_ok 86 run_param w0 X dep parL _ (T.kids.take m) m (some ⟨b, off, none⟩) d _ HTK.out HKT.out HPA.out o6 hk2' hB_1 hW_1 lq8
 go_at_call 85
 refine hI.mono ?_
 rintro e w_2 ⟨rfl, hW_2, hk_2⟩
 have hK_2 := hK_1.trans hk_2
 have hbx := box_keep hk_2 hbx hbX
 clear hI
 have hB_2 : Below w0.heap.size w0 w_2 := hBs.trans hK_2.b
 obtain ⟨c0, c1, c2, c3, c4, c5⟩ := (cells_box hbx).box
 have hlb := blt c0
 obtain ⟨nm_0, nm_1, nm_2, nm_3, nm_4, nm_5⟩ := hCm.later hB_2
 have hlkm := blt nm_0
 have hlX := WrT.lt hW_2
 go_wp2_with fail
 have hWa := hW_2.alloc (.cells #[.string { data := #[41] }] 9)
 have hKa := hK_2.alloc (Nat.le_trans hB0 hK_2.b.size) (.cells #[.string { data := #[41] }] 9)
 have hbxa := (Lib.alloc_old _ (.cells #[.string { data := #[41] }] 9) _ hlb).trans hbx
 go_at_call 84
 refine (wSayT_ok w0.heap.size X dep _ ([41]) [⟨#[41]⟩] 1 _ _ hWa rfl (WrT.lt hW_2) (heap_alloc_new _ _) rfl lq28 lq8 (Nat.le_trans hB0 hKa.b.size)).mono ?_
 rintro e w_3 ⟨rfl, hW_3, hk_3⟩
 have hK_3 := hKa.trans hk_3
 have hbx := box_keep hk_3 hbxa hbX
 have hB_3 : Below w0.heap.size w0 w_3 := hBs.trans hK_3.b
 obtain ⟨c0, c1, c2, c3, c4, c5⟩ := (cells_box hbx).box
 have hlb := blt c0
 obtain ⟨nm_0, nm_1, nm_2, nm_3, nm_4, nm_5⟩ := hCm.later hB_3
 have hlkm := blt nm_0
 have hlX := WrT.lt hW_3
 go_wp2_with fail
 have hI := HFm.out Am cm' Km dm _ _ HNm.out hB_3 hW_3 lq8
 unfold ndV at hI
 go_at_call 82
 refine hI.mono ?_
 rintro e w_4 ⟨rfl, hW_4, hk_4⟩
 have hK_4 := hK_3.trans hk_4
 have hbx := box_keep hk_4 hbx hbX
 clear hI
 have hB_4 : Below w0.heap.size w0 w_4 := hBs.trans hK_4.b
 obtain ⟨c0, c1, c2, c3, c4, c5⟩ := (cells_box hbx).box
 have hlb := blt c0
 obtain ⟨nm_0, nm_1, nm_2, nm_3, nm_4, nm_5⟩ := hCm.later hB_4
 have hlkm := blt nm_0
 exact lv161
end
end Go.Proofs.YtjefhdlncikhmaaGreatDoor
