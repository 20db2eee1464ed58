/- Joined by a program: Wr6b. -/
import Derived.Test.YtjefhdlncikhmaaGreatDoorPT28
namespace Go.Proofs.YtjefhdlncikhmaaGreatDoor
set_option linter.unusedVariables false
set_option linter.unusedSimpArgs false
set_option maxRecDepth 1000000
set_option maxHeartbeats 16000000
section
open Go.RowKit
open List (length_append length_cons length_nil length_singleton)
section
variable (D : Nat) (w0 : World) (X dep : Nat) (hdp : dep + (D + 1) ≤ 1000000) (T : Nd)
include D w0 X dep hdp T
theorem ws7 (hk : T.kind = 7) (hT : St T) (hD : T.depth ≤ D + 1) (hWt : T.weight ≤ 1000000) : FSays 88 w0 X dep simpL T := by
 have _ := hdp
 intro A c K d l0 w hN hBs hW hlen
 have hdm : dep ≤ 1000000 := by omega
 have hst : (Tx.non.ev T.text && noNumB T && rowB T.kids [Sh.ev Nd.right .target]) = true := by
  rw [← show _ = (Tx.non.ev T.text && noNumB T && rowB T.kids [Sh.ev Nd.right .target]) from st_at hk (tx := .non) (fm := .row [.target]) rfl lq28 lq28 lq28]; exact hT
 have hro : rowB T.kids [Sh.ev Nd.right .target] = true := (Bool.and_eq_true _ _ ▸ hst).2
 have hlen3 : T.kids.length = 1 := row_len hro
 obtain ⟨t0, hks⟩ := kids_1 (l := T.kids) hlen3
 rw [hks] at hro
 simp only [rowB, Bool.and_eq_true, Bool.and_true] at hro
 have r0 := hro
 have hg0 : T.kids[0]? = some t0 := by rw [hks]; rfl
 obtain ⟨b, off, A0, c0', K0, d0, hKe0, hC0, hN0⟩ := hN.kid hg0
 have hd0 : t0.depth ≤ D ∧ t0.weight ≤ 1000000 := wKM hD hWt t0 (mog hg0)
 rw [Nat.zero_mul, Nat.add_zero] at hC0
 subst hKe0
 have HF0 := Lh (wExpr_ok w0 X dep D t0 (ev_tgt r0) hd0.1 hd0.2)
 have HN0 := Lh hN0
 have i0 : (0 : Int) < (T.kids.length : Int) := by omega
 have i0' : 0 < T.kids.length := by omega
 have hx0 := ev_tgt r0
 have HMB := Lh (show Mb t0 from .inr hx0)
 have HMZ := Lh (show maybeL t0 = [32] ++ t0.txt by rw [maybeL, if_neg (by have := hx0.2; omega)])
 have HDD := Lh hd0
 clear hx0
 have hlen : l0.length + (simpL T).length ≤ 1000000000000 := hlen
 have hts : simpL T = [100, 101, 108] ++ maybeL t0 := by rw [HMZ.out]; simp [simpL, hk, hks, kd]
 rw [hts] at hlen
 have HTX := Lh hts
 have HLN := Lh hlen
 obtain ⟨z3, z4, z5, z6⟩ := kz4 hk 3 4 5 6 rfl
 have z7 : (T.kind == 7) = true := by rw [hk]; rfl
 obtain ⟨z8, z9, z10, z11, z12, z13, z14⟩ := kz7 hk 8 9 10 11 12 13 14 rfl
 obtain ⟨hm1, hm2, hrm, hw32, hk1, hk2, hk64, ha64, hts', hKs⟩ := hN.parts
 have hk2' := hk2
 unfold maxLen at hm2 hk2 hts'
 obtain ⟨hk64a, hk64b⟩ := hk64
 obtain ⟨ha64a, ha64b⟩ := ha64
 have hB0 : w0.heap.size ≤ w.heap.size := hBs.size
 have hbX : X < w.heap.size := WrT.lt hW
 have hK0 : WK w0.heap.size X w (w.alloc (bx T.kind T A c (some ⟨b, off, none⟩) d)) := (WK.refl _ _ _).alloc hB0 _
 have hWb := hW.alloc (bx T.kind T A c (some ⟨b, off, none⟩) d)
 have hBb : Below w0.heap.size w0 (w.alloc (bx T.kind T A c (some ⟨b, off, none⟩) d)) := hBs.trans hK0.b
 have hbx := heap_alloc_new w (bx T.kind T A c (some ⟨b, off, none⟩) d)
 have hsg : (w.alloc (bx T.kind T A c (some ⟨b, off, none⟩) d)).heap.size = w.heap.size + 1 := by simp
 clear hKs hN hlen hT hD hWt hrm hw32 hk hts hst hlen3 hks hg0 hN0 hd0 r0
 obtain ⟨c0, c1, c2, c3, c4, c5⟩ := (cells_box hbx).box
 have hlb := blt c0
 obtain ⟨n00, n01, n02, n03, n04, n05⟩ := hC0.later hBb
 have hlk0 := blt n00
 have hlX := WrT.lt hWb
 unfold ndV
 go_enter Tryz.func88, Tryz.ntmps88
 go_wp2_with fail
 have hI := wWord_ok D w0 X dep (wExpr_ok w0 X dep D) ⟨#[100, 101, 108]⟩ t0 HMB.out HDD.out.1 HDD.out.2 A0 c0' K0 d0 _ _ HN0.out hBb hWb lq8
 exact lv103
theorem ws8 (hk : T.kind = 8) (hT : St T) (hD : T.depth ≤ D + 1) (hWt : T.weight ≤ 1000000) : FSays 88 w0 X dep simpL T := by
 have _ := hdp
 intro A c K d l0 w hN hBs hW hlen
 have hdm : dep ≤ 1000000 := by omega
 have hst : (Tx.non.ev T.text && noNumB T && rowB T.kids []) = true := by
  exact lv179
 have hro : rowB T.kids [] = true := (Bool.and_eq_true _ _ ▸ hst).2
 have hlen3 : T.kids.length = 0 := row_len hro
 clear hst hro
 have hlen : l0.length + (simpL T).length ≤ 1000000000000 := hlen
 have hts : simpL T = [112, 97, 115, 115] := by simp [simpL, hk]
 rw [hts] at hlen
 have HTX := Lh hts
 have HLN := Lh hlen
 obtain ⟨z3, z4, z5, z6, z7⟩ := kz5 hk 3 4 5 6 7 rfl
 have z8 : (T.kind == 8) = true := by rw [hk]; rfl
 obtain ⟨z9, z10, z11, z12, z13, z14⟩ := kz6 hk 9 10 11 12 13 14 rfl
 obtain ⟨hm1, hm2, hrm, hw32, hk1, hk2, hk64, ha64, hts', hKs⟩ := hN.parts
 have hk2' := hk2
 unfold maxLen at hm2 hk2 hts'
 obtain ⟨hk64a, hk64b⟩ := hk64
 obtain ⟨ha64a, ha64b⟩ := ha64
 have hB0 : w0.heap.size ≤ w.heap.size := hBs.size
 have hbX : X < w.heap.size := WrT.lt hW
 have hK0 : WK w0.heap.size X w (w.alloc (bx T.kind T A c K d)) := (WK.refl _ _ _).alloc hB0 _
 have hWb := hW.alloc (bx T.kind T A c K d)
 have hBb : Below w0.heap.size w0 (w.alloc (bx T.kind T A c K d)) := hBs.trans hK0.b
 have hbx := heap_alloc_new w (bx T.kind T A c K d)
 have hsg : (w.alloc (bx T.kind T A c K d)).heap.size = w.heap.size + 1 := by simp
 clear hKs hN hlen hT hD hWt hrm hw32 hk hts hlen3
 obtain ⟨c0, c1, c2, c3, c4, c5⟩ := (cells_box hbx).box
 have hlb := blt c0
 have hlX := WrT.lt hWb
 unfold ndV
 go_enter Tryz.func88, Tryz.ntmps88
 go_wp2_with fail
 have hWa := hWb.alloc (.cells #[.string { data := #[112, 97, 115, 115] }] 9)
 have hKa := hK0.alloc (Nat.le_trans hB0 hK0.b.size) (.cells #[.string { data := #[112, 97, 115, 115] }] 9)
 have hbxa := (Lib.alloc_old _ (.cells #[.string { data := #[112, 97, 115, 115] }] 9) _ hlb).trans hbx
 go_at_call 84
 refine (wSayT_ok w0.heap.size X dep _ ([112, 97, 115, 115]) [⟨#[112, 97, 115, 115]⟩] 1 (w.heap.size + 1) _ hWa rfl lq17 lq19 rfl lq28 lq8 (Nat.le_trans hB0 hKa.b.size)).mono ?_
 exact lv122
theorem ws9 (hk : T.kind = 9) (hT : St T) (hD : T.depth ≤ D + 1) (hWt : T.weight ≤ 1000000) : FSays 88 w0 X dep simpL T := by
 have _ := hdp
 intro A c K d l0 w hN hBs hW hlen
 have hdm : dep ≤ 1000000 := by omega
 have hst : (Tx.non.ev T.text && noNumB T && rowB T.kids []) = true := by
  exact lv179
 have hro : rowB T.kids [] = true := (Bool.and_eq_true _ _ ▸ hst).2
 have hlen3 : T.kids.length = 0 := row_len hro
 clear hst hro
 have hlen : l0.length + (simpL T).length ≤ 1000000000000 := hlen
 have hts : simpL T = [98, 114, 101, 97, 107] := by simp [simpL, hk]
 rw [hts] at hlen
 have HTX := Lh hts
 have HLN := Lh hlen
 obtain ⟨z3, z4, z5, z6, z7, z8⟩ := kz6 hk 3 4 5 6 7 8 rfl
 have z9 : (T.kind == 9) = true := by rw [hk]; rfl
 obtain ⟨z10, z11, z12, z13, z14⟩ := kz5 hk 10 11 12 13 14 rfl
 obtain ⟨hm1, hm2, hrm, hw32, hk1, hk2, hk64, ha64, hts', hKs⟩ := hN.parts
 have hk2' := hk2
 unfold maxLen at hm2 hk2 hts'
 obtain ⟨hk64a, hk64b⟩ := hk64
 obtain ⟨ha64a, ha64b⟩ := ha64
 have hB0 : w0.heap.size ≤ w.heap.size := hBs.size
 have hbX : X < w.heap.size := WrT.lt hW
 have hK0 : WK w0.heap.size X w (w.alloc (bx T.kind T A c K d)) := (WK.refl _ _ _).alloc hB0 _
 have hWb := hW.alloc (bx T.kind T A c K d)
 have hBb : Below w0.heap.size w0 (w.alloc (bx T.kind T A c K d)) := hBs.trans hK0.b
 have hbx := heap_alloc_new w (bx T.kind T A c K d)
 have hsg : (w.alloc (bx T.kind T A c K d)).heap.size = w.heap.size + 1 := by simp
 clear hKs hN hlen hT hD hWt hrm hw32 hk hts hlen3
 obtain ⟨c0, c1, c2, c3, c4, c5⟩ := (cells_box hbx).box
 have hlb := blt c0
 have hlX := WrT.lt hWb
 unfold ndV
 go_enter Tryz.func88, Tryz.ntmps88
 go_wp2_with fail
 have hWa := hWb.alloc (.cells #[.string { data := #[98, 114, 101, 97, 107] }] 9)
 have hKa := hK0.alloc (Nat.le_trans hB0 hK0.b.size) (.cells #[.string { data := #[98, 114, 101, 97, 107] }] 9)
 have hbxa := (Lib.alloc_old _ (.cells #[.string { data := #[98, 114, 101, 97, 107] }] 9) _ hlb).trans hbx
 go_at_call 84
 refine (wSayT_ok w0.heap.size X dep _ ([98, 114, 101, 97, 107]) [⟨#[98, 114, 101, 97, 107]⟩] 1 (w.heap.size + 1) _ hWa rfl lq17 lq19 rfl lq28 lq8 (Nat.le_trans hB0 hKa.b.size)).mono ?_
 exact lv122
theorem ws10 (hk : T.kind = 10) (hT : St T) (hD : T.depth ≤ D + 1) (hWt : T.weight ≤ 1000000) : FSays 88 w0 X dep simpL T := by
 have _ := hdp
 intro A c K d l0 w hN hBs hW hlen
 have hdm : dep ≤ 1000000 := by omega
 have hst : (Tx.non.ev T.text && noNumB T && rowB T.kids []) = true := by
  exact lv179
 have hro : rowB T.kids [] = true := (Bool.and_eq_true _ _ ▸ hst).2
 have hlen3 : T.kids.length = 0 := row_len hro
 clear hst hro
 have hlen : l0.length + (simpL T).length ≤ 1000000000000 := hlen
 have hts : simpL T = [99, 111, 110, 116, 105, 110, 117, 101] := by simp [simpL, hk]
 rw [hts] at hlen
 have HTX := Lh hts
 have HLN := Lh hlen
 obtain ⟨z3, z4, z5, z6, z7, z8, z9⟩ := kz7 hk 3 4 5 6 7 8 9 rfl
 have z10 : (T.kind == 10) = true := by rw [hk]; rfl
 obtain ⟨z11, z12, z13, z14⟩ := kz4 hk 11 12 13 14 rfl
 obtain ⟨hm1, hm2, hrm, hw32, hk1, hk2, hk64, ha64, hts', hKs⟩ := hN.parts
 have hk2' := hk2
 unfold maxLen at hm2 hk2 hts'
 obtain ⟨hk64a, hk64b⟩ := hk64
 obtain ⟨ha64a, ha64b⟩ := ha64
 have hB0 : w0.heap.size ≤ w.heap.size := hBs.size
 have hbX : X < w.heap.size := WrT.lt hW
 have hK0 : WK w0.heap.size X w (w.alloc (bx T.kind T A c K d)) := (WK.refl _ _ _).alloc hB0 _
 have hWb := hW.alloc (bx T.kind T A c K d)
 have hBb : Below w0.heap.size w0 (w.alloc (bx T.kind T A c K d)) := hBs.trans hK0.b
 have hbx := heap_alloc_new w (bx T.kind T A c K d)
 have hsg : (w.alloc (bx T.kind T A c K d)).heap.size = w.heap.size + 1 := by simp
 clear hKs hN hlen hT hD hWt hrm hw32 hk hts hlen3
 obtain ⟨c0, c1, c2, c3, c4, c5⟩ := (cells_box hbx).box
 have hlb := blt c0
 have hlX := WrT.lt hWb
 unfold ndV
 go_enter Tryz.func88, Tryz.ntmps88
 go_wp2_with fail
 have hWa := hWb.alloc (.cells #[.string { data := #[99, 111, 110, 116, 105, 110, 117, 101] }] 9)
 have hKa := hK0.alloc (Nat.le_trans hB0 hK0.b.size) (.cells #[.string { data := #[99, 111, 110, 116, 105, 110, 117, 101] }] 9)
 have hbxa := (Lib.alloc_old _ (.cells #[.string { data := #[99, 111, 110, 116, 105, 110, 117, 101] }] 9) _ hlb).trans hbx
 go_at_call 84
 refine (wSayT_ok w0.heap.size X dep _ ([99, 111, 110, 116, 105, 110, 117, 101]) [⟨#[99, 111, 110, 116, 105, 110, 117, 101]⟩] 1 (w.heap.size + 1) _ hWa rfl lq17 lq19 rfl lq28 lq8 (Nat.le_trans hB0 hKa.b.size)).mono ?_
 exact lv122
theorem ws11 (hk : T.kind = 11) (hT : St T) (hD : T.depth ≤ D + 1) (hWt : T.weight ≤ 1000000) : FSays 88 w0 X dep simpL T := by
 have _ := hdp
 intro A c K d l0 w hN hBs hW hlen
 have hdm : dep ≤ 1000000 := by omega
 have hst : (Tx.non.ev T.text && noNumB T && rowB T.kids [Sh.ev Nd.right (.or2 .none .expr)]) = true := by
  exact lv173
 have hro : rowB T.kids [Sh.ev Nd.right (.or2 .none .expr)] = true := (Bool.and_eq_true _ _ ▸ hst).2
 have hlen3 : T.kids.length = 1 := row_len hro
 obtain ⟨t0, hks⟩ := kids_1 (l := T.kids) hlen3
 rw [hks] at hro
 simp only [rowB, Bool.and_eq_true, Bool.and_true] at hro
 have r0 := hro
 have hg0 : T.kids[0]? = some t0 := by rw [hks]; rfl
 obtain ⟨b, off, A0, c0', K0, d0, hKe0, hC0, hN0⟩ := hN.kid hg0
 have hd0 : t0.depth ≤ D ∧ t0.weight ≤ 1000000 := wKM hD hWt t0 (mog hg0)
 rw [Nat.zero_mul, Nat.add_zero] at hC0
 subst hKe0
 have hm0 := mb_of r0
 have HN0 := Lh hN0
 have i0 : (0 : Int) < (T.kids.length : Int) := by omega
 have i0' : 0 < T.kids.length := by omega
 have HMB := Lh hm0
 have hdd := hd0
 have HDD := Lh hdd
 clear hdd hm0
 have hlen : l0.length + (simpL T).length ≤ 1000000000000 := hlen
 have hts : simpL T = [114, 101, 116, 117, 114, 110] ++ maybeL t0 := by simp [simpL, hk, hks, kd]
 rw [hts] at hlen
 have HTX := Lh hts
 have HLN := Lh hlen
 obtain ⟨z3, z4, z5, z6, z7, z8, z9, z10⟩ := kz8 hk 3 4 5 6 7 8 9 10 rfl
 have z11 : (T.kind == 11) = true := by rw [hk]; rfl
 obtain ⟨z12, z13, z14⟩ := kz3 hk 12 13 14 rfl
 obtain ⟨hm1, hm2, hrm, hw32, hk1, hk2, hk64, ha64, hts', hKs⟩ := hN.parts
 have hk2' := hk2
 unfold maxLen at hm2 hk2 hts'
 obtain ⟨hk64a, hk64b⟩ := hk64
 obtain ⟨ha64a, ha64b⟩ := ha64
 have hB0 : w0.heap.size ≤ w.heap.size := hBs.size
 have hbX : X < w.heap.size := WrT.lt hW
 have hK0 : WK w0.heap.size X w (w.alloc (bx T.kind T A c (some ⟨b, off, none⟩) d)) := (WK.refl _ _ _).alloc hB0 _
 have hWb := hW.alloc (bx T.kind T A c (some ⟨b, off, none⟩) d)
 have hBb : Below w0.heap.size w0 (w.alloc (bx T.kind T A c (some ⟨b, off, none⟩) d)) := hBs.trans hK0.b
 have hbx := heap_alloc_new w (bx T.kind T A c (some ⟨b, off, none⟩) d)
 have hsg : (w.alloc (bx T.kind T A c (some ⟨b, off, none⟩) d)).heap.size = w.heap.size + 1 := by simp
 clear hKs hN hlen hT hD hWt hrm hw32 hk hts hst hlen3 hks hg0 hN0 hd0 r0
 obtain ⟨c0, c1, c2, c3, c4, c5⟩ := (cells_box hbx).box
 have hlb := blt c0
 obtain ⟨n00, n01, n02, n03, n04, n05⟩ := hC0.later hBb
 have hlk0 := blt n00
 have hlX := WrT.lt hWb
 unfold ndV
 go_enter Tryz.func88, Tryz.ntmps88
 go_wp2_with fail
 have hI := wWord_ok D w0 X dep (wExpr_ok w0 X dep D) ⟨#[114, 101, 116, 117, 114, 110]⟩ t0 HMB.out HDD.out.1 HDD.out.2 A0 c0' K0 d0 _ _ HN0.out hBb hWb lq8
 exact lv103
theorem ws12 (hk : T.kind = 12) (hT : St T) (hD : T.depth ≤ D + 1) (hWt : T.weight ≤ 1000000) : FSays 88 w0 X dep simpL T := by
 have _ := hdp
 intro A c K d l0 w hN hBs hW hlen
 have hdm : dep ≤ 1000000 := by omega
 have hst : (Tx.non.ev T.text && noNumB T && rowB T.kids [Sh.ev Nd.right (.or2 .none .expr)]) = true := by
  exact lv173
 have hro : rowB T.kids [Sh.ev Nd.right (.or2 .none .expr)] = true := (Bool.and_eq_true _ _ ▸ hst).2
 have hlen3 : T.kids.length = 1 := row_len hro
 obtain ⟨t0, hks⟩ := kids_1 (l := T.kids) hlen3
 rw [hks] at hro
 simp only [rowB, Bool.and_eq_true, Bool.and_true] at hro
 have r0 := hro
 have hg0 : T.kids[0]? = some t0 := by rw [hks]; rfl
 obtain ⟨b, off, A0, c0', K0, d0, hKe0, hC0, hN0⟩ := hN.kid hg0
 have hd0 : t0.depth ≤ D ∧ t0.weight ≤ 1000000 := wKM hD hWt t0 (mog hg0)
 rw [Nat.zero_mul, Nat.add_zero] at hC0
 subst hKe0
 have hm0 := mb_of r0
 have HN0 := Lh hN0
 have i0 : (0 : Int) < (T.kids.length : Int) := by omega
 have i0' : 0 < T.kids.length := by omega
 have HMB := Lh hm0
 have hdd := hd0
 have HDD := Lh hdd
 clear hdd hm0
 have hlen : l0.length + (simpL T).length ≤ 1000000000000 := hlen
 have hts : simpL T = [114, 97, 105, 115, 101] ++ maybeL t0 := by simp [simpL, hk, hks, kd]
 rw [hts] at hlen
 have HTX := Lh hts
 have HLN := Lh hlen
 obtain ⟨z3, z4, z5, z6, z7, z8, z9, z10⟩ := kz8 hk 3 4 5 6 7 8 9 10 rfl
 have z11 : (T.kind == 11) = false := by rw [hk]; rfl
 have z12 : (T.kind == 12) = true := by rw [hk]; rfl
 obtain ⟨z13, z14⟩ := kz2 hk 13 14 rfl
 obtain ⟨hm1, hm2, hrm, hw32, hk1, hk2, hk64, ha64, hts', hKs⟩ := hN.parts
 have hk2' := hk2
 unfold maxLen at hm2 hk2 hts'
 obtain ⟨hk64a, hk64b⟩ := hk64
 obtain ⟨ha64a, ha64b⟩ := ha64
 have hB0 : w0.heap.size ≤ w.heap.size := hBs.size
 have hbX : X < w.heap.size := WrT.lt hW
 have hK0 : WK w0.heap.size X w (w.alloc (bx T.kind T A c (some ⟨b, off, none⟩) d)) := (WK.refl _ _ _).alloc hB0 _
 have hWb := hW.alloc (bx T.kind T A c (some ⟨b, off, none⟩) d)
 have hBb : Below w0.heap.size w0 (w.alloc (bx T.kind T A c (some ⟨b, off, none⟩) d)) := hBs.trans hK0.b
 have hbx := heap_alloc_new w (bx T.kind T A c (some ⟨b, off, none⟩) d)
 have hsg : (w.alloc (bx T.kind T A c (some ⟨b, off, none⟩) d)).heap.size = w.heap.size + 1 := by simp
 clear hKs hN hlen hT hD hWt hrm hw32 hk hts hst hlen3 hks hg0 hN0 hd0 r0
 obtain ⟨c0, c1, c2, c3, c4, c5⟩ := (cells_box hbx).box
 have hlb := blt c0
 obtain ⟨n00, n01, n02, n03, n04, n05⟩ := hC0.later hBb
 have hlk0 := blt n00
 have hlX := WrT.lt hWb
 unfold ndV
 go_enter Tryz.func88, Tryz.ntmps88
 go_wp2_with fail
 have hI := wWord_ok D w0 X dep (wExpr_ok w0 X dep D) ⟨#[114, 97, 105, 115, 101]⟩ t0 HMB.out HDD.out.1 HDD.out.2 A0 c0' K0 d0 _ _ HN0.out hBb hWb lq8
 exact lv103
theorem ws13 (hk : T.kind = 13) (hT : St T) (hD : T.depth ≤ D + 1) (hWt : T.weight ≤ 1000000) : FSays 88 w0 X dep simpL T := by
 have _ := hdp
 intro A c K d l0 w hN hBs hW hlen
 have hdm : dep ≤ 1000000 := by omega
 have hgl : ∀ t ∈ T.kids, Ex t := by
  exact lv170
 have HFA := Lh (fun (t : Nd) (ht : t ∈ T.kids) => wExpr_ok w0 X dep D t (hgl t ht) (wKM hD hWt t ht).1 (wKM hD hWt t ht).2)
 have hlen : l0.length + (simpL T).length ≤ 1000000000000 := hlen
 have hts : simpL T = [103, 108, 111, 98, 97, 108, 32] ++ sepL com (T.kids.map Nd.txt) := by simp [simpL, hk]
 rw [hts] at hlen
 have HTX := Lh hts
 have HLN := Lh hlen
 obtain ⟨z3, z4, z5, z6, z7, z8, z9, z10⟩ := kz8 hk 3 4 5 6 7 8 9 10 rfl
 obtain ⟨z11, z12⟩ := kz2 hk 11 12 rfl
 have z13 : (T.kind == 13) = true := by rw [hk]; rfl
 have z14 : (T.kind == 14) = false := by rw [hk]; rfl
 obtain ⟨hm1, hm2, hrm, hw32, hk1, hk2, hk64, ha64, hts', hKs⟩ := hN.parts
 have hk2' := hk2
 unfold maxLen at hm2 hk2 hts'
 obtain ⟨hk64a, hk64b⟩ := hk64
 obtain ⟨ha64a, ha64b⟩ := ha64
 have hB0 : w0.heap.size ≤ w.heap.size := hBs.size
 have hbX : X < w.heap.size := WrT.lt hW
 have hK0 : WK w0.heap.size X w (w.alloc (bx T.kind T A c K d)) := (WK.refl _ _ _).alloc hB0 _
 have hWb := hW.alloc (bx T.kind T A c K d)
 have hBb : Below w0.heap.size w0 (w.alloc (bx T.kind T A c K d)) := hBs.trans hK0.b
 have hbx := heap_alloc_new w (bx T.kind T A c K d)
 have hsg : (w.alloc (bx T.kind T A c K d)).heap.size = w.heap.size + 1 := by simp
 have HKA := Lh hKs
 clear hKs hN hlen hT hD hWt hrm hw32 hk hts hgl
 obtain ⟨c0, c1, c2, c3, c4, c5⟩ := (cells_box hbx).box
 have hlb := blt c0
 have hlX := WrT.lt hWb
 unfold ndV
 go_enter Tryz.func88, Tryz.ntmps88
 go_wp2_with fail
 have hWa := hWb.alloc (.cells #[.string { data := #[103, 108, 111, 98, 97, 108, 32] }] 9)
 have hKa := hK0.alloc (Nat.le_trans hB0 hK0.b.size) (.cells #[.string { data := #[103, 108, 111, 98, 97, 108, 32] }] 9)
 have hbxa := (Lib.alloc_old _ (.cells #[.string { data := #[103, 108, 111, 98, 97, 108, 32] }] 9) _ hlb).trans hbx
 go_at_call 84
 refine (wSayT_ok w0.heap.size X dep _ ([103, 108, 111, 98, 97, 108, 32]) [⟨#[103, 108, 111, 98, 97, 108, 32]⟩] 1 (w.heap.size + 1) _ hWa rfl lq17 lq19 rfl lq28 lq8 (Nat.le_trans hB0 hKa.b.size)).mono ?_
 exact lv73
theorem ws14 (hk : T.kind = 14) (hT : St T) (hD : T.depth ≤ D + 1) (hWt : T.weight ≤ 1000000) : FSays 88 w0 X dep simpL T := by
 have _ := hdp
 intro A c K d l0 w hN hBs hW hlen
 have hdm : dep ≤ 1000000 := by omega
 have hgl : ∀ t ∈ T.kids, Ex t := by
  exact lv170
 have HFA := Lh (fun (t : Nd) (ht : t ∈ T.kids) => wExpr_ok w0 X dep D t (hgl t ht) (wKM hD hWt t ht).1 (wKM hD hWt t ht).2)
 have hlen : l0.length + (simpL T).length ≤ 1000000000000 := hlen
 have hts : simpL T = [110, 111, 110, 108, 111, 99, 97, 108, 32] ++ sepL com (T.kids.map Nd.txt) := by simp [simpL, hk]
 rw [hts] at hlen
 have HTX := Lh hts
 have HLN := Lh hlen
 obtain ⟨z3, z4, z5, z6, z7, z8, z9, z10⟩ := kz8 hk 3 4 5 6 7 8 9 10 rfl
 obtain ⟨z11, z12, z13⟩ := kz3 hk 11 12 13 rfl
 have z14 : (T.kind == 14) = true := by rw [hk]; rfl
 obtain ⟨hm1, hm2, hrm, hw32, hk1, hk2, hk64, ha64, hts', hKs⟩ := hN.parts
 have hk2' := hk2
 unfold maxLen at hm2 hk2 hts'
 obtain ⟨hk64a, hk64b⟩ := hk64
 obtain ⟨ha64a, ha64b⟩ := ha64
 have hB0 : w0.heap.size ≤ w.heap.size := hBs.size
 have hbX : X < w.heap.size := WrT.lt hW
 have hK0 : WK w0.heap.size X w (w.alloc (bx T.kind T A c K d)) := (WK.refl _ _ _).alloc hB0 _
 have hWb := hW.alloc (bx T.kind T A c K d)
 have hBb : Below w0.heap.size w0 (w.alloc (bx T.kind T A c K d)) := hBs.trans hK0.b
 have hbx := heap_alloc_new w (bx T.kind T A c K d)
 have hsg : (w.alloc (bx T.kind T A c K d)).heap.size = w.heap.size + 1 := by simp
 have HKA := Lh hKs
 clear hKs hN hlen hT hD hWt hrm hw32 hk hts hgl
 obtain ⟨c0, c1, c2, c3, c4, c5⟩ := (cells_box hbx).box
 have hlb := blt c0
 have hlX := WrT.lt hWb
 unfold ndV
 go_enter Tryz.func88, Tryz.ntmps88
 go_wp2_with fail
 have hWa := hWb.alloc (.cells #[.string { data := #[110, 111, 110, 108, 111, 99, 97, 108, 32] }] 9)
 have hKa := hK0.alloc (Nat.le_trans hB0 hK0.b.size) (.cells #[.string { data := #[110, 111, 110, 108, 111, 99, 97, 108, 32] }] 9)
 have hbxa := (Lib.alloc_old _ (.cells #[.string { data := #[110, 111, 110, 108, 111, 99, 97, 108, 32] }] 9) _ hlb).trans hbx
 go_at_call 84
 refine (wSayT_ok w0.heap.size X dep _ ([110, 111, 110, 108, 111, 99, 97, 108, 32]) [⟨#[110, 111, 110, 108, 111, 99, 97, 108, 32]⟩] 1 (w.heap.size + 1) _ hWa rfl lq17 lq19 rfl lq28 lq8 (Nat.le_trans hB0 hKa.b.size)).mono ?_
 exact lv73
end

end
end Go.Proofs.YtjefhdlncikhmaaGreatDoor
