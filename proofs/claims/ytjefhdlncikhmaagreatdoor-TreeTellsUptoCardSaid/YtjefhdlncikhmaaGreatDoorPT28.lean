/- Joined by a program: Wr6p, Wr6a. -/
import Derived.Test.YtjefhdlncikhmaaGreatDoorPT25
import Derived.Test.YtjefhdlncikhmaaGreatDoorPT27
namespace Go.Proofs.YtjefhdlncikhmaaGreatDoor
set_option linter.unusedVariables false
set_option linter.unusedSimpArgs false
set_option maxRecDepth 1000000
set_option maxHeartbeats 16000000
section
open Go.RowKit
open List (length_append length_cons length_nil length_singleton)
theorem padL_len (n : Nat) : (padL n).length = n := by simp [padL]
theorem run_param (args : Array Value) (W : World) : (callFunc 86 args).run Tryz.prog W = .ok (.enter 86 args) W := run_call _ _ Tryz.func86 lq27 lq27 args W
theorem mb_of {q : Nd} (h : (Sh.or2 .none .expr).ev Nd.right q = true) : Mb q := by
 rcases Bool.or_eq_true _ _ ▸ (show (Sh.none.ev Nd.right q || Sh.expr.ev Nd.right q) = true from h) with h | h
 ·exact .inl (kind_none h)
 ·exact .inr (ev_ex h)
theorem blk_of {q : Nd} (h : Sh.block.ev Nd.right q = true) : (Sh.of 2).ev Nd.right q = true := by
 rw [ev_block, Bool.and_eq_true] at h
 exact h.2
theorem st_right {T : Nd} (h : St T) : T.right = true := by
 simp only [St, Sh.ev, Bool.and_eq_true] at h
 exact h.2
theorem tgt_23 {q : Nd} (h : (Sh.of 23).ev Nd.right q = true) : Te q := by
 simp only [Sh.ev, Bool.and_eq_true, beq_iff_eq] at h
 exact ⟨h.2, .inr h.1⟩
theorem row_len {l : List Nd} {L : List (Nd → Bool)} (h : rowB l L = true) : l.length = L.length := by
 rcases Nat.decEq l.length L.length with e | e
 ·rw [rowB_len e] at h; cases h
 ·exact e
def simpL (T : Nd) : List UInt8 :=
 if T.kind = 3 then (kd T.kids 0).txt
 else if T.kind = 4 ∨ T.kind = 5 then (kd T.kids 0).txt ++ [32, 61, 32] ++ (kd T.kids 1).txt
 else if T.kind = 6 then (kd T.kids 0).txt ++ [32] ++ tx T ++ [61, 32] ++ (kd T.kids 1).txt
 else if T.kind = 7 then [100, 101, 108, 32] ++ (kd T.kids 0).txt
 else if T.kind = 8 then [112, 97, 115, 115]
 else if T.kind = 9 then [98, 114, 101, 97, 107]
 else if T.kind = 10 then [99, 111, 110, 116, 105, 110, 117, 101]
 else if T.kind = 11 then [114, 101, 116, 117, 114, 110] ++ maybeL (kd T.kids 0)
 else if T.kind = 12 then [114, 97, 105, 115, 101] ++ maybeL (kd T.kids 0)
 else if T.kind = 13 then [103, 108, 111, 98, 97, 108, 32] ++ sepL com (T.kids.map Nd.txt)
 else [110, 111, 110, 108, 111, 99, 97, 108, 32] ++ sepL com (T.kids.map Nd.txt)
theorem lin_simp {T : Nd} (h : 3 ≤ T.kind ∧ T.kind ≤ 14) (n : Nat) : T.lin n = padL n ++ simpL T ++ [10] := by
 have : T.kind = 3 ∨ T.kind = 4 ∨ T.kind = 5 ∨ T.kind = 6 ∨ T.kind = 7 ∨ T.kind = 8 ∨ T.kind = 9 ∨ T.kind = 10 ∨ T.kind = 11 ∨ T.kind = 12 ∨ T.kind = 13 ∨ T.kind = 14 := by omega
 rw [lin_eq]
 rcases this with h | h | h | h | h | h | h | h | h | h | h | h <;> simp [linOf, simpL, h]
section
variable (D : Nat) (w0 : World) (X dep : Nat) (hdp : dep + (D + 1) ≤ 1000000) (T : Nd)
include D w0 X dep hdp T
theorem ws3 (hk : T.kind = 3) (hT : St T) (hD : T.depth ≤ D + 1) (hWt : T.weight ≤ 1000000) : FSays 88 w0 X dep simpL T := by
 have _ := hdp
 intro A c K d l0 w hN hBs hW hlen
 have hdm : dep ≤ 1000000 := by omega
 have hst : (Tx.non.ev T.text && noNumB T && rowB T.kids [Sh.ev Nd.right .expr]) = true := by
  rw [← show _ = (Tx.non.ev T.text && noNumB T && rowB T.kids [Sh.ev Nd.right .expr]) from st_at hk (tx := .non) (fm := .row [.expr]) rfl lq28 lq28 lq28]; exact hT
 have hro : rowB T.kids [Sh.ev Nd.right .expr] = true := (Bool.and_eq_true _ _ ▸ hst).2
 have hlen3 : T.kids.length = 1 := row_len hro
 obtain ⟨t0, hks⟩ := kids_1 (l := T.kids) hlen3
 rw [hks] at hro
 simp only [rowB, Bool.and_eq_true, Bool.and_true] at hro
 have r0 := hro
 have hg0 : T.kids[0]? = some t0 := by rw [hks]; rfl
 obtain ⟨b, off, A0, c0', K0, d0, hKe0, hC0, hN0⟩ := hN.kid hg0
 have hd0 : t0.depth ≤ D ∧ t0.weight ≤ 1000000 := wKM hD hWt t0 (mog hg0)
 rw [Nat.zero_mul, Nat.add_zero] at hC0
 subst hKe0
 have HF0 := Lh (wExpr_ok w0 X dep D t0 (ev_ex r0) hd0.1 hd0.2)
 have HN0 := Lh hN0
 have i0 : (0 : Int) < (T.kids.length : Int) := by omega
 have i0' : 0 < T.kids.length := by omega
 have hlen : l0.length + (simpL T).length ≤ 1000000000000 := hlen
 have hts : simpL T = t0.txt := by simp [simpL, hk, hks, kd]
 rw [hts] at hlen
 have HTX := Lh hts
 have HLN := Lh hlen
 have z3 : (T.kind == 3) = true := by rw [hk]; rfl
 obtain ⟨z4, z5, z6, z7, z8, z9, z10, z11⟩ := kz8 hk 4 5 6 7 8 9 10 11 rfl
 obtain ⟨z12, z13, z14⟩ := kz3 hk 12 13 14 rfl
 obtain ⟨hm1, hm2, hrm, hw32, hk1, hk2, hk64, ha64, hts', hKs⟩ := hN.parts
 have hk2' := hk2
 unfold maxLen at hm2 hk2 hts'
 obtain ⟨hk64a, hk64b⟩ := hk64
 obtain ⟨ha64a, ha64b⟩ := ha64
 have hB0 : w0.heap.size ≤ w.heap.size := hBs.size
 have hbX : X < w.heap.size := WrT.lt hW
 have hK0 : WK w0.heap.size X w (w.alloc (bx T.kind T A c (some ⟨b, off, none⟩) d)) := (WK.refl _ _ _).alloc hB0 _
 have hWb := hW.alloc (bx T.kind T A c (some ⟨b, off, none⟩) d)
 have hBb : Below w0.heap.size w0 (w.alloc (bx T.kind T A c (some ⟨b, off, none⟩) d)) := hBs.trans hK0.b
 have hbx := heap_alloc_new w (bx T.kind T A c (some ⟨b, off, none⟩) d)
 have hsg : (w.alloc (bx T.kind T A c (some ⟨b, off, none⟩) d)).heap.size = w.heap.size + 1 := by simp
 clear hKs hN hlen hT hD hWt hrm hw32 hk hts hst hlen3 hks hg0 hN0 hd0 r0
 obtain ⟨c0, c1, c2, c3, c4, c5⟩ := (cells_box hbx).box
 have hlb := blt c0
 obtain ⟨n00, n01, n02, n03, n04, n05⟩ := hC0.later hBb
 have hlk0 := blt n00
 have hlX := WrT.lt hWb
 unfold ndV
 go_enter Tryz.func88, Tryz.ntmps88
 go_wp2_with fail
 have hI := HF0.out A0 c0' K0 d0 _ _ HN0.out hBb hWb lq8
 unfold ndV at hI
 go_at_call 81
 refine hI.mono ?_
 rintro e w_1 ⟨rfl, hW_1, hk_1⟩
 have hK_1 := hK0.trans hk_1
 have hbx := box_keep hk_1 hbx hbX
 clear hI
 have hB_1 : Below w0.heap.size w0 w_1 := hBs.trans hK_1.b
 obtain ⟨c0, c1, c2, c3, c4, c5⟩ := (cells_box hbx).box
 have hlb := blt c0
 obtain ⟨n00, n01, n02, n03, n04, n05⟩ := hC0.later hB_1
 have hlk0 := blt n00
 have hlX := WrT.lt hW_1
 go_wp2_with fail
 ((try simp only [Exit.inBlock, Exit.then]); first | refine bodyPost_end (results_none rfl _ _ _) rfl ?_ | refine bodyPost_ret (results_none rfl _ _ _) rfl ?_)
 exact ⟨rfl, hW_1.eq lq10, hK_1⟩
theorem ws4 (hk : T.kind = 4) (hT : St T) (hD : T.depth ≤ D + 1) (hWt : T.weight ≤ 1000000) : FSays 88 w0 X dep simpL T := by
 have _ := hdp
 intro A c K d l0 w hN hBs hW hlen
 have hdm : dep ≤ 1000000 := by omega
 have hst : (Tx.non.ev T.text && noNumB T && rowB T.kids [Sh.ev Nd.right .target, Sh.ev Nd.right .expr]) = true := by
  exact lv169
 have hro : rowB T.kids [Sh.ev Nd.right .target, Sh.ev Nd.right .expr] = true := (Bool.and_eq_true _ _ ▸ hst).2
 have hlen3 : T.kids.length = 2 := row_len hro
 obtain ⟨t0, t1, hks⟩ := kids_2 (l := T.kids) hlen3
 rw [hks] at hro
 simp only [rowB, Bool.and_eq_true, Bool.and_true] at hro
 obtain ⟨r0, r1⟩ := hro
 have hg0 : T.kids[0]? = some t0 := by rw [hks]; rfl
 obtain ⟨b, off, A0, c0', K0, d0, hKe0, hC0, hN0⟩ := hN.kid hg0
 have hd0 : t0.depth ≤ D ∧ t0.weight ≤ 1000000 := wKM hD hWt t0 (mog hg0)
 have hg1 : T.kids[1]? = some t1 := by rw [hks]; rfl
 obtain ⟨b1, off1, A1, c1', K1, d1, hKe1, hC1, hN1⟩ := hN.kid hg1
 have hd1 : t1.depth ≤ D ∧ t1.weight ≤ 1000000 := wKM hD hWt t1 (mog hg1)
 rw [Nat.zero_mul, Nat.add_zero] at hC0
 subst hKe0
 injection hKe1 with e1
 injection e1 with e1 e2
 subst e1 e2
 rw [show 1 * 6 = 6 from rfl] at hC1
 have HF0 := Lh (wTargets_ok D w0 X dep (wExpr_ok w0 X dep D) t0 (ev_tgt r0).te hd0.1 hd0.2)
 have HN0 := Lh hN0
 have i0 : (0 : Int) < (T.kids.length : Int) := by omega
 have i0' : 0 < T.kids.length := by omega
 have HF1 := Lh (wExpr_ok w0 X dep D t1 (ev_ex r1) hd1.1 hd1.2)
 have HN1 := Lh hN1
 have i1 : (1 : Int) < (T.kids.length : Int) := by omega
 have i1' : 1 < T.kids.length := by omega
 have hlen : l0.length + (simpL T).length ≤ 1000000000000 := hlen
 have hts : simpL T = t0.txt ++ [32, 61, 32] ++ t1.txt := by simp [simpL, hk, hks, kd]
 rw [hts] at hlen
 have HTX := Lh hts
 have HLN := Lh hlen
 have z3 : (T.kind == 3) = false := by rw [hk]; rfl
 have z4 : (T.kind == 4) = true := by rw [hk]; rfl
 obtain ⟨z5, z6, z7, z8, z9, z10, z11, z12⟩ := kz8 hk 5 6 7 8 9 10 11 12 rfl
 obtain ⟨z13, z14⟩ := kz2 hk 13 14 rfl
 exact lv14
theorem ws5 (hk : T.kind = 5) (hT : St T) (hD : T.depth ≤ D + 1) (hWt : T.weight ≤ 1000000) : FSays 88 w0 X dep simpL T := by
 have _ := hdp
 intro A c K d l0 w hN hBs hW hlen
 have hdm : dep ≤ 1000000 := by omega
 have hst : (Tx.non.ev T.text && noNumB T && rowB T.kids [Sh.ev Nd.right (.of 23), Sh.ev Nd.right .expr]) = true := by
  exact lv168
 have hro : rowB T.kids [Sh.ev Nd.right (.of 23), Sh.ev Nd.right .expr] = true := (Bool.and_eq_true _ _ ▸ hst).2
 have hlen3 : T.kids.length = 2 := row_len hro
 obtain ⟨t0, t1, hks⟩ := kids_2 (l := T.kids) hlen3
 rw [hks] at hro
 simp only [rowB, Bool.and_eq_true, Bool.and_true] at hro
 obtain ⟨r0, r1⟩ := hro
 have hg0 : T.kids[0]? = some t0 := by rw [hks]; rfl
 obtain ⟨b, off, A0, c0', K0, d0, hKe0, hC0, hN0⟩ := hN.kid hg0
 have hd0 : t0.depth ≤ D ∧ t0.weight ≤ 1000000 := wKM hD hWt t0 (mog hg0)
 have hg1 : T.kids[1]? = some t1 := by rw [hks]; rfl
 obtain ⟨b1, off1, A1, c1', K1, d1, hKe1, hC1, hN1⟩ := hN.kid hg1
 have hd1 : t1.depth ≤ D ∧ t1.weight ≤ 1000000 := wKM hD hWt t1 (mog hg1)
 rw [Nat.zero_mul, Nat.add_zero] at hC0
 subst hKe0
 injection hKe1 with e1
 injection e1 with e1 e2
 subst e1 e2
 rw [show 1 * 6 = 6 from rfl] at hC1
 have HF0 := Lh (wTargets_ok D w0 X dep (wExpr_ok w0 X dep D) t0 (tgt_23 r0) hd0.1 hd0.2)
 have HN0 := Lh hN0
 have i0 : (0 : Int) < (T.kids.length : Int) := by omega
 have i0' : 0 < T.kids.length := by omega
 have HF1 := Lh (wExpr_ok w0 X dep D t1 (ev_ex r1) hd1.1 hd1.2)
 have HN1 := Lh hN1
 have i1 : (1 : Int) < (T.kids.length : Int) := by omega
 have i1' : 1 < T.kids.length := by omega
 have hlen : l0.length + (simpL T).length ≤ 1000000000000 := hlen
 have hts : simpL T = t0.txt ++ [32, 61, 32] ++ t1.txt := by simp [simpL, hk, hks, kd]
 rw [hts] at hlen
 have HTX := Lh hts
 have HLN := Lh hlen
 obtain ⟨z3, z4⟩ := kz2 hk 3 4 rfl
 have z5 : (T.kind == 5) = true := by rw [hk]; rfl
 obtain ⟨z6, z7, z8, z9, z10, z11, z12, z13⟩ := kz8 hk 6 7 8 9 10 11 12 13 rfl
 have z14 : (T.kind == 14) = false := by rw [hk]; rfl
 exact lv14
theorem ws6 (hk : T.kind = 6) (hT : St T) (hD : T.depth ≤ D + 1) (hWt : T.weight ≤ 1000000) : FSays 88 w0 X dep simpL T := by
 have _ := hdp
 intro A c K d l0 w hN hBs hW hlen
 have hdm : dep ≤ 1000000 := by omega
 have hst : ((Tx.words signsL).ev T.text && noNumB T && rowB T.kids [Sh.ev Nd.right .target, Sh.ev Nd.right .expr]) = true := by
  exact lv165
 have hro : rowB T.kids [Sh.ev Nd.right .target, Sh.ev Nd.right .expr] = true := (Bool.and_eq_true _ _ ▸ hst).2
 have hlen3 : T.kids.length = 2 := row_len hro
 obtain ⟨t0, t1, hks⟩ := kids_2 (l := T.kids) hlen3
 rw [hks] at hro
 simp only [rowB, Bool.and_eq_true, Bool.and_true] at hro
 obtain ⟨r0, r1⟩ := hro
 have hg0 : T.kids[0]? = some t0 := by rw [hks]; rfl
 obtain ⟨b, off, A0, c0', K0, d0, hKe0, hC0, hN0⟩ := hN.kid hg0
 have hd0 : t0.depth ≤ D ∧ t0.weight ≤ 1000000 := wKM hD hWt t0 (mog hg0)
 have hg1 : T.kids[1]? = some t1 := by rw [hks]; rfl
 obtain ⟨b1, off1, A1, c1', K1, d1, hKe1, hC1, hN1⟩ := hN.kid hg1
 have hd1 : t1.depth ≤ D ∧ t1.weight ≤ 1000000 := wKM hD hWt t1 (mog hg1)
 rw [Nat.zero_mul, Nat.add_zero] at hC0
 subst hKe0
 injection hKe1 with e1
 injection e1 with e1 e2
 subst e1 e2
 rw [show 1 * 6 = 6 from rfl] at hC1
 have HF0 := Lh (wExpr_ok w0 X dep D t0 (ev_tgt r0) hd0.1 hd0.2)
 have HN0 := Lh hN0
 have i0 : (0 : Int) < (T.kids.length : Int) := by omega
 have i0' : 0 < T.kids.length := by omega
 have HF1 := Lh (wExpr_ok w0 X dep D t1 (ev_ex r1) hd1.1 hd1.2)
 have HN1 := Lh hN1
 have i1 : (1 : Int) < (T.kids.length : Int) := by omega
 have i1' : 1 < T.kids.length := by omega
 have hlen : l0.length + (simpL T).length ≤ 1000000000000 := hlen
 have hts : simpL T = t0.txt ++ [32] ++ tx T ++ [61, 32] ++ t1.txt := by simp [simpL, hk, hks, kd]
 rw [hts] at hlen
 have HTX := Lh hts
 have HLN := Lh hlen
 obtain ⟨z3, z4, z5⟩ := kz3 hk 3 4 5 rfl
 have z6 : (T.kind == 6) = true := by rw [hk]; rfl
 obtain ⟨z7, z8, z9, z10, z11, z12, z13, z14⟩ := kz8 hk 7 8 9 10 11 12 13 14 rfl
 obtain ⟨hm1, hm2, hrm, hw32, hk1, hk2, hk64, ha64, hts', hKs⟩ := hN.parts
 have hk2' := hk2
 unfold maxLen at hm2 hk2 hts'
 obtain ⟨hk64a, hk64b⟩ := hk64
 obtain ⟨ha64a, ha64b⟩ := ha64
 have hB0 : w0.heap.size ≤ w.heap.size := hBs.size
 have hbX : X < w.heap.size := WrT.lt hW
 have hK0 : WK w0.heap.size X w (w.alloc (bx T.kind T A c (some ⟨b, off, none⟩) d)) := (WK.refl _ _ _).alloc hB0 _
 have hWb := hW.alloc (bx T.kind T A c (some ⟨b, off, none⟩) d)
 have hBb : Below w0.heap.size w0 (w.alloc (bx T.kind T A c (some ⟨b, off, none⟩) d)) := hBs.trans hK0.b
 have hbx := heap_alloc_new w (bx T.kind T A c (some ⟨b, off, none⟩) d)
 have hsg : (w.alloc (bx T.kind T A c (some ⟨b, off, none⟩) d)).heap.size = w.heap.size + 1 := by simp
 clear hKs hN hlen hT hD hWt hrm hw32 hk hts hst hlen3 hks hg0 hN0 hd0 r0 hg1 hN1 hd1 r1
 obtain ⟨c0, c1, c2, c3, c4, c5⟩ := (cells_box hbx).box
 have hlb := blt c0
 obtain ⟨n00, n01, n02, n03, n04, n05⟩ := hC0.later hBb
 have hlk0 := blt n00
 obtain ⟨n10, n11, n12, n13, n14, n15⟩ := hC1.later hBb
 have hlk1 := blt n10
 have hlX := WrT.lt hWb
 unfold ndV
 go_enter Tryz.func88, Tryz.ntmps88
 go_wp2_with fail
 have hI := HF0.out A0 c0' K0 d0 _ _ HN0.out hBb hWb lq8
 unfold ndV at hI
 go_at_call 81
 refine hI.mono ?_
 rintro e w_1 ⟨rfl, hW_1, hk_1⟩
 have hK_1 := hK0.trans hk_1
 have hbx := box_keep hk_1 hbx hbX
 clear hI
 have hB_1 : Below w0.heap.size w0 w_1 := hBs.trans hK_1.b
 obtain ⟨c0, c1, c2, c3, c4, c5⟩ := (cells_box hbx).box
 have hlb := blt c0
 obtain ⟨n00, n01, n02, n03, n04, n05⟩ := hC0.later hB_1
 have hlk0 := blt n00
 obtain ⟨n10, n11, n12, n13, n14, n15⟩ := hC1.later hB_1
 have hlk1 := blt n10
 have hlX := WrT.lt hW_1
 go_wp2_with fail
 have hWa := hW_1.alloc (.cells #[.string { data := #[32] }, .string (T.text), .string { data := #[61, 32] }] 9)
 have hKa := hK_1.alloc (Nat.le_trans hB0 hK_1.b.size) (.cells #[.string { data := #[32] }, .string (T.text), .string { data := #[61, 32] }] 9)
 have hbxa := (Lib.alloc_old _ (.cells #[.string { data := #[32] }, .string (T.text), .string { data := #[61, 32] }] 9) _ hlb).trans hbx
 go_at_call 84
 refine (wSayT_ok w0.heap.size X dep _ ([32] ++ tx T ++ [61, 32]) [⟨#[32]⟩, T.text, ⟨#[61, 32]⟩] 3 _ _ hWa rfl (WrT.lt hW_1) (heap_alloc_new _ _) (by simp [tx]) lq28 lq8 (Nat.le_trans hB0 hKa.b.size)).mono ?_
 rintro e w_2 ⟨rfl, hW_2, hk_2⟩
 have hK_2 := hKa.trans hk_2
 have hbx := box_keep hk_2 hbxa hbX
 have hB_2 : Below w0.heap.size w0 w_2 := hBs.trans hK_2.b
 obtain ⟨c0, c1, c2, c3, c4, c5⟩ := (cells_box hbx).box
 have hlb := blt c0
 obtain ⟨n00, n01, n02, n03, n04, n05⟩ := hC0.later hB_2
 have hlk0 := blt n00
 obtain ⟨n10, n11, n12, n13, n14, n15⟩ := hC1.later hB_2
 have hlk1 := blt n10
 have hlX := WrT.lt hW_2
 go_wp2_with fail
 have hI := HF1.out A1 c1' K1 d1 _ _ HN1.out hB_2 hW_2 lq8
 unfold ndV at hI
 go_at_call 81
 refine hI.mono ?_
 rintro e w_3 ⟨rfl, hW_3, hk_3⟩
 have hK_3 := hK_2.trans hk_3
 have hbx := box_keep hk_3 hbx hbX
 clear hI
 have hB_3 : Below w0.heap.size w0 w_3 := hBs.trans hK_3.b
 obtain ⟨c0, c1, c2, c3, c4, c5⟩ := (cells_box hbx).box
 have hlb := blt c0
 obtain ⟨n00, n01, n02, n03, n04, n05⟩ := hC0.later hB_3
 have hlk0 := blt n00
 obtain ⟨n10, n11, n12, n13, n14, n15⟩ := hC1.later hB_3
 have hlk1 := blt n10
 have hlX := WrT.lt hW_3
 go_wp2_with fail
 ((try simp only [Exit.inBlock, Exit.then]); first | refine bodyPost_end (results_none rfl _ _ _) rfl ?_ | refine bodyPost_ret (results_none rfl _ _ _) rfl ?_)
 exact ⟨rfl, hW_3.eq lq10, hK_3⟩
end

end
end Go.Proofs.YtjefhdlncikhmaaGreatDoor
