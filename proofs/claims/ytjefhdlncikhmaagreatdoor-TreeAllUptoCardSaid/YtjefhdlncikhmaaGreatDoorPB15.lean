/- Joined by a program: Wr6a. -/
import Derived.WalkKit
import Derived.Test.YtjefhdlncikhmaaGreatDoorShelf
import Derived.Test.YtjefhdlncikhmaaGreatDoorPB14
namespace Go.Proofs.YtjefhdlncikhmaaGreatDoor
section
set_option linter.unusedVariables false
set_option linter.unusedSimpArgs false
open Go.RowKit
set_option maxRecDepth 1000000
set_option maxHeartbeats 8000000 in
theorem ws3 (D : Nat) (w0 : World) (X dep : Nat) (hdp : dep + (D + 1) ≤ 1000000) (T : Nd) (hk : T.kind = 3) (hT : St T) (hD : T.depth ≤ D + 1) (hWt : T.weight ≤ 1000000) : FSays 88 w0 X dep simpL T := by
  intro A c K d l0 w hN hBs hW hlen
  have hdm : dep ≤ 1000000 := by omega
  have hst : (Tx.non.ev T.text && noNumB T && rowB T.kids [Sh.ev Nd.right .expr]) = true := by
    rw [← show _ = (Tx.non.ev T.text && noNumB T && rowB T.kids [Sh.ev Nd.right .expr]) from st_at hk (tx := .non) (fm := .row [.expr]) rfl (by decide) (by decide) (by decide)]
    exact hT
  have hro : rowB T.kids [Sh.ev Nd.right .expr] = true := (Bool.and_eq_true _ _ ▸ hst).2
  have hlen3 : T.kids.length = 1 := row_len hro
  obtain ⟨t0, hks⟩ := kids_1 (l := T.kids) hlen3
  rw [hks] at hro
  simp only [rowB, Bool.and_eq_true, Bool.and_true] at hro
  have r0 := hro
  have hg0 : T.kids[0]? = some t0 := by rw [hks]; rfl
  obtain ⟨b, off, A0, c0', K0, d0, hKe0, hC0, hN0⟩ := hN.kid hg0
  have hd0 : t0.depth ≤ D ∧ t0.weight ≤ 1000000 := within_kidsM hD hWt t0 (List.mem_of_getElem? hg0)
  rw [Nat.zero_mul, Nat.add_zero] at hC0
  subst hKe0
  have HF0 := Lib.hid (wExpr_ok w0 X dep D t0 (ev_ex r0) hd0.1 hd0.2)
  have HN0 := Lib.hid hN0
  have i0 : (0 : Int) < (T.kids.length : Int) := by omega
  have i0' : 0 < T.kids.length := by omega
  have hlen : l0.length + (simpL T).length ≤ 1000000000000 := hlen
  have hts : simpL T = t0.txt := by simp [simpL, hk, hks, kd]
  rw [hts] at hlen
  have HTX := Lib.hid hts
  have HLN := Lib.hid hlen
  have z3 : (T.kind == 3) = true := by rw [hk]; rfl
  have z4 : (T.kind == 4) = false := by rw [hk]; rfl
  have z5 : (T.kind == 5) = false := by rw [hk]; rfl
  have z6 : (T.kind == 6) = false := by rw [hk]; rfl
  have z7 : (T.kind == 7) = false := by rw [hk]; rfl
  have z8 : (T.kind == 8) = false := by rw [hk]; rfl
  have z9 : (T.kind == 9) = false := by rw [hk]; rfl
  have z10 : (T.kind == 10) = false := by rw [hk]; rfl
  have z11 : (T.kind == 11) = false := by rw [hk]; rfl
  have z12 : (T.kind == 12) = false := by rw [hk]; rfl
  have z13 : (T.kind == 13) = false := by rw [hk]; rfl
  have z14 : (T.kind == 14) = false := by rw [hk]; rfl
  obtain ⟨hm1, hm2, hrm, hw32, hk1, hk2, hk64, ha64, hts', hKs⟩ := hN.parts
  have hk2' := hk2
  unfold maxLen at hm2 hk2 hts'
  obtain ⟨hk64a, hk64b⟩ := hk64
  obtain ⟨ha64a, ha64b⟩ := ha64
  have hB0 : w0.heap.size ≤ w.heap.size := hBs.size
  have hbX : X < w.heap.size := WrT.lt hW
  have hK0 : WK w0.heap.size X w (w.alloc (.cells #[.int .i64 T.kind, .int .i64 T.pos, .string T.text, .bool T.neg, .slice A T.mag.length c, .slice (some ⟨b, off, none⟩) T.kids.length d] 27)) := (WK.refl _ _ _).alloc hB0 _
  have hWb := hW.alloc (.cells #[.int .i64 T.kind, .int .i64 T.pos, .string T.text, .bool T.neg, .slice A T.mag.length c, .slice (some ⟨b, off, none⟩) T.kids.length d] 27)
  have hBb : Below w0.heap.size w0 (w.alloc (.cells #[.int .i64 T.kind, .int .i64 T.pos, .string T.text, .bool T.neg, .slice A T.mag.length c, .slice (some ⟨b, off, none⟩) T.kids.length d] 27)) := hBs.trans hK0.b
  have hbx := heap_alloc_new w (.cells #[.int .i64 T.kind, .int .i64 T.pos, .string T.text, .bool T.neg, .slice A T.mag.length c, .slice (some ⟨b, off, none⟩) T.kids.length d] 27)
  have hsg : (w.alloc (.cells #[.int .i64 T.kind, .int .i64 T.pos, .string T.text, .bool T.neg, .slice A T.mag.length c, .slice (some ⟨b, off, none⟩) T.kids.length d] 27)).heap.size = w.heap.size + 1 := by simp
  clear hKs hN hlen hT hD hWt hrm hw32 hk hts hst hlen3 hks hg0 hN0 hd0 r0
  obtain ⟨c0, c1, c2, c3, c4, c5⟩ := (cells_box hbx).box
  have hlb := World.block_lt_of_cell? _ _ c0
  obtain ⟨n0_0, n0_1, n0_2, n0_3, n0_4, n0_5⟩ := hC0.later hBb
  have hlk0 := World.block_lt_of_cell? _ _ n0_0
  have hlX := WrT.lt hWb
  unfold ndV
  go_enter Tryz.func88, Tryz.ntmps88
  go_wp2_with fail
  have hI := HF0.out A0 c0' K0 d0 _ _ HN0.out hBb hWb (by have h := HLN.out; (try simp only [List.length_append, List.length_cons, List.length_nil, List.length_singleton] at h); (try simp only [List.length_append, List.length_cons, List.length_nil, List.length_singleton]); omega)
  unfold ndV at hI
  go_at_call 81
  refine hI.mono ?_
  rintro e w_1 ⟨rfl, hW_1, hk_1⟩
  have hK_1 := hK0.trans hk_1
  have hbx := box_keep hk_1 hbx hbX
  clear hI
  have hB_1 : Below w0.heap.size w0 w_1 := hBs.trans hK_1.b
  obtain ⟨c0, c1, c2, c3, c4, c5⟩ := (cells_box hbx).box
  have hlb := World.block_lt_of_cell? _ _ c0
  obtain ⟨n0_0, n0_1, n0_2, n0_3, n0_4, n0_5⟩ := hC0.later hB_1
  have hlk0 := World.block_lt_of_cell? _ _ n0_0
  have hlX := WrT.lt hW_1
  go_wp2_with fail
  ((try simp only [Exit.inBlock, Exit.then]); first | refine bodyPost_end (results_none rfl _ _ _) rfl ?_ | refine bodyPost_ret (results_none rfl _ _ _) rfl ?_)
  exact ⟨rfl, hW_1.eq (by show _ = l0 ++ simpL T; rw [HTX.out]; try simp only [List.append_assoc, List.append_nil, List.nil_append, List.cons_append, List.singleton_append]), hK_1⟩
set_option maxHeartbeats 8000000 in
theorem ws4 (D : Nat) (w0 : World) (X dep : Nat) (hdp : dep + (D + 1) ≤ 1000000) (T : Nd) (hk : T.kind = 4) (hT : St T) (hD : T.depth ≤ D + 1) (hWt : T.weight ≤ 1000000) : FSays 88 w0 X dep simpL T := by
  intro A c K d l0 w hN hBs hW hlen
  have hdm : dep ≤ 1000000 := by omega
  have hst : (Tx.non.ev T.text && noNumB T && rowB T.kids [Sh.ev Nd.right .target, Sh.ev Nd.right .expr]) = true := by
    rw [← show _ = (Tx.non.ev T.text && noNumB T && rowB T.kids [Sh.ev Nd.right .target, Sh.ev Nd.right .expr]) from st_at hk (tx := .non) (fm := .row [.target, .expr]) rfl (by decide) (by decide) (by decide)]
    exact hT
  have hro : rowB T.kids [Sh.ev Nd.right .target, Sh.ev Nd.right .expr] = true := (Bool.and_eq_true _ _ ▸ hst).2
  have hlen3 : T.kids.length = 2 := row_len hro
  obtain ⟨t0, t1, hks⟩ := kids_2 (l := T.kids) hlen3
  rw [hks] at hro
  simp only [rowB, Bool.and_eq_true, Bool.and_true] at hro
  obtain ⟨r0, r1⟩ := hro
  have hg0 : T.kids[0]? = some t0 := by rw [hks]; rfl
  obtain ⟨b, off, A0, c0', K0, d0, hKe0, hC0, hN0⟩ := hN.kid hg0
  have hd0 : t0.depth ≤ D ∧ t0.weight ≤ 1000000 := within_kidsM hD hWt t0 (List.mem_of_getElem? hg0)
  have hg1 : T.kids[1]? = some t1 := by rw [hks]; rfl
  obtain ⟨b1, off1, A1, c1', K1, d1, hKe1, hC1, hN1⟩ := hN.kid hg1
  have hd1 : t1.depth ≤ D ∧ t1.weight ≤ 1000000 := within_kidsM hD hWt t1 (List.mem_of_getElem? hg1)
  rw [Nat.zero_mul, Nat.add_zero] at hC0
  subst hKe0
  injection hKe1 with e1
  injection e1 with e1 e2
  subst e1 e2
  rw [show 1 * 6 = 6 from rfl] at hC1
  have HF0 := Lib.hid (wTargets_ok D w0 X dep (wExpr_ok w0 X dep D) t0 (ev_tgt r0).te hd0.1 hd0.2)
  have HN0 := Lib.hid hN0
  have i0 : (0 : Int) < (T.kids.length : Int) := by omega
  have i0' : 0 < T.kids.length := by omega
  have HF1 := Lib.hid (wExpr_ok w0 X dep D t1 (ev_ex r1) hd1.1 hd1.2)
  have HN1 := Lib.hid hN1
  have i1 : (1 : Int) < (T.kids.length : Int) := by omega
  have i1' : 1 < T.kids.length := by omega
  have hlen : l0.length + (simpL T).length ≤ 1000000000000 := hlen
  have hts : simpL T = t0.txt ++ [32, 61, 32] ++ t1.txt := by simp [simpL, hk, hks, kd]
  rw [hts] at hlen
  have HTX := Lib.hid hts
  have HLN := Lib.hid hlen
  have z3 : (T.kind == 3) = false := by rw [hk]; rfl
  have z4 : (T.kind == 4) = true := by rw [hk]; rfl
  have z5 : (T.kind == 5) = false := by rw [hk]; rfl
  have z6 : (T.kind == 6) = false := by rw [hk]; rfl
  have z7 : (T.kind == 7) = false := by rw [hk]; rfl
  have z8 : (T.kind == 8) = false := by rw [hk]; rfl
  have z9 : (T.kind == 9) = false := by rw [hk]; rfl
  have z10 : (T.kind == 10) = false := by rw [hk]; rfl
  have z11 : (T.kind == 11) = false := by rw [hk]; rfl
  have z12 : (T.kind == 12) = false := by rw [hk]; rfl
  have z13 : (T.kind == 13) = false := by rw [hk]; rfl
  have z14 : (T.kind == 14) = false := by rw [hk]; rfl
  obtain ⟨hm1, hm2, hrm, hw32, hk1, hk2, hk64, ha64, hts', hKs⟩ := hN.parts
  have hk2' := hk2
  unfold maxLen at hm2 hk2 hts'
  obtain ⟨hk64a, hk64b⟩ := hk64
  obtain ⟨ha64a, ha64b⟩ := ha64
  have hB0 : w0.heap.size ≤ w.heap.size := hBs.size
  have hbX : X < w.heap.size := WrT.lt hW
  have hK0 : WK w0.heap.size X w (w.alloc (.cells #[.int .i64 T.kind, .int .i64 T.pos, .string T.text, .bool T.neg, .slice A T.mag.length c, .slice (some ⟨b, off, none⟩) T.kids.length d] 27)) := (WK.refl _ _ _).alloc hB0 _
  have hWb := hW.alloc (.cells #[.int .i64 T.kind, .int .i64 T.pos, .string T.text, .bool T.neg, .slice A T.mag.length c, .slice (some ⟨b, off, none⟩) T.kids.length d] 27)
  have hBb : Below w0.heap.size w0 (w.alloc (.cells #[.int .i64 T.kind, .int .i64 T.pos, .string T.text, .bool T.neg, .slice A T.mag.length c, .slice (some ⟨b, off, none⟩) T.kids.length d] 27)) := hBs.trans hK0.b
  have hbx := heap_alloc_new w (.cells #[.int .i64 T.kind, .int .i64 T.pos, .string T.text, .bool T.neg, .slice A T.mag.length c, .slice (some ⟨b, off, none⟩) T.kids.length d] 27)
  have hsg : (w.alloc (.cells #[.int .i64 T.kind, .int .i64 T.pos, .string T.text, .bool T.neg, .slice A T.mag.length c, .slice (some ⟨b, off, none⟩) T.kids.length d] 27)).heap.size = w.heap.size + 1 := by simp
  clear hKs hN hlen hT hD hWt hrm hw32 hk hts hst hlen3 hks hg0 hN0 hd0 r0 hg1 hN1 hd1 r1
  obtain ⟨c0, c1, c2, c3, c4, c5⟩ := (cells_box hbx).box
  have hlb := World.block_lt_of_cell? _ _ c0
  obtain ⟨n0_0, n0_1, n0_2, n0_3, n0_4, n0_5⟩ := hC0.later hBb
  have hlk0 := World.block_lt_of_cell? _ _ n0_0
  obtain ⟨n1_0, n1_1, n1_2, n1_3, n1_4, n1_5⟩ := hC1.later hBb
  have hlk1 := World.block_lt_of_cell? _ _ n1_0
  have hlX := WrT.lt hWb
  unfold ndV
  go_enter Tryz.func88, Tryz.ntmps88
  go_wp2_with fail
  have hI := HF0.out A0 c0' K0 d0 _ _ HN0.out hBb hWb (by have h := HLN.out; (try simp only [List.length_append, List.length_cons, List.length_nil, List.length_singleton] at h); (try simp only [List.length_append, List.length_cons, List.length_nil, List.length_singleton]); omega)
  unfold ndV at hI
  go_at_call 83
  refine hI.mono ?_
  rintro e w_1 ⟨rfl, hW_1, hk_1⟩
  have hK_1 := hK0.trans hk_1
  have hbx := box_keep hk_1 hbx hbX
  clear hI
  have hB_1 : Below w0.heap.size w0 w_1 := hBs.trans hK_1.b
  obtain ⟨c0, c1, c2, c3, c4, c5⟩ := (cells_box hbx).box
  have hlb := World.block_lt_of_cell? _ _ c0
  obtain ⟨n0_0, n0_1, n0_2, n0_3, n0_4, n0_5⟩ := hC0.later hB_1
  have hlk0 := World.block_lt_of_cell? _ _ n0_0
  obtain ⟨n1_0, n1_1, n1_2, n1_3, n1_4, n1_5⟩ := hC1.later hB_1
  have hlk1 := World.block_lt_of_cell? _ _ n1_0
  have hlX := WrT.lt hW_1
  go_wp2_with fail
  have hWa := hW_1.alloc (.cells #[.string { data := #[32, 61, 32] }] 9)
  have hKa := hK_1.alloc (Nat.le_trans hB0 hK_1.b.size) (.cells #[.string { data := #[32, 61, 32] }] 9)
  have hbxa := (Lib.alloc_old _ (.cells #[.string { data := #[32, 61, 32] }] 9) _ hlb).trans hbx
  go_at_call 84
  refine (wSayT_ok w0.heap.size X dep _ ([32, 61, 32]) [⟨#[32, 61, 32]⟩] 1 _ _ hWa rfl (WrT.lt hW_1) (heap_alloc_new _ _) rfl (by decide) (by have h := HLN.out; (try simp only [List.length_append, List.length_cons, List.length_nil, List.length_singleton] at h); (try simp only [List.length_append, List.length_cons, List.length_nil, List.length_singleton]); omega) (Nat.le_trans hB0 hKa.b.size)).mono ?_
  rintro e w_2 ⟨rfl, hW_2, hk_2⟩
  have hK_2 := hKa.trans hk_2
  have hbx := box_keep hk_2 hbxa hbX
  have hB_2 : Below w0.heap.size w0 w_2 := hBs.trans hK_2.b
  obtain ⟨c0, c1, c2, c3, c4, c5⟩ := (cells_box hbx).box
  have hlb := World.block_lt_of_cell? _ _ c0
  obtain ⟨n0_0, n0_1, n0_2, n0_3, n0_4, n0_5⟩ := hC0.later hB_2
  have hlk0 := World.block_lt_of_cell? _ _ n0_0
  obtain ⟨n1_0, n1_1, n1_2, n1_3, n1_4, n1_5⟩ := hC1.later hB_2
  have hlk1 := World.block_lt_of_cell? _ _ n1_0
  have hlX := WrT.lt hW_2
  go_wp2_with fail
  have hI := HF1.out A1 c1' K1 d1 _ _ HN1.out hB_2 hW_2 (by have h := HLN.out; (try simp only [List.length_append, List.length_cons, List.length_nil, List.length_singleton] at h); (try simp only [List.length_append, List.length_cons, List.length_nil, List.length_singleton]); omega)
  unfold ndV at hI
  go_at_call 81
  refine hI.mono ?_
  rintro e w_3 ⟨rfl, hW_3, hk_3⟩
  have hK_3 := hK_2.trans hk_3
  have hbx := box_keep hk_3 hbx hbX
  clear hI
  have hB_3 : Below w0.heap.size w0 w_3 := hBs.trans hK_3.b
  obtain ⟨c0, c1, c2, c3, c4, c5⟩ := (cells_box hbx).box
  have hlb := World.block_lt_of_cell? _ _ c0
  obtain ⟨n0_0, n0_1, n0_2, n0_3, n0_4, n0_5⟩ := hC0.later hB_3
  have hlk0 := World.block_lt_of_cell? _ _ n0_0
  obtain ⟨n1_0, n1_1, n1_2, n1_3, n1_4, n1_5⟩ := hC1.later hB_3
  have hlk1 := World.block_lt_of_cell? _ _ n1_0
  have hlX := WrT.lt hW_3
  go_wp2_with fail
  ((try simp only [Exit.inBlock, Exit.then]); first | refine bodyPost_end (results_none rfl _ _ _) rfl ?_ | refine bodyPost_ret (results_none rfl _ _ _) rfl ?_)
  exact ⟨rfl, hW_3.eq (by show _ = l0 ++ simpL T; rw [HTX.out]; try simp only [List.append_assoc, List.append_nil, List.nil_append, List.cons_append, List.singleton_append]), hK_3⟩
set_option maxHeartbeats 8000000 in
theorem ws5 (D : Nat) (w0 : World) (X dep : Nat) (hdp : dep + (D + 1) ≤ 1000000) (T : Nd) (hk : T.kind = 5) (hT : St T) (hD : T.depth ≤ D + 1) (hWt : T.weight ≤ 1000000) : FSays 88 w0 X dep simpL T := by
  intro A c K d l0 w hN hBs hW hlen
  have hdm : dep ≤ 1000000 := by omega
  have hst : (Tx.non.ev T.text && noNumB T && rowB T.kids [Sh.ev Nd.right (.of 23), Sh.ev Nd.right .expr]) = true := by
    rw [← show _ = (Tx.non.ev T.text && noNumB T && rowB T.kids [Sh.ev Nd.right (.of 23), Sh.ev Nd.right .expr]) from st_at hk (tx := .non) (fm := .row [(.of 23), .expr]) rfl (by decide) (by decide) (by decide)]
    exact hT
  have hro : rowB T.kids [Sh.ev Nd.right (.of 23), Sh.ev Nd.right .expr] = true := (Bool.and_eq_true _ _ ▸ hst).2
  have hlen3 : T.kids.length = 2 := row_len hro
  obtain ⟨t0, t1, hks⟩ := kids_2 (l := T.kids) hlen3
  rw [hks] at hro
  simp only [rowB, Bool.and_eq_true, Bool.and_true] at hro
  obtain ⟨r0, r1⟩ := hro
  have hg0 : T.kids[0]? = some t0 := by rw [hks]; rfl
  obtain ⟨b, off, A0, c0', K0, d0, hKe0, hC0, hN0⟩ := hN.kid hg0
  have hd0 : t0.depth ≤ D ∧ t0.weight ≤ 1000000 := within_kidsM hD hWt t0 (List.mem_of_getElem? hg0)
  have hg1 : T.kids[1]? = some t1 := by rw [hks]; rfl
  obtain ⟨b1, off1, A1, c1', K1, d1, hKe1, hC1, hN1⟩ := hN.kid hg1
  have hd1 : t1.depth ≤ D ∧ t1.weight ≤ 1000000 := within_kidsM hD hWt t1 (List.mem_of_getElem? hg1)
  rw [Nat.zero_mul, Nat.add_zero] at hC0
  subst hKe0
  injection hKe1 with e1
  injection e1 with e1 e2
  subst e1 e2
  rw [show 1 * 6 = 6 from rfl] at hC1
  have HF0 := Lib.hid (wTargets_ok D w0 X dep (wExpr_ok w0 X dep D) t0 (tgt_23 r0) hd0.1 hd0.2)
  have HN0 := Lib.hid hN0
  have i0 : (0 : Int) < (T.kids.length : Int) := by omega
  have i0' : 0 < T.kids.length := by omega
  have HF1 := Lib.hid (wExpr_ok w0 X dep D t1 (ev_ex r1) hd1.1 hd1.2)
  have HN1 := Lib.hid hN1
  have i1 : (1 : Int) < (T.kids.length : Int) := by omega
  have i1' : 1 < T.kids.length := by omega
  have hlen : l0.length + (simpL T).length ≤ 1000000000000 := hlen
  have hts : simpL T = t0.txt ++ [32, 61, 32] ++ t1.txt := by simp [simpL, hk, hks, kd]
  rw [hts] at hlen
  have HTX := Lib.hid hts
  have HLN := Lib.hid hlen
  have z3 : (T.kind == 3) = false := by rw [hk]; rfl
  have z4 : (T.kind == 4) = false := by rw [hk]; rfl
  have z5 : (T.kind == 5) = true := by rw [hk]; rfl
  have z6 : (T.kind == 6) = false := by rw [hk]; rfl
  have z7 : (T.kind == 7) = false := by rw [hk]; rfl
  have z8 : (T.kind == 8) = false := by rw [hk]; rfl
  have z9 : (T.kind == 9) = false := by rw [hk]; rfl
  have z10 : (T.kind == 10) = false := by rw [hk]; rfl
  have z11 : (T.kind == 11) = false := by rw [hk]; rfl
  have z12 : (T.kind == 12) = false := by rw [hk]; rfl
  have z13 : (T.kind == 13) = false := by rw [hk]; rfl
  have z14 : (T.kind == 14) = false := by rw [hk]; rfl
  obtain ⟨hm1, hm2, hrm, hw32, hk1, hk2, hk64, ha64, hts', hKs⟩ := hN.parts
  have hk2' := hk2
  unfold maxLen at hm2 hk2 hts'
  obtain ⟨hk64a, hk64b⟩ := hk64
  obtain ⟨ha64a, ha64b⟩ := ha64
  have hB0 : w0.heap.size ≤ w.heap.size := hBs.size
  have hbX : X < w.heap.size := WrT.lt hW
  have hK0 : WK w0.heap.size X w (w.alloc (.cells #[.int .i64 T.kind, .int .i64 T.pos, .string T.text, .bool T.neg, .slice A T.mag.length c, .slice (some ⟨b, off, none⟩) T.kids.length d] 27)) := (WK.refl _ _ _).alloc hB0 _
  have hWb := hW.alloc (.cells #[.int .i64 T.kind, .int .i64 T.pos, .string T.text, .bool T.neg, .slice A T.mag.length c, .slice (some ⟨b, off, none⟩) T.kids.length d] 27)
  have hBb : Below w0.heap.size w0 (w.alloc (.cells #[.int .i64 T.kind, .int .i64 T.pos, .string T.text, .bool T.neg, .slice A T.mag.length c, .slice (some ⟨b, off, none⟩) T.kids.length d] 27)) := hBs.trans hK0.b
  have hbx := heap_alloc_new w (.cells #[.int .i64 T.kind, .int .i64 T.pos, .string T.text, .bool T.neg, .slice A T.mag.length c, .slice (some ⟨b, off, none⟩) T.kids.length d] 27)
  have hsg : (w.alloc (.cells #[.int .i64 T.kind, .int .i64 T.pos, .string T.text, .bool T.neg, .slice A T.mag.length c, .slice (some ⟨b, off, none⟩) T.kids.length d] 27)).heap.size = w.heap.size + 1 := by simp
  clear hKs hN hlen hT hD hWt hrm hw32 hk hts hst hlen3 hks hg0 hN0 hd0 r0 hg1 hN1 hd1 r1
  obtain ⟨c0, c1, c2, c3, c4, c5⟩ := (cells_box hbx).box
  have hlb := World.block_lt_of_cell? _ _ c0
  obtain ⟨n0_0, n0_1, n0_2, n0_3, n0_4, n0_5⟩ := hC0.later hBb
  have hlk0 := World.block_lt_of_cell? _ _ n0_0
  obtain ⟨n1_0, n1_1, n1_2, n1_3, n1_4, n1_5⟩ := hC1.later hBb
  have hlk1 := World.block_lt_of_cell? _ _ n1_0
  have hlX := WrT.lt hWb
  unfold ndV
  go_enter Tryz.func88, Tryz.ntmps88
  go_wp2_with fail
  have hI := HF0.out A0 c0' K0 d0 _ _ HN0.out hBb hWb (by have h := HLN.out; (try simp only [List.length_append, List.length_cons, List.length_nil, List.length_singleton] at h); (try simp only [List.length_append, List.length_cons, List.length_nil, List.length_singleton]); omega)
  unfold ndV at hI
  go_at_call 83
  refine hI.mono ?_
  rintro e w_1 ⟨rfl, hW_1, hk_1⟩
  have hK_1 := hK0.trans hk_1
  have hbx := box_keep hk_1 hbx hbX
  clear hI
  have hB_1 : Below w0.heap.size w0 w_1 := hBs.trans hK_1.b
  obtain ⟨c0, c1, c2, c3, c4, c5⟩ := (cells_box hbx).box
  have hlb := World.block_lt_of_cell? _ _ c0
  obtain ⟨n0_0, n0_1, n0_2, n0_3, n0_4, n0_5⟩ := hC0.later hB_1
  have hlk0 := World.block_lt_of_cell? _ _ n0_0
  obtain ⟨n1_0, n1_1, n1_2, n1_3, n1_4, n1_5⟩ := hC1.later hB_1
  have hlk1 := World.block_lt_of_cell? _ _ n1_0
  have hlX := WrT.lt hW_1
  go_wp2_with fail
  have hWa := hW_1.alloc (.cells #[.string { data := #[32, 61, 32] }] 9)
  have hKa := hK_1.alloc (Nat.le_trans hB0 hK_1.b.size) (.cells #[.string { data := #[32, 61, 32] }] 9)
  have hbxa := (Lib.alloc_old _ (.cells #[.string { data := #[32, 61, 32] }] 9) _ hlb).trans hbx
  go_at_call 84
  refine (wSayT_ok w0.heap.size X dep _ ([32, 61, 32]) [⟨#[32, 61, 32]⟩] 1 _ _ hWa rfl (WrT.lt hW_1) (heap_alloc_new _ _) rfl (by decide) (by have h := HLN.out; (try simp only [List.length_append, List.length_cons, List.length_nil, List.length_singleton] at h); (try simp only [List.length_append, List.length_cons, List.length_nil, List.length_singleton]); omega) (Nat.le_trans hB0 hKa.b.size)).mono ?_
  rintro e w_2 ⟨rfl, hW_2, hk_2⟩
  have hK_2 := hKa.trans hk_2
  have hbx := box_keep hk_2 hbxa hbX
  have hB_2 : Below w0.heap.size w0 w_2 := hBs.trans hK_2.b
  obtain ⟨c0, c1, c2, c3, c4, c5⟩ := (cells_box hbx).box
  have hlb := World.block_lt_of_cell? _ _ c0
  obtain ⟨n0_0, n0_1, n0_2, n0_3, n0_4, n0_5⟩ := hC0.later hB_2
  have hlk0 := World.block_lt_of_cell? _ _ n0_0
  obtain ⟨n1_0, n1_1, n1_2, n1_3, n1_4, n1_5⟩ := hC1.later hB_2
  have hlk1 := World.block_lt_of_cell? _ _ n1_0
  have hlX := WrT.lt hW_2
  go_wp2_with fail
  have hI := HF1.out A1 c1' K1 d1 _ _ HN1.out hB_2 hW_2 (by have h := HLN.out; (try simp only [List.length_append, List.length_cons, List.length_nil, List.length_singleton] at h); (try simp only [List.length_append, List.length_cons, List.length_nil, List.length_singleton]); omega)
  unfold ndV at hI
  go_at_call 81
  refine hI.mono ?_
  rintro e w_3 ⟨rfl, hW_3, hk_3⟩
  have hK_3 := hK_2.trans hk_3
  have hbx := box_keep hk_3 hbx hbX
  clear hI
  have hB_3 : Below w0.heap.size w0 w_3 := hBs.trans hK_3.b
  obtain ⟨c0, c1, c2, c3, c4, c5⟩ := (cells_box hbx).box
  have hlb := World.block_lt_of_cell? _ _ c0
  obtain ⟨n0_0, n0_1, n0_2, n0_3, n0_4, n0_5⟩ := hC0.later hB_3
  have hlk0 := World.block_lt_of_cell? _ _ n0_0
  obtain ⟨n1_0, n1_1, n1_2, n1_3, n1_4, n1_5⟩ := hC1.later hB_3
  have hlk1 := World.block_lt_of_cell? _ _ n1_0
  have hlX := WrT.lt hW_3
  go_wp2_with fail
  ((try simp only [Exit.inBlock, Exit.then]); first | refine bodyPost_end (results_none rfl _ _ _) rfl ?_ | refine bodyPost_ret (results_none rfl _ _ _) rfl ?_)
  exact ⟨rfl, hW_3.eq (by show _ = l0 ++ simpL T; rw [HTX.out]; try simp only [List.append_assoc, List.append_nil, List.nil_append, List.cons_append, List.singleton_append]), hK_3⟩
set_option maxHeartbeats 8000000 in
theorem ws6 (D : Nat) (w0 : World) (X dep : Nat) (hdp : dep + (D + 1) ≤ 1000000) (T : Nd) (hk : T.kind = 6) (hT : St T) (hD : T.depth ≤ D + 1) (hWt : T.weight ≤ 1000000) : FSays 88 w0 X dep simpL T := by
  intro A c K d l0 w hN hBs hW hlen
  have hdm : dep ≤ 1000000 := by omega
  have hst : ((Tx.words signsL).ev T.text && noNumB T && rowB T.kids [Sh.ev Nd.right .target, Sh.ev Nd.right .expr]) = true := by
    rw [← show _ = ((Tx.words signsL).ev T.text && noNumB T && rowB T.kids [Sh.ev Nd.right .target, Sh.ev Nd.right .expr]) from st_at hk (tx := (.words signsL)) (fm := .row [.target, .expr]) rfl (by decide) (by decide) (by decide)]
    exact hT
  have hro : rowB T.kids [Sh.ev Nd.right .target, Sh.ev Nd.right .expr] = true := (Bool.and_eq_true _ _ ▸ hst).2
  have hlen3 : T.kids.length = 2 := row_len hro
  obtain ⟨t0, t1, hks⟩ := kids_2 (l := T.kids) hlen3
  rw [hks] at hro
  simp only [rowB, Bool.and_eq_true, Bool.and_true] at hro
  obtain ⟨r0, r1⟩ := hro
  have hg0 : T.kids[0]? = some t0 := by rw [hks]; rfl
  obtain ⟨b, off, A0, c0', K0, d0, hKe0, hC0, hN0⟩ := hN.kid hg0
  have hd0 : t0.depth ≤ D ∧ t0.weight ≤ 1000000 := within_kidsM hD hWt t0 (List.mem_of_getElem? hg0)
  have hg1 : T.kids[1]? = some t1 := by rw [hks]; rfl
  obtain ⟨b1, off1, A1, c1', K1, d1, hKe1, hC1, hN1⟩ := hN.kid hg1
  have hd1 : t1.depth ≤ D ∧ t1.weight ≤ 1000000 := within_kidsM hD hWt t1 (List.mem_of_getElem? hg1)
  rw [Nat.zero_mul, Nat.add_zero] at hC0
  subst hKe0
  injection hKe1 with e1
  injection e1 with e1 e2
  subst e1 e2
  rw [show 1 * 6 = 6 from rfl] at hC1
  have HF0 := Lib.hid (wExpr_ok w0 X dep D t0 (ev_tgt r0) hd0.1 hd0.2)
  have HN0 := Lib.hid hN0
  have i0 : (0 : Int) < (T.kids.length : Int) := by omega
  have i0' : 0 < T.kids.length := by omega
  have HF1 := Lib.hid (wExpr_ok w0 X dep D t1 (ev_ex r1) hd1.1 hd1.2)
  have HN1 := Lib.hid hN1
  have i1 : (1 : Int) < (T.kids.length : Int) := by omega
  have i1' : 1 < T.kids.length := by omega
  have hlen : l0.length + (simpL T).length ≤ 1000000000000 := hlen
  have hts : simpL T = t0.txt ++ [32] ++ tx T ++ [61, 32] ++ t1.txt := by simp [simpL, hk, hks, kd]
  rw [hts] at hlen
  have HTX := Lib.hid hts
  have HLN := Lib.hid hlen
  have z3 : (T.kind == 3) = false := by rw [hk]; rfl
  have z4 : (T.kind == 4) = false := by rw [hk]; rfl
  have z5 : (T.kind == 5) = false := by rw [hk]; rfl
  have z6 : (T.kind == 6) = true := by rw [hk]; rfl
  have z7 : (T.kind == 7) = false := by rw [hk]; rfl
  have z8 : (T.kind == 8) = false := by rw [hk]; rfl
  have z9 : (T.kind == 9) = false := by rw [hk]; rfl
  have z10 : (T.kind == 10) = false := by rw [hk]; rfl
  have z11 : (T.kind == 11) = false := by rw [hk]; rfl
  have z12 : (T.kind == 12) = false := by rw [hk]; rfl
  have z13 : (T.kind == 13) = false := by rw [hk]; rfl
  have z14 : (T.kind == 14) = false := by rw [hk]; rfl
  obtain ⟨hm1, hm2, hrm, hw32, hk1, hk2, hk64, ha64, hts', hKs⟩ := hN.parts
  have hk2' := hk2
  unfold maxLen at hm2 hk2 hts'
  obtain ⟨hk64a, hk64b⟩ := hk64
  obtain ⟨ha64a, ha64b⟩ := ha64
  have hB0 : w0.heap.size ≤ w.heap.size := hBs.size
  have hbX : X < w.heap.size := WrT.lt hW
  have hK0 : WK w0.heap.size X w (w.alloc (.cells #[.int .i64 T.kind, .int .i64 T.pos, .string T.text, .bool T.neg, .slice A T.mag.length c, .slice (some ⟨b, off, none⟩) T.kids.length d] 27)) := (WK.refl _ _ _).alloc hB0 _
  have hWb := hW.alloc (.cells #[.int .i64 T.kind, .int .i64 T.pos, .string T.text, .bool T.neg, .slice A T.mag.length c, .slice (some ⟨b, off, none⟩) T.kids.length d] 27)
  have hBb : Below w0.heap.size w0 (w.alloc (.cells #[.int .i64 T.kind, .int .i64 T.pos, .string T.text, .bool T.neg, .slice A T.mag.length c, .slice (some ⟨b, off, none⟩) T.kids.length d] 27)) := hBs.trans hK0.b
  have hbx := heap_alloc_new w (.cells #[.int .i64 T.kind, .int .i64 T.pos, .string T.text, .bool T.neg, .slice A T.mag.length c, .slice (some ⟨b, off, none⟩) T.kids.length d] 27)
  have hsg : (w.alloc (.cells #[.int .i64 T.kind, .int .i64 T.pos, .string T.text, .bool T.neg, .slice A T.mag.length c, .slice (some ⟨b, off, none⟩) T.kids.length d] 27)).heap.size = w.heap.size + 1 := by simp
  clear hKs hN hlen hT hD hWt hrm hw32 hk hts hst hlen3 hks hg0 hN0 hd0 r0 hg1 hN1 hd1 r1
  obtain ⟨c0, c1, c2, c3, c4, c5⟩ := (cells_box hbx).box
  have hlb := World.block_lt_of_cell? _ _ c0
  obtain ⟨n0_0, n0_1, n0_2, n0_3, n0_4, n0_5⟩ := hC0.later hBb
  have hlk0 := World.block_lt_of_cell? _ _ n0_0
  obtain ⟨n1_0, n1_1, n1_2, n1_3, n1_4, n1_5⟩ := hC1.later hBb
  have hlk1 := World.block_lt_of_cell? _ _ n1_0
  have hlX := WrT.lt hWb
  unfold ndV
  go_enter Tryz.func88, Tryz.ntmps88
  go_wp2_with fail
  have hI := HF0.out A0 c0' K0 d0 _ _ HN0.out hBb hWb (by have h := HLN.out; (try simp only [List.length_append, List.length_cons, List.length_nil, List.length_singleton] at h); (try simp only [List.length_append, List.length_cons, List.length_nil, List.length_singleton]); omega)
  unfold ndV at hI
  go_at_call 81
  refine hI.mono ?_
  rintro e w_1 ⟨rfl, hW_1, hk_1⟩
  have hK_1 := hK0.trans hk_1
  have hbx := box_keep hk_1 hbx hbX
  clear hI
  have hB_1 : Below w0.heap.size w0 w_1 := hBs.trans hK_1.b
  obtain ⟨c0, c1, c2, c3, c4, c5⟩ := (cells_box hbx).box
  have hlb := World.block_lt_of_cell? _ _ c0
  obtain ⟨n0_0, n0_1, n0_2, n0_3, n0_4, n0_5⟩ := hC0.later hB_1
  have hlk0 := World.block_lt_of_cell? _ _ n0_0
  obtain ⟨n1_0, n1_1, n1_2, n1_3, n1_4, n1_5⟩ := hC1.later hB_1
  have hlk1 := World.block_lt_of_cell? _ _ n1_0
  have hlX := WrT.lt hW_1
  go_wp2_with fail
  have hWa := hW_1.alloc (.cells #[.string { data := #[32] }, .string (T.text), .string { data := #[61, 32] }] 9)
  have hKa := hK_1.alloc (Nat.le_trans hB0 hK_1.b.size) (.cells #[.string { data := #[32] }, .string (T.text), .string { data := #[61, 32] }] 9)
  have hbxa := (Lib.alloc_old _ (.cells #[.string { data := #[32] }, .string (T.text), .string { data := #[61, 32] }] 9) _ hlb).trans hbx
  go_at_call 84
  refine (wSayT_ok w0.heap.size X dep _ ([32] ++ tx T ++ [61, 32]) [⟨#[32]⟩, T.text, ⟨#[61, 32]⟩] 3 _ _ hWa rfl (WrT.lt hW_1) (heap_alloc_new _ _) (by simp [tx]) (by decide) (by have h := HLN.out; (try simp only [List.length_append, List.length_cons, List.length_nil, List.length_singleton] at h); (try simp only [List.length_append, List.length_cons, List.length_nil, List.length_singleton]); omega) (Nat.le_trans hB0 hKa.b.size)).mono ?_
  rintro e w_2 ⟨rfl, hW_2, hk_2⟩
  have hK_2 := hKa.trans hk_2
  have hbx := box_keep hk_2 hbxa hbX
  have hB_2 : Below w0.heap.size w0 w_2 := hBs.trans hK_2.b
  obtain ⟨c0, c1, c2, c3, c4, c5⟩ := (cells_box hbx).box
  have hlb := World.block_lt_of_cell? _ _ c0
  obtain ⟨n0_0, n0_1, n0_2, n0_3, n0_4, n0_5⟩ := hC0.later hB_2
  have hlk0 := World.block_lt_of_cell? _ _ n0_0
  obtain ⟨n1_0, n1_1, n1_2, n1_3, n1_4, n1_5⟩ := hC1.later hB_2
  have hlk1 := World.block_lt_of_cell? _ _ n1_0
  have hlX := WrT.lt hW_2
  go_wp2_with fail
  have hI := HF1.out A1 c1' K1 d1 _ _ HN1.out hB_2 hW_2 (by have h := HLN.out; (try simp only [List.length_append, List.length_cons, List.length_nil, List.length_singleton] at h); (try simp only [List.length_append, List.length_cons, List.length_nil, List.length_singleton]); omega)
  unfold ndV at hI
  go_at_call 81
  refine hI.mono ?_
  rintro e w_3 ⟨rfl, hW_3, hk_3⟩
  have hK_3 := hK_2.trans hk_3
  have hbx := box_keep hk_3 hbx hbX
  clear hI
  have hB_3 : Below w0.heap.size w0 w_3 := hBs.trans hK_3.b
  obtain ⟨c0, c1, c2, c3, c4, c5⟩ := (cells_box hbx).box
  have hlb := World.block_lt_of_cell? _ _ c0
  obtain ⟨n0_0, n0_1, n0_2, n0_3, n0_4, n0_5⟩ := hC0.later hB_3
  have hlk0 := World.block_lt_of_cell? _ _ n0_0
  obtain ⟨n1_0, n1_1, n1_2, n1_3, n1_4, n1_5⟩ := hC1.later hB_3
  have hlk1 := World.block_lt_of_cell? _ _ n1_0
  have hlX := WrT.lt hW_3
  go_wp2_with fail
  ((try simp only [Exit.inBlock, Exit.then]); first | refine bodyPost_end (results_none rfl _ _ _) rfl ?_ | refine bodyPost_ret (results_none rfl _ _ _) rfl ?_)
  exact ⟨rfl, hW_3.eq (by show _ = l0 ++ simpL T; rw [HTX.out]; try simp only [List.append_assoc, List.append_nil, List.nil_append, List.cons_append, List.singleton_append]), hK_3⟩
end
end Go.Proofs.YtjefhdlncikhmaaGreatDoor
