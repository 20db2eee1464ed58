/- Joined by a program: Wr6d. -/
import Derived.WalkKit
import Derived.Test.YtjefhdlncikhmaaGreatDoorShelf
import Derived.Test.YtjefhdlncikhmaaGreatDoorPB14
namespace Go.Proofs.YtjefhdlncikhmaaGreatDoor
section
set_option linter.unusedVariables false
set_option linter.unusedSimpArgs false
open Go.RowKit
set_option maxRecDepth 1000000
set_option maxHeartbeats 8000000 in
theorem wl17 (D : Nat) (w0 : World) (X dep : Nat) (hdp : dep + (D + 1) ≤ 1000000) (hL : LOk D w0 X) (T : Nd) (hk : T.kind = 17) (hT : St T) (hD : T.depth ≤ D + 1) (hWt : T.weight ≤ 1000000) : FSays 47 w0 X dep (fun t => t.lin dep) T := by
  intro A c K d l0 w hN hBs hW hlen
  have hdm : dep ≤ 1000000 := by omega
  have hst : (Tx.non.ev T.text && noNumB T && rowB T.kids [Sh.ev Nd.right .targets, Sh.ev Nd.right .expr, Sh.ev Nd.right .block]) = true := by
    rw [← show _ = (Tx.non.ev T.text && noNumB T && rowB T.kids [Sh.ev Nd.right .targets, Sh.ev Nd.right .expr, Sh.ev Nd.right .block]) from st_at hk (tx := .non) (fm := .row [.targets, .expr, .block]) rfl (by decide) (by decide) (by decide)]
    exact hT
  have hro : rowB T.kids [Sh.ev Nd.right .targets, Sh.ev Nd.right .expr, Sh.ev Nd.right .block] = true := (Bool.and_eq_true _ _ ▸ hst).2
  have hlen3 : T.kids.length = 3 := row_len hro
  obtain ⟨t0, t1, t2, hks⟩ := kids_3 (l := T.kids) hlen3
  rw [hks] at hro
  simp only [rowB, Bool.and_eq_true, Bool.and_true] at hro
  obtain ⟨r0, r1, r2⟩ := hro
  have hg0 : T.kids[0]? = some t0 := by rw [hks]; rfl
  obtain ⟨b, off, A0, c0', K0, d0, hKe0, hC0, hN0⟩ := hN.kid hg0
  have hd0 : t0.depth ≤ D ∧ t0.weight ≤ 1000000 := within_kidsM hD hWt t0 (List.mem_of_getElem? hg0)
  have hg1 : T.kids[1]? = some t1 := by rw [hks]; rfl
  obtain ⟨b1, off1, A1, c1', K1, d1, hKe1, hC1, hN1⟩ := hN.kid hg1
  have hd1 : t1.depth ≤ D ∧ t1.weight ≤ 1000000 := within_kidsM hD hWt t1 (List.mem_of_getElem? hg1)
  have hg2 : T.kids[2]? = some t2 := by rw [hks]; rfl
  obtain ⟨b2, off2, A2, c2', K2, d2, hKe2, hC2, hN2⟩ := hN.kid hg2
  have hd2 : t2.depth ≤ D ∧ t2.weight ≤ 1000000 := within_kidsM hD hWt t2 (List.mem_of_getElem? hg2)
  rw [Nat.zero_mul, Nat.add_zero] at hC0
  subst hKe0
  injection hKe1 with e1
  injection e1 with e1 e2
  subst e1 e2
  rw [show 1 * 6 = 6 from rfl] at hC1
  injection hKe2 with e1
  injection e1 with e1 e2
  subst e1 e2
  rw [show 2 * 6 = 12 from rfl] at hC2
  have HF0 := Lib.hid (wTargets_ok D w0 X dep (wExpr_ok w0 X dep D) t0 (ev_tgts r0) hd0.1 hd0.2)
  have HN0 := Lib.hid hN0
  have i0 : (0 : Int) < (T.kids.length : Int) := by omega
  have i0' : 0 < T.kids.length := by omega
  have HF1 := Lib.hid (wExpr_ok w0 X dep D t1 (ev_ex r1) hd1.1 hd1.2)
  have HN1 := Lib.hid hN1
  have i1 : (1 : Int) < (T.kids.length : Int) := by omega
  have i1' : 1 < T.kids.length := by omega
  have HF2 := Lib.hid (wInner_ok D w0 X dep (by omega) hL t2 (blk_of r2) (by omega) hd2.2)
  have HN2 := Lib.hid hN2
  have i2 : (2 : Int) < (T.kids.length : Int) := by omega
  have i2' : 2 < T.kids.length := by omega
  have hlen : l0.length + (T.lin dep).length ≤ 1000000000000 := hlen
  have hts : T.lin dep = padL dep ++ [102, 111, 114, 32] ++ t0.txt ++ [32, 105, 110, 32] ++ t1.txt ++ [58, 10] ++ t2.lin (dep + 1) := by rw [lin_eq]; simp [linOf, hk, hks, kd, gy]
  rw [hts] at hlen
  have HTX := Lib.hid hts
  have HLN := Lib.hid hlen
  have z15 : (T.kind == 15) = false := by rw [hk]; rfl
  have z16 : (T.kind == 16) = false := by rw [hk]; rfl
  have z17 : (T.kind == 17) = true := by rw [hk]; rfl
  have z18 : (T.kind == 18) = false := by rw [hk]; rfl
  have z20 : (T.kind == 20) = false := by rw [hk]; rfl
  have z21 : (T.kind == 21) = false := by rw [hk]; rfl
  obtain ⟨hm1, hm2, hrm, hw32, hk1, hk2, hk64, ha64, hts', hKs⟩ := hN.parts
  have hk2' := hk2
  unfold maxLen at hm2 hk2 hts'
  obtain ⟨hk64a, hk64b⟩ := hk64
  obtain ⟨ha64a, ha64b⟩ := ha64
  have hB0 : w0.heap.size ≤ w.heap.size := hBs.size
  have hbX : X < w.heap.size := WrT.lt hW
  have hK0 : WK w0.heap.size X w (w.alloc (.cells #[.int .i64 T.kind, .int .i64 T.pos, .string T.text, .bool T.neg, .slice A T.mag.length c, .slice (some ⟨b, off, none⟩) T.kids.length d] 27)) := (WK.refl _ _ _).alloc hB0 _
  have hWb := hW.alloc (.cells #[.int .i64 T.kind, .int .i64 T.pos, .string T.text, .bool T.neg, .slice A T.mag.length c, .slice (some ⟨b, off, none⟩) T.kids.length d] 27)
  have hBb : Below w0.heap.size w0 (w.alloc (.cells #[.int .i64 T.kind, .int .i64 T.pos, .string T.text, .bool T.neg, .slice A T.mag.length c, .slice (some ⟨b, off, none⟩) T.kids.length d] 27)) := hBs.trans hK0.b
  have hbx := heap_alloc_new w (.cells #[.int .i64 T.kind, .int .i64 T.pos, .string T.text, .bool T.neg, .slice A T.mag.length c, .slice (some ⟨b, off, none⟩) T.kids.length d] 27)
  have hsg : (w.alloc (.cells #[.int .i64 T.kind, .int .i64 T.pos, .string T.text, .bool T.neg, .slice A T.mag.length c, .slice (some ⟨b, off, none⟩) T.kids.length d] 27)).heap.size = w.heap.size + 1 := by simp
  clear hKs hN hlen hT hD hWt hrm hw32 hk hts hst hlen3 hks hg0 hN0 hd0 r0 hg1 hN1 hd1 r1 hg2 hN2 hd2 r2 hL
  obtain ⟨c0, c1, c2, c3, c4, c5⟩ := (cells_box hbx).box
  have hlb := World.block_lt_of_cell? _ _ c0
  obtain ⟨n0_0, n0_1, n0_2, n0_3, n0_4, n0_5⟩ := hC0.later hBb
  have hlk0 := World.block_lt_of_cell? _ _ n0_0
  obtain ⟨n1_0, n1_1, n1_2, n1_3, n1_4, n1_5⟩ := hC1.later hBb
  have hlk1 := World.block_lt_of_cell? _ _ n1_0
  obtain ⟨n2_0, n2_1, n2_2, n2_3, n2_4, n2_5⟩ := hC2.later hBb
  have hlk2 := World.block_lt_of_cell? _ _ n2_0
  have hlX := WrT.lt hWb
  unfold ndV
  go_enter Tryz.func47, Tryz.ntmps47
  go_wp2_with fail
  have hWa := hWb.alloc (.cells #[.string { data := #[102, 111, 114, 32] }] 9)
  have hKa := hK0.alloc (Nat.le_trans hB0 hK0.b.size) (.cells #[.string { data := #[102, 111, 114, 32] }] 9)
  have hbxa := (Lib.alloc_old _ (.cells #[.string { data := #[102, 111, 114, 32] }] 9) _ hlb).trans hbx
  have hlta : X < w.heap.size + 1 := (by have := WrT.lt hWb; rw [hsg] at this; exact this)
  go_at_call 80
  refine (wHead_ok w0.heap.size X dep _ ([102, 111, 114, 32]) [⟨#[102, 111, 114, 32]⟩] 1 _ _ hWa rfl (.inr ⟨w.heap.size + 1, rfl, by omega, (by rw [← hsg]; exact heap_alloc_new _ _)⟩) rfl (by decide) hdm (by have h := HLN.out; have hpl := padL_len dep; (try simp only [List.length_append, List.length_cons, List.length_nil, List.length_singleton] at h); (try simp only [List.length_append, List.length_cons, List.length_nil, List.length_singleton]); omega) (Nat.le_trans hB0 hKa.b.size)).mono ?_
  rintro e w_1 ⟨rfl, hW_1, hk_1⟩
  have hK_1 := hKa.trans hk_1
  have hbx := box_keep hk_1 hbxa hbX
  have hB_1 : Below w0.heap.size w0 w_1 := hBs.trans hK_1.b
  obtain ⟨c0, c1, c2, c3, c4, c5⟩ := (cells_box hbx).box
  have hlb := World.block_lt_of_cell? _ _ c0
  obtain ⟨n0_0, n0_1, n0_2, n0_3, n0_4, n0_5⟩ := hC0.later hB_1
  have hlk0 := World.block_lt_of_cell? _ _ n0_0
  obtain ⟨n1_0, n1_1, n1_2, n1_3, n1_4, n1_5⟩ := hC1.later hB_1
  have hlk1 := World.block_lt_of_cell? _ _ n1_0
  obtain ⟨n2_0, n2_1, n2_2, n2_3, n2_4, n2_5⟩ := hC2.later hB_1
  have hlk2 := World.block_lt_of_cell? _ _ n2_0
  have hlX := WrT.lt hW_1
  go_wp2_with fail
  have hI := HF0.out A0 c0' K0 d0 _ _ HN0.out hB_1 hW_1 (by have h := HLN.out; (try simp only [List.length_append, List.length_cons, List.length_nil, List.length_singleton] at h); (try simp only [List.length_append, List.length_cons, List.length_nil, List.length_singleton]); omega)
  unfold ndV at hI
  go_at_call 83
  refine hI.mono ?_
  rintro e w_2 ⟨rfl, hW_2, hk_2⟩
  have hK_2 := hK_1.trans hk_2
  have hbx := box_keep hk_2 hbx hbX
  clear hI
  have hB_2 : Below w0.heap.size w0 w_2 := hBs.trans hK_2.b
  obtain ⟨c0, c1, c2, c3, c4, c5⟩ := (cells_box hbx).box
  have hlb := World.block_lt_of_cell? _ _ c0
  obtain ⟨n0_0, n0_1, n0_2, n0_3, n0_4, n0_5⟩ := hC0.later hB_2
  have hlk0 := World.block_lt_of_cell? _ _ n0_0
  obtain ⟨n1_0, n1_1, n1_2, n1_3, n1_4, n1_5⟩ := hC1.later hB_2
  have hlk1 := World.block_lt_of_cell? _ _ n1_0
  obtain ⟨n2_0, n2_1, n2_2, n2_3, n2_4, n2_5⟩ := hC2.later hB_2
  have hlk2 := World.block_lt_of_cell? _ _ n2_0
  have hlX := WrT.lt hW_2
  go_wp2_with fail
  have hWa := hW_2.alloc (.cells #[.string { data := #[32, 105, 110, 32] }] 9)
  have hKa := hK_2.alloc (Nat.le_trans hB0 hK_2.b.size) (.cells #[.string { data := #[32, 105, 110, 32] }] 9)
  have hbxa := (Lib.alloc_old _ (.cells #[.string { data := #[32, 105, 110, 32] }] 9) _ hlb).trans hbx
  go_at_call 84
  refine (wSayT_ok w0.heap.size X dep _ ([32, 105, 110, 32]) [⟨#[32, 105, 110, 32]⟩] 1 _ _ hWa rfl (WrT.lt hW_2) (heap_alloc_new _ _) rfl (by decide) (by have h := HLN.out; (try simp only [List.length_append, List.length_cons, List.length_nil, List.length_singleton] at h); (try simp only [List.length_append, List.length_cons, List.length_nil, List.length_singleton]); omega) (Nat.le_trans hB0 hKa.b.size)).mono ?_
  rintro e w_3 ⟨rfl, hW_3, hk_3⟩
  have hK_3 := hKa.trans hk_3
  have hbx := box_keep hk_3 hbxa hbX
  have hB_3 : Below w0.heap.size w0 w_3 := hBs.trans hK_3.b
  obtain ⟨c0, c1, c2, c3, c4, c5⟩ := (cells_box hbx).box
  have hlb := World.block_lt_of_cell? _ _ c0
  obtain ⟨n0_0, n0_1, n0_2, n0_3, n0_4, n0_5⟩ := hC0.later hB_3
  have hlk0 := World.block_lt_of_cell? _ _ n0_0
  obtain ⟨n1_0, n1_1, n1_2, n1_3, n1_4, n1_5⟩ := hC1.later hB_3
  have hlk1 := World.block_lt_of_cell? _ _ n1_0
  obtain ⟨n2_0, n2_1, n2_2, n2_3, n2_4, n2_5⟩ := hC2.later hB_3
  have hlk2 := World.block_lt_of_cell? _ _ n2_0
  have hlX := WrT.lt hW_3
  go_wp2_with fail
  have hI := HF1.out A1 c1' K1 d1 _ _ HN1.out hB_3 hW_3 (by have h := HLN.out; (try simp only [List.length_append, List.length_cons, List.length_nil, List.length_singleton] at h); (try simp only [List.length_append, List.length_cons, List.length_nil, List.length_singleton]); omega)
  unfold ndV at hI
  go_at_call 81
  refine hI.mono ?_
  rintro e w_4 ⟨rfl, hW_4, hk_4⟩
  have hK_4 := hK_3.trans hk_4
  have hbx := box_keep hk_4 hbx hbX
  clear hI
  have hB_4 : Below w0.heap.size w0 w_4 := hBs.trans hK_4.b
  obtain ⟨c0, c1, c2, c3, c4, c5⟩ := (cells_box hbx).box
  have hlb := World.block_lt_of_cell? _ _ c0
  obtain ⟨n0_0, n0_1, n0_2, n0_3, n0_4, n0_5⟩ := hC0.later hB_4
  have hlk0 := World.block_lt_of_cell? _ _ n0_0
  obtain ⟨n1_0, n1_1, n1_2, n1_3, n1_4, n1_5⟩ := hC1.later hB_4
  have hlk1 := World.block_lt_of_cell? _ _ n1_0
  obtain ⟨n2_0, n2_1, n2_2, n2_3, n2_4, n2_5⟩ := hC2.later hB_4
  have hlk2 := World.block_lt_of_cell? _ _ n2_0
  have hlX := WrT.lt hW_4
  go_wp2_with fail
  have hI := HF2.out A2 c2' K2 d2 _ _ HN2.out hB_4 hW_4 (by have h := HLN.out; (try simp only [List.length_append, List.length_cons, List.length_nil, List.length_singleton] at h); (try simp only [List.length_append, List.length_cons, List.length_nil, List.length_singleton]); omega)
  unfold ndV at hI
  go_at_call 82
  refine hI.mono ?_
  rintro e w_5 ⟨rfl, hW_5, hk_5⟩
  have hK_5 := hK_4.trans hk_5
  have hbx := box_keep hk_5 hbx hbX
  clear hI
  have hB_5 : Below w0.heap.size w0 w_5 := hBs.trans hK_5.b
  obtain ⟨c0, c1, c2, c3, c4, c5⟩ := (cells_box hbx).box
  have hlb := World.block_lt_of_cell? _ _ c0
  obtain ⟨n0_0, n0_1, n0_2, n0_3, n0_4, n0_5⟩ := hC0.later hB_5
  have hlk0 := World.block_lt_of_cell? _ _ n0_0
  obtain ⟨n1_0, n1_1, n1_2, n1_3, n1_4, n1_5⟩ := hC1.later hB_5
  have hlk1 := World.block_lt_of_cell? _ _ n1_0
  obtain ⟨n2_0, n2_1, n2_2, n2_3, n2_4, n2_5⟩ := hC2.later hB_5
  have hlk2 := World.block_lt_of_cell? _ _ n2_0
  have hlX := WrT.lt hW_5
  go_wp2_with fail
  ((try simp only [Exit.inBlock, Exit.then]); first | refine bodyPost_end (results_none rfl _ _ _) rfl ?_ | refine bodyPost_ret (results_none rfl _ _ _) rfl ?_)
  exact ⟨rfl, hW_5.eq (by show _ = l0 ++ T.lin dep; rw [HTX.out]; try simp only [List.append_assoc, List.append_nil, List.nil_append, List.cons_append, List.singleton_append]), hK_5⟩
set_option maxHeartbeats 8000000 in
theorem wl20z (D : Nat) (w0 : World) (X dep : Nat) (hdp : dep + (D + 1) ≤ 1000000) (hL : LOk D w0 X) (T : Nd) (hk : T.kind = 20) (hT : St T) (hv : ∀ t, T.kids[0]? = some t → t.kind = 0) (hD : T.depth ≤ D + 1) (hWt : T.weight ≤ 1000000) : FSays 47 w0 X dep (fun t => t.lin dep) T := by
  intro A c K d l0 w hN hBs hW hlen
  have hdm : dep ≤ 1000000 := by omega
  have hst : (Tx.name.ev T.text && noNumB T && rowB T.kids [Sh.ev Nd.right (.or2 .none .expr), Sh.ev Nd.right .block]) = true := by
    rw [← show _ = (Tx.name.ev T.text && noNumB T && rowB T.kids [Sh.ev Nd.right (.or2 .none .expr), Sh.ev Nd.right .block]) from st_at hk (tx := .name) (fm := .row [(.or2 .none .expr), .block]) rfl (by decide) (by decide) (by decide)]
    exact hT
  have hro : rowB T.kids [Sh.ev Nd.right (.or2 .none .expr), Sh.ev Nd.right .block] = true := (Bool.and_eq_true _ _ ▸ hst).2
  have hlen3 : T.kids.length = 2 := row_len hro
  obtain ⟨t0, t1, hks⟩ := kids_2 (l := T.kids) hlen3
  rw [hks] at hro
  simp only [rowB, Bool.and_eq_true, Bool.and_true] at hro
  obtain ⟨r0, r1⟩ := hro
  have hg0 : T.kids[0]? = some t0 := by rw [hks]; rfl
  obtain ⟨b, off, A0, c0', K0, d0, hKe0, hC0, hN0⟩ := hN.kid hg0
  have hd0 : t0.depth ≤ D ∧ t0.weight ≤ 1000000 := within_kidsM hD hWt t0 (List.mem_of_getElem? hg0)
  have hg1 : T.kids[1]? = some t1 := by rw [hks]; rfl
  obtain ⟨b1, off1, A1, c1', K1, d1, hKe1, hC1, hN1⟩ := hN.kid hg1
  have hd1 : t1.depth ≤ D ∧ t1.weight ≤ 1000000 := within_kidsM hD hWt t1 (List.mem_of_getElem? hg1)
  rw [Nat.zero_mul, Nat.add_zero] at hC0
  subst hKe0
  injection hKe1 with e1
  injection e1 with e1 e2
  subst e1 e2
  rw [show 1 * 6 = 6 from rfl] at hC1
  have hm0 := mb_of r0
  have HN0 := Lib.hid hN0
  have i0 : (0 : Int) < (T.kids.length : Int) := by omega
  have i0' : 0 < T.kids.length := by omega
  have HF1 := Lib.hid (wInner_ok D w0 X dep (by omega) hL t1 (blk_of r1) (by omega) hd1.2)
  have HN1 := Lib.hid hN1
  have i1 : (1 : Int) < (T.kids.length : Int) := by omega
  have i1' : 1 < T.kids.length := by omega
  have hv2 := hv t0 hg0
  have q2 : (t0.kind != 0) = false := by simp [hv2]
  have hlen : l0.length + (T.lin dep).length ≤ 1000000000000 := hlen
  have hts : T.lin dep = padL dep ++ [99, 108, 97, 115, 115, 32] ++ tx T ++ [58, 10] ++ t1.lin (dep + 1) := by rw [lin_eq]; simp [linOf, hk, hks, kd, gy, hv2]
  rw [hts] at hlen
  have HTX := Lib.hid hts
  have HLN := Lib.hid hlen
  have z15 : (T.kind == 15) = false := by rw [hk]; rfl
  have z16 : (T.kind == 16) = false := by rw [hk]; rfl
  have z17 : (T.kind == 17) = false := by rw [hk]; rfl
  have z18 : (T.kind == 18) = false := by rw [hk]; rfl
  have z20 : (T.kind == 20) = true := by rw [hk]; rfl
  have z21 : (T.kind == 21) = false := by rw [hk]; rfl
  obtain ⟨hm1, hm2, hrm, hw32, hk1, hk2, hk64, ha64, hts', hKs⟩ := hN.parts
  have hk2' := hk2
  unfold maxLen at hm2 hk2 hts'
  obtain ⟨hk64a, hk64b⟩ := hk64
  obtain ⟨ha64a, ha64b⟩ := ha64
  have hB0 : w0.heap.size ≤ w.heap.size := hBs.size
  have hbX : X < w.heap.size := WrT.lt hW
  have hK0 : WK w0.heap.size X w (w.alloc (.cells #[.int .i64 T.kind, .int .i64 T.pos, .string T.text, .bool T.neg, .slice A T.mag.length c, .slice (some ⟨b, off, none⟩) T.kids.length d] 27)) := (WK.refl _ _ _).alloc hB0 _
  have hWb := hW.alloc (.cells #[.int .i64 T.kind, .int .i64 T.pos, .string T.text, .bool T.neg, .slice A T.mag.length c, .slice (some ⟨b, off, none⟩) T.kids.length d] 27)
  have hBb : Below w0.heap.size w0 (w.alloc (.cells #[.int .i64 T.kind, .int .i64 T.pos, .string T.text, .bool T.neg, .slice A T.mag.length c, .slice (some ⟨b, off, none⟩) T.kids.length d] 27)) := hBs.trans hK0.b
  have hbx := heap_alloc_new w (.cells #[.int .i64 T.kind, .int .i64 T.pos, .string T.text, .bool T.neg, .slice A T.mag.length c, .slice (some ⟨b, off, none⟩) T.kids.length d] 27)
  have hsg : (w.alloc (.cells #[.int .i64 T.kind, .int .i64 T.pos, .string T.text, .bool T.neg, .slice A T.mag.length c, .slice (some ⟨b, off, none⟩) T.kids.length d] 27)).heap.size = w.heap.size + 1 := by simp
  clear hKs hN hlen hT hD hWt hrm hw32 hk hts hst hlen3 hks hg0 hN0 hd0 r0 hg1 hN1 hd1 r1 hv hv2 hm0 hL
  obtain ⟨c0, c1, c2, c3, c4, c5⟩ := (cells_box hbx).box
  have hlb := World.block_lt_of_cell? _ _ c0
  obtain ⟨n0_0, n0_1, n0_2, n0_3, n0_4, n0_5⟩ := hC0.later hBb
  have hlk0 := World.block_lt_of_cell? _ _ n0_0
  obtain ⟨n1_0, n1_1, n1_2, n1_3, n1_4, n1_5⟩ := hC1.later hBb
  have hlk1 := World.block_lt_of_cell? _ _ n1_0
  have hlX := WrT.lt hWb
  unfold ndV
  go_enter Tryz.func47, Tryz.ntmps47
  go_wp2_with fail
  have hWa := hWb.alloc (.cells #[.string { data := #[99, 108, 97, 115, 115, 32] }, .string T.text] 9)
  have hKa := hK0.alloc (Nat.le_trans hB0 hK0.b.size) (.cells #[.string { data := #[99, 108, 97, 115, 115, 32] }, .string T.text] 9)
  have hbxa := (Lib.alloc_old _ (.cells #[.string { data := #[99, 108, 97, 115, 115, 32] }, .string T.text] 9) _ hlb).trans hbx
  have hlta : X < w.heap.size + 1 := (by have := WrT.lt hWb; rw [hsg] at this; exact this)
  go_at_call 80
  refine (wHead_ok w0.heap.size X dep _ ([99, 108, 97, 115, 115, 32] ++ tx T) [⟨#[99, 108, 97, 115, 115, 32]⟩, T.text] 2 _ _ hWa rfl (.inr ⟨w.heap.size + 1, rfl, by omega, (by rw [← hsg]; exact heap_alloc_new _ _)⟩) (by simp [tx]) (by decide) hdm (by have h := HLN.out; have hpl := padL_len dep; (try simp only [List.length_append, List.length_cons, List.length_nil, List.length_singleton] at h); (try simp only [List.length_append, List.length_cons, List.length_nil, List.length_singleton]); omega) (Nat.le_trans hB0 hKa.b.size)).mono ?_
  rintro e w_1 ⟨rfl, hW_1, hk_1⟩
  have hK_1 := hKa.trans hk_1
  have hbx := box_keep hk_1 hbxa hbX
  have hB_1 : Below w0.heap.size w0 w_1 := hBs.trans hK_1.b
  obtain ⟨c0, c1, c2, c3, c4, c5⟩ := (cells_box hbx).box
  have hlb := World.block_lt_of_cell? _ _ c0
  obtain ⟨n0_0, n0_1, n0_2, n0_3, n0_4, n0_5⟩ := hC0.later hB_1
  have hlk0 := World.block_lt_of_cell? _ _ n0_0
  obtain ⟨n1_0, n1_1, n1_2, n1_3, n1_4, n1_5⟩ := hC1.later hB_1
  have hlk1 := World.block_lt_of_cell? _ _ n1_0
  have hlX := WrT.lt hW_1
  go_wp2_with fail
  have hI := HF1.out A1 c1' K1 d1 _ _ HN1.out hB_1 hW_1 (by have h := HLN.out; (try simp only [List.length_append, List.length_cons, List.length_nil, List.length_singleton] at h); (try simp only [List.length_append, List.length_cons, List.length_nil, List.length_singleton]); omega)
  unfold ndV at hI
  go_at_call 82
  refine hI.mono ?_
  rintro e w_2 ⟨rfl, hW_2, hk_2⟩
  have hK_2 := hK_1.trans hk_2
  have hbx := box_keep hk_2 hbx hbX
  clear hI
  have hB_2 : Below w0.heap.size w0 w_2 := hBs.trans hK_2.b
  obtain ⟨c0, c1, c2, c3, c4, c5⟩ := (cells_box hbx).box
  have hlb := World.block_lt_of_cell? _ _ c0
  obtain ⟨n0_0, n0_1, n0_2, n0_3, n0_4, n0_5⟩ := hC0.later hB_2
  have hlk0 := World.block_lt_of_cell? _ _ n0_0
  obtain ⟨n1_0, n1_1, n1_2, n1_3, n1_4, n1_5⟩ := hC1.later hB_2
  have hlk1 := World.block_lt_of_cell? _ _ n1_0
  have hlX := WrT.lt hW_2
  go_wp2_with fail
  ((try simp only [Exit.inBlock, Exit.then]); first | refine bodyPost_end (results_none rfl _ _ _) rfl ?_ | refine bodyPost_ret (results_none rfl _ _ _) rfl ?_)
  exact ⟨rfl, hW_2.eq (by show _ = l0 ++ T.lin dep; rw [HTX.out]; try simp only [List.append_assoc, List.append_nil, List.nil_append, List.cons_append, List.singleton_append]), hK_2⟩
set_option maxHeartbeats 8000000 in
theorem wl20e (D : Nat) (w0 : World) (X dep : Nat) (hdp : dep + (D + 1) ≤ 1000000) (hL : LOk D w0 X) (T : Nd) (hk : T.kind = 20) (hT : St T) (hv : ∀ t, T.kids[0]? = some t → ¬ t.kind = 0) (hD : T.depth ≤ D + 1) (hWt : T.weight ≤ 1000000) : FSays 47 w0 X dep (fun t => t.lin dep) T := by
  intro A c K d l0 w hN hBs hW hlen
  have hdm : dep ≤ 1000000 := by omega
  have hst : (Tx.name.ev T.text && noNumB T && rowB T.kids [Sh.ev Nd.right (.or2 .none .expr), Sh.ev Nd.right .block]) = true := by
    rw [← show _ = (Tx.name.ev T.text && noNumB T && rowB T.kids [Sh.ev Nd.right (.or2 .none .expr), Sh.ev Nd.right .block]) from st_at hk (tx := .name) (fm := .row [(.or2 .none .expr), .block]) rfl (by decide) (by decide) (by decide)]
    exact hT
  have hro : rowB T.kids [Sh.ev Nd.right (.or2 .none .expr), Sh.ev Nd.right .block] = true := (Bool.and_eq_true _ _ ▸ hst).2
  have hlen3 : T.kids.length = 2 := row_len hro
  obtain ⟨t0, t1, hks⟩ := kids_2 (l := T.kids) hlen3
  rw [hks] at hro
  simp only [rowB, Bool.and_eq_true, Bool.and_true] at hro
  obtain ⟨r0, r1⟩ := hro
  have hg0 : T.kids[0]? = some t0 := by rw [hks]; rfl
  obtain ⟨b, off, A0, c0', K0, d0, hKe0, hC0, hN0⟩ := hN.kid hg0
  have hd0 : t0.depth ≤ D ∧ t0.weight ≤ 1000000 := within_kidsM hD hWt t0 (List.mem_of_getElem? hg0)
  have hg1 : T.kids[1]? = some t1 := by rw [hks]; rfl
  obtain ⟨b1, off1, A1, c1', K1, d1, hKe1, hC1, hN1⟩ := hN.kid hg1
  have hd1 : t1.depth ≤ D ∧ t1.weight ≤ 1000000 := within_kidsM hD hWt t1 (List.mem_of_getElem? hg1)
  rw [Nat.zero_mul, Nat.add_zero] at hC0
  subst hKe0
  injection hKe1 with e1
  injection e1 with e1 e2
  subst e1 e2
  rw [show 1 * 6 = 6 from rfl] at hC1
  have hm0 := mb_of r0
  have HN0 := Lib.hid hN0
  have i0 : (0 : Int) < (T.kids.length : Int) := by omega
  have i0' : 0 < T.kids.length := by omega
  have HF1 := Lib.hid (wInner_ok D w0 X dep (by omega) hL t1 (blk_of r1) (by omega) hd1.2)
  have HN1 := Lib.hid hN1
  have i1 : (1 : Int) < (T.kids.length : Int) := by omega
  have i1' : 1 < T.kids.length := by omega
  have hv2 := hv t0 hg0
  have q2 : (t0.kind != 0) = true := by simp [hv2]
  have HF0 := Lib.hid (wExpr_ok w0 X dep D t0 (hm0.resolve_left hv2) hd0.1 hd0.2)
  have hlen : l0.length + (T.lin dep).length ≤ 1000000000000 := hlen
  have hts : T.lin dep = padL dep ++ [99, 108, 97, 115, 115, 32] ++ tx T ++ [40] ++ t0.txt ++ [41] ++ [58, 10] ++ t1.lin (dep + 1) := by rw [lin_eq]; simp [linOf, hk, hks, kd, gy, hv2]
  rw [hts] at hlen
  have HTX := Lib.hid hts
  have HLN := Lib.hid hlen
  have z15 : (T.kind == 15) = false := by rw [hk]; rfl
  have z16 : (T.kind == 16) = false := by rw [hk]; rfl
  have z17 : (T.kind == 17) = false := by rw [hk]; rfl
  have z18 : (T.kind == 18) = false := by rw [hk]; rfl
  have z20 : (T.kind == 20) = true := by rw [hk]; rfl
  have z21 : (T.kind == 21) = false := by rw [hk]; rfl
  obtain ⟨hm1, hm2, hrm, hw32, hk1, hk2, hk64, ha64, hts', hKs⟩ := hN.parts
  have hk2' := hk2
  unfold maxLen at hm2 hk2 hts'
  obtain ⟨hk64a, hk64b⟩ := hk64
  obtain ⟨ha64a, ha64b⟩ := ha64
  have hB0 : w0.heap.size ≤ w.heap.size := hBs.size
  have hbX : X < w.heap.size := WrT.lt hW
  have hK0 : WK w0.heap.size X w (w.alloc (.cells #[.int .i64 T.kind, .int .i64 T.pos, .string T.text, .bool T.neg, .slice A T.mag.length c, .slice (some ⟨b, off, none⟩) T.kids.length d] 27)) := (WK.refl _ _ _).alloc hB0 _
  have hWb := hW.alloc (.cells #[.int .i64 T.kind, .int .i64 T.pos, .string T.text, .bool T.neg, .slice A T.mag.length c, .slice (some ⟨b, off, none⟩) T.kids.length d] 27)
  have hBb : Below w0.heap.size w0 (w.alloc (.cells #[.int .i64 T.kind, .int .i64 T.pos, .string T.text, .bool T.neg, .slice A T.mag.length c, .slice (some ⟨b, off, none⟩) T.kids.length d] 27)) := hBs.trans hK0.b
  have hbx := heap_alloc_new w (.cells #[.int .i64 T.kind, .int .i64 T.pos, .string T.text, .bool T.neg, .slice A T.mag.length c, .slice (some ⟨b, off, none⟩) T.kids.length d] 27)
  have hsg : (w.alloc (.cells #[.int .i64 T.kind, .int .i64 T.pos, .string T.text, .bool T.neg, .slice A T.mag.length c, .slice (some ⟨b, off, none⟩) T.kids.length d] 27)).heap.size = w.heap.size + 1 := by simp
  clear hKs hN hlen hT hD hWt hrm hw32 hk hts hst hlen3 hks hg0 hN0 hd0 r0 hg1 hN1 hd1 r1 hv hv2 hm0 hL
  obtain ⟨c0, c1, c2, c3, c4, c5⟩ := (cells_box hbx).box
  have hlb := World.block_lt_of_cell? _ _ c0
  obtain ⟨n0_0, n0_1, n0_2, n0_3, n0_4, n0_5⟩ := hC0.later hBb
  have hlk0 := World.block_lt_of_cell? _ _ n0_0
  obtain ⟨n1_0, n1_1, n1_2, n1_3, n1_4, n1_5⟩ := hC1.later hBb
  have hlk1 := World.block_lt_of_cell? _ _ n1_0
  have hlX := WrT.lt hWb
  unfold ndV
  go_enter Tryz.func47, Tryz.ntmps47
  go_wp2_with fail
  have hWa := hWb.alloc (.cells #[.string { data := #[99, 108, 97, 115, 115, 32] }, .string T.text] 9)
  have hKa := hK0.alloc (Nat.le_trans hB0 hK0.b.size) (.cells #[.string { data := #[99, 108, 97, 115, 115, 32] }, .string T.text] 9)
  have hbxa := (Lib.alloc_old _ (.cells #[.string { data := #[99, 108, 97, 115, 115, 32] }, .string T.text] 9) _ hlb).trans hbx
  have hlta : X < w.heap.size + 1 := (by have := WrT.lt hWb; rw [hsg] at this; exact this)
  go_at_call 80
  refine (wHead_ok w0.heap.size X dep _ ([99, 108, 97, 115, 115, 32] ++ tx T) [⟨#[99, 108, 97, 115, 115, 32]⟩, T.text] 2 _ _ hWa rfl (.inr ⟨w.heap.size + 1, rfl, by omega, (by rw [← hsg]; exact heap_alloc_new _ _)⟩) (by simp [tx]) (by decide) hdm (by have h := HLN.out; have hpl := padL_len dep; (try simp only [List.length_append, List.length_cons, List.length_nil, List.length_singleton] at h); (try simp only [List.length_append, List.length_cons, List.length_nil, List.length_singleton]); omega) (Nat.le_trans hB0 hKa.b.size)).mono ?_
  rintro e w_1 ⟨rfl, hW_1, hk_1⟩
  have hK_1 := hKa.trans hk_1
  have hbx := box_keep hk_1 hbxa hbX
  have hB_1 : Below w0.heap.size w0 w_1 := hBs.trans hK_1.b
  obtain ⟨c0, c1, c2, c3, c4, c5⟩ := (cells_box hbx).box
  have hlb := World.block_lt_of_cell? _ _ c0
  obtain ⟨n0_0, n0_1, n0_2, n0_3, n0_4, n0_5⟩ := hC0.later hB_1
  have hlk0 := World.block_lt_of_cell? _ _ n0_0
  obtain ⟨n1_0, n1_1, n1_2, n1_3, n1_4, n1_5⟩ := hC1.later hB_1
  have hlk1 := World.block_lt_of_cell? _ _ n1_0
  have hlX := WrT.lt hW_1
  go_wp2_with fail
  have hWa := hW_1.alloc (.cells #[.string { data := #[40] }] 9)
  have hKa := hK_1.alloc (Nat.le_trans hB0 hK_1.b.size) (.cells #[.string { data := #[40] }] 9)
  have hbxa := (Lib.alloc_old _ (.cells #[.string { data := #[40] }] 9) _ hlb).trans hbx
  go_at_call 84
  refine (wSayT_ok w0.heap.size X dep _ ([40]) [⟨#[40]⟩] 1 _ _ hWa rfl (WrT.lt hW_1) (heap_alloc_new _ _) rfl (by decide) (by have h := HLN.out; (try simp only [List.length_append, List.length_cons, List.length_nil, List.length_singleton] at h); (try simp only [List.length_append, List.length_cons, List.length_nil, List.length_singleton]); omega) (Nat.le_trans hB0 hKa.b.size)).mono ?_
  rintro e w_2 ⟨rfl, hW_2, hk_2⟩
  have hK_2 := hKa.trans hk_2
  have hbx := box_keep hk_2 hbxa hbX
  have hB_2 : Below w0.heap.size w0 w_2 := hBs.trans hK_2.b
  obtain ⟨c0, c1, c2, c3, c4, c5⟩ := (cells_box hbx).box
  have hlb := World.block_lt_of_cell? _ _ c0
  obtain ⟨n0_0, n0_1, n0_2, n0_3, n0_4, n0_5⟩ := hC0.later hB_2
  have hlk0 := World.block_lt_of_cell? _ _ n0_0
  obtain ⟨n1_0, n1_1, n1_2, n1_3, n1_4, n1_5⟩ := hC1.later hB_2
  have hlk1 := World.block_lt_of_cell? _ _ n1_0
  have hlX := WrT.lt hW_2
  go_wp2_with fail
  have hI := HF0.out A0 c0' K0 d0 _ _ HN0.out hB_2 hW_2 (by have h := HLN.out; (try simp only [List.length_append, List.length_cons, List.length_nil, List.length_singleton] at h); (try simp only [List.length_append, List.length_cons, List.length_nil, List.length_singleton]); omega)
  unfold ndV at hI
  go_at_call 81
  refine hI.mono ?_
  rintro e w_3 ⟨rfl, hW_3, hk_3⟩
  have hK_3 := hK_2.trans hk_3
  have hbx := box_keep hk_3 hbx hbX
  clear hI
  have hB_3 : Below w0.heap.size w0 w_3 := hBs.trans hK_3.b
  obtain ⟨c0, c1, c2, c3, c4, c5⟩ := (cells_box hbx).box
  have hlb := World.block_lt_of_cell? _ _ c0
  obtain ⟨n0_0, n0_1, n0_2, n0_3, n0_4, n0_5⟩ := hC0.later hB_3
  have hlk0 := World.block_lt_of_cell? _ _ n0_0
  obtain ⟨n1_0, n1_1, n1_2, n1_3, n1_4, n1_5⟩ := hC1.later hB_3
  have hlk1 := World.block_lt_of_cell? _ _ n1_0
  have hlX := WrT.lt hW_3
  go_wp2_with fail
  have hWa := hW_3.alloc (.cells #[.string { data := #[41] }] 9)
  have hKa := hK_3.alloc (Nat.le_trans hB0 hK_3.b.size) (.cells #[.string { data := #[41] }] 9)
  have hbxa := (Lib.alloc_old _ (.cells #[.string { data := #[41] }] 9) _ hlb).trans hbx
  go_at_call 84
  refine (wSayT_ok w0.heap.size X dep _ ([41]) [⟨#[41]⟩] 1 _ _ hWa rfl (WrT.lt hW_3) (heap_alloc_new _ _) rfl (by decide) (by have h := HLN.out; (try simp only [List.length_append, List.length_cons, List.length_nil, List.length_singleton] at h); (try simp only [List.length_append, List.length_cons, List.length_nil, List.length_singleton]); omega) (Nat.le_trans hB0 hKa.b.size)).mono ?_
  rintro e w_4 ⟨rfl, hW_4, hk_4⟩
  have hK_4 := hKa.trans hk_4
  have hbx := box_keep hk_4 hbxa hbX
  have hB_4 : Below w0.heap.size w0 w_4 := hBs.trans hK_4.b
  obtain ⟨c0, c1, c2, c3, c4, c5⟩ := (cells_box hbx).box
  have hlb := World.block_lt_of_cell? _ _ c0
  obtain ⟨n0_0, n0_1, n0_2, n0_3, n0_4, n0_5⟩ := hC0.later hB_4
  have hlk0 := World.block_lt_of_cell? _ _ n0_0
  obtain ⟨n1_0, n1_1, n1_2, n1_3, n1_4, n1_5⟩ := hC1.later hB_4
  have hlk1 := World.block_lt_of_cell? _ _ n1_0
  have hlX := WrT.lt hW_4
  go_wp2_with fail
  have hI := HF1.out A1 c1' K1 d1 _ _ HN1.out hB_4 hW_4 (by have h := HLN.out; (try simp only [List.length_append, List.length_cons, List.length_nil, List.length_singleton] at h); (try simp only [List.length_append, List.length_cons, List.length_nil, List.length_singleton]); omega)
  unfold ndV at hI
  go_at_call 82
  refine hI.mono ?_
  rintro e w_5 ⟨rfl, hW_5, hk_5⟩
  have hK_5 := hK_4.trans hk_5
  have hbx := box_keep hk_5 hbx hbX
  clear hI
  have hB_5 : Below w0.heap.size w0 w_5 := hBs.trans hK_5.b
  obtain ⟨c0, c1, c2, c3, c4, c5⟩ := (cells_box hbx).box
  have hlb := World.block_lt_of_cell? _ _ c0
  obtain ⟨n0_0, n0_1, n0_2, n0_3, n0_4, n0_5⟩ := hC0.later hB_5
  have hlk0 := World.block_lt_of_cell? _ _ n0_0
  obtain ⟨n1_0, n1_1, n1_2, n1_3, n1_4, n1_5⟩ := hC1.later hB_5
  have hlk1 := World.block_lt_of_cell? _ _ n1_0
  have hlX := WrT.lt hW_5
  go_wp2_with fail
  ((try simp only [Exit.inBlock, Exit.then]); first | refine bodyPost_end (results_none rfl _ _ _) rfl ?_ | refine bodyPost_ret (results_none rfl _ _ _) rfl ?_)
  exact ⟨rfl, hW_5.eq (by show _ = l0 ++ T.lin dep; rw [HTX.out]; try simp only [List.append_assoc, List.append_nil, List.nil_append, List.cons_append, List.singleton_append]), hK_5⟩
end
end Go.Proofs.YtjefhdlncikhmaaGreatDoor
