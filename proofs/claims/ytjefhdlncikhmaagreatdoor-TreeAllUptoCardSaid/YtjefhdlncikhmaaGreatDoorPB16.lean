/- Joined by a program: Wr6b. -/
import Derived.WalkKit
import Derived.Test.YtjefhdlncikhmaaGreatDoorShelf
import Derived.Test.YtjefhdlncikhmaaGreatDoorPB14
namespace Go.Proofs.YtjefhdlncikhmaaGreatDoor
section
set_option linter.unusedVariables false
set_option linter.unusedSimpArgs false
open Go.RowKit
set_option maxRecDepth 1000000
set_option maxHeartbeats 8000000 in
theorem ws7 (D : Nat) (w0 : World) (X dep : Nat) (hdp : dep + (D + 1) ≤ 1000000) (T : Nd) (hk : T.kind = 7) (hT : St T) (hD : T.depth ≤ D + 1) (hWt : T.weight ≤ 1000000) : FSays 88 w0 X dep simpL T := by
  intro A c K d l0 w hN hBs hW hlen
  have hdm : dep ≤ 1000000 := by omega
  have hst : (Tx.non.ev T.text && noNumB T && rowB T.kids [Sh.ev Nd.right .target]) = true := by
    rw [← show _ = (Tx.non.ev T.text && noNumB T && rowB T.kids [Sh.ev Nd.right .target]) from st_at hk (tx := .non) (fm := .row [.target]) rfl (by decide) (by decide) (by decide)]
    exact hT
  have hro : rowB T.kids [Sh.ev Nd.right .target] = true := (Bool.and_eq_true _ _ ▸ hst).2
  have hlen3 : T.kids.length = 1 := row_len hro
  obtain ⟨t0, hks⟩ := kids_1 (l := T.kids) hlen3
  rw [hks] at hro
  simp only [rowB, Bool.and_eq_true, Bool.and_true] at hro
  have r0 := hro
  have hg0 : T.kids[0]? = some t0 := by rw [hks]; rfl
  obtain ⟨b, off, A0, c0', K0, d0, hKe0, hC0, hN0⟩ := hN.kid hg0
  have hd0 : t0.depth ≤ D ∧ t0.weight ≤ 1000000 := within_kidsM hD hWt t0 (List.mem_of_getElem? hg0)
  rw [Nat.zero_mul, Nat.add_zero] at hC0
  subst hKe0
  have HF0 := Lib.hid (wExpr_ok w0 X dep D t0 (ev_tgt r0) hd0.1 hd0.2)
  have HN0 := Lib.hid hN0
  have i0 : (0 : Int) < (T.kids.length : Int) := by omega
  have i0' : 0 < T.kids.length := by omega
  have hx0 := ev_tgt r0
  have HMB := Lib.hid (show Mb t0 from .inr hx0)
  have HMZ := Lib.hid (show maybeL t0 = [32] ++ t0.txt by rw [maybeL, if_neg (by have := hx0.2; omega)])
  have HDD := Lib.hid hd0
  clear hx0
  have hlen : l0.length + (simpL T).length ≤ 1000000000000 := hlen
  have hts : simpL T = [100, 101, 108] ++ maybeL t0 := by rw [HMZ.out]; simp [simpL, hk, hks, kd]
  rw [hts] at hlen
  have HTX := Lib.hid hts
  have HLN := Lib.hid hlen
  have z3 : (T.kind == 3) = false := by rw [hk]; rfl
  have z4 : (T.kind == 4) = false := by rw [hk]; rfl
  have z5 : (T.kind == 5) = false := by rw [hk]; rfl
  have z6 : (T.kind == 6) = false := by rw [hk]; rfl
  have z7 : (T.kind == 7) = true := by rw [hk]; rfl
  have z8 : (T.kind == 8) = false := by rw [hk]; rfl
  have z9 : (T.kind == 9) = false := by rw [hk]; rfl
  have z10 : (T.kind == 10) = false := by rw [hk]; rfl
  have z11 : (T.kind == 11) = false := by rw [hk]; rfl
  have z12 : (T.kind == 12) = false := by rw [hk]; rfl
  have z13 : (T.kind == 13) = false := by rw [hk]; rfl
  have z14 : (T.kind == 14) = false := by rw [hk]; rfl
  obtain ⟨hm1, hm2, hrm, hw32, hk1, hk2, hk64, ha64, hts', hKs⟩ := hN.parts
  have hk2' := hk2
  unfold maxLen at hm2 hk2 hts'
  obtain ⟨hk64a, hk64b⟩ := hk64
  obtain ⟨ha64a, ha64b⟩ := ha64
  have hB0 : w0.heap.size ≤ w.heap.size := hBs.size
  have hbX : X < w.heap.size := WrT.lt hW
  have hK0 : WK w0.heap.size X w (w.alloc (.cells #[.int .i64 T.kind, .int .i64 T.pos, .string T.text, .bool T.neg, .slice A T.mag.length c, .slice (some ⟨b, off, none⟩) T.kids.length d] 27)) := (WK.refl _ _ _).alloc hB0 _
  have hWb := hW.alloc (.cells #[.int .i64 T.kind, .int .i64 T.pos, .string T.text, .bool T.neg, .slice A T.mag.length c, .slice (some ⟨b, off, none⟩) T.kids.length d] 27)
  have hBb : Below w0.heap.size w0 (w.alloc (.cells #[.int .i64 T.kind, .int .i64 T.pos, .string T.text, .bool T.neg, .slice A T.mag.length c, .slice (some ⟨b, off, none⟩) T.kids.length d] 27)) := hBs.trans hK0.b
  have hbx := heap_alloc_new w (.cells #[.int .i64 T.kind, .int .i64 T.pos, .string T.text, .bool T.neg, .slice A T.mag.length c, .slice (some ⟨b, off, none⟩) T.kids.length d] 27)
  have hsg : (w.alloc (.cells #[.int .i64 T.kind, .int .i64 T.pos, .string T.text, .bool T.neg, .slice A T.mag.length c, .slice (some ⟨b, off, none⟩) T.kids.length d] 27)).heap.size = w.heap.size + 1 := by simp
  clear hKs hN hlen hT hD hWt hrm hw32 hk hts hst hlen3 hks hg0 hN0 hd0 r0
  obtain ⟨c0, c1, c2, c3, c4, c5⟩ := (cells_box hbx).box
  have hlb := World.block_lt_of_cell? _ _ c0
  obtain ⟨n0_0, n0_1, n0_2, n0_3, n0_4, n0_5⟩ := hC0.later hBb
  have hlk0 := World.block_lt_of_cell? _ _ n0_0
  have hlX := WrT.lt hWb
  unfold ndV
  go_enter Tryz.func88, Tryz.ntmps88
  go_wp2_with fail
  have hI := wWord_ok D w0 X dep (wExpr_ok w0 X dep D) ⟨#[100, 101, 108]⟩ t0 HMB.out HDD.out.1 HDD.out.2 A0 c0' K0 d0 _ _ HN0.out hBb hWb (by have h := HLN.out; (try simp only [List.length_append, List.length_cons, List.length_nil, List.length_singleton] at h); (try simp only [List.length_append, List.length_cons, List.length_nil, List.length_singleton]); omega)
  unfold ndV at hI
  go_at_call 148
  refine hI.mono ?_
  rintro e w_1 ⟨rfl, hW_1, hk_1⟩
  have hK_1 := hK0.trans hk_1
  have hbx := box_keep hk_1 hbx hbX
  clear hI
  have hB_1 : Below w0.heap.size w0 w_1 := hBs.trans hK_1.b
  obtain ⟨c0, c1, c2, c3, c4, c5⟩ := (cells_box hbx).box
  have hlb := World.block_lt_of_cell? _ _ c0
  obtain ⟨n0_0, n0_1, n0_2, n0_3, n0_4, n0_5⟩ := hC0.later hB_1
  have hlk0 := World.block_lt_of_cell? _ _ n0_0
  have hlX := WrT.lt hW_1
  go_wp2_with fail
  ((try simp only [Exit.inBlock, Exit.then]); first | refine bodyPost_end (results_none rfl _ _ _) rfl ?_ | refine bodyPost_ret (results_none rfl _ _ _) rfl ?_)
  exact ⟨rfl, hW_1.eq (by show _ = l0 ++ simpL T; rw [HTX.out]; try simp only [List.append_assoc, List.append_nil, List.nil_append, List.cons_append, List.singleton_append]), hK_1⟩
set_option maxHeartbeats 8000000 in
theorem ws8 (D : Nat) (w0 : World) (X dep : Nat) (hdp : dep + (D + 1) ≤ 1000000) (T : Nd) (hk : T.kind = 8) (hT : St T) (hD : T.depth ≤ D + 1) (hWt : T.weight ≤ 1000000) : FSays 88 w0 X dep simpL T := by
  intro A c K d l0 w hN hBs hW hlen
  have hdm : dep ≤ 1000000 := by omega
  have hst : (Tx.non.ev T.text && noNumB T && rowB T.kids []) = true := by
    rw [← show _ = (Tx.non.ev T.text && noNumB T && rowB T.kids []) from st_at hk (tx := .non) (fm := .row []) rfl (by decide) (by decide) (by decide)]
    exact hT
  have hro : rowB T.kids [] = true := (Bool.and_eq_true _ _ ▸ hst).2
  have hlen3 : T.kids.length = 0 := row_len hro
  clear hst hro
  have hlen : l0.length + (simpL T).length ≤ 1000000000000 := hlen
  have hts : simpL T = [112, 97, 115, 115] := by simp [simpL, hk]
  rw [hts] at hlen
  have HTX := Lib.hid hts
  have HLN := Lib.hid hlen
  have z3 : (T.kind == 3) = false := by rw [hk]; rfl
  have z4 : (T.kind == 4) = false := by rw [hk]; rfl
  have z5 : (T.kind == 5) = false := by rw [hk]; rfl
  have z6 : (T.kind == 6) = false := by rw [hk]; rfl
  have z7 : (T.kind == 7) = false := by rw [hk]; rfl
  have z8 : (T.kind == 8) = true := by rw [hk]; rfl
  have z9 : (T.kind == 9) = false := by rw [hk]; rfl
  have z10 : (T.kind == 10) = false := by rw [hk]; rfl
  have z11 : (T.kind == 11) = false := by rw [hk]; rfl
  have z12 : (T.kind == 12) = false := by rw [hk]; rfl
  have z13 : (T.kind == 13) = false := by rw [hk]; rfl
  have z14 : (T.kind == 14) = false := by rw [hk]; rfl
  obtain ⟨hm1, hm2, hrm, hw32, hk1, hk2, hk64, ha64, hts', hKs⟩ := hN.parts
  have hk2' := hk2
  unfold maxLen at hm2 hk2 hts'
  obtain ⟨hk64a, hk64b⟩ := hk64
  obtain ⟨ha64a, ha64b⟩ := ha64
  have hB0 : w0.heap.size ≤ w.heap.size := hBs.size
  have hbX : X < w.heap.size := WrT.lt hW
  have hK0 : WK w0.heap.size X w (w.alloc (.cells #[.int .i64 T.kind, .int .i64 T.pos, .string T.text, .bool T.neg, .slice A T.mag.length c, .slice K T.kids.length d] 27)) := (WK.refl _ _ _).alloc hB0 _
  have hWb := hW.alloc (.cells #[.int .i64 T.kind, .int .i64 T.pos, .string T.text, .bool T.neg, .slice A T.mag.length c, .slice K T.kids.length d] 27)
  have hBb : Below w0.heap.size w0 (w.alloc (.cells #[.int .i64 T.kind, .int .i64 T.pos, .string T.text, .bool T.neg, .slice A T.mag.length c, .slice K T.kids.length d] 27)) := hBs.trans hK0.b
  have hbx := heap_alloc_new w (.cells #[.int .i64 T.kind, .int .i64 T.pos, .string T.text, .bool T.neg, .slice A T.mag.length c, .slice K T.kids.length d] 27)
  have hsg : (w.alloc (.cells #[.int .i64 T.kind, .int .i64 T.pos, .string T.text, .bool T.neg, .slice A T.mag.length c, .slice K T.kids.length d] 27)).heap.size = w.heap.size + 1 := by simp
  clear hKs hN hlen hT hD hWt hrm hw32 hk hts hlen3
  obtain ⟨c0, c1, c2, c3, c4, c5⟩ := (cells_box hbx).box
  have hlb := World.block_lt_of_cell? _ _ c0
  have hlX := WrT.lt hWb
  unfold ndV
  go_enter Tryz.func88, Tryz.ntmps88
  go_wp2_with fail
  have hWa := hWb.alloc (.cells #[.string { data := #[112, 97, 115, 115] }] 9)
  have hKa := hK0.alloc (Nat.le_trans hB0 hK0.b.size) (.cells #[.string { data := #[112, 97, 115, 115] }] 9)
  have hbxa := (Lib.alloc_old _ (.cells #[.string { data := #[112, 97, 115, 115] }] 9) _ hlb).trans hbx
  go_at_call 84
  refine (wSayT_ok w0.heap.size X dep _ ([112, 97, 115, 115]) [⟨#[112, 97, 115, 115]⟩] 1 (w.heap.size + 1) _ hWa rfl (by have := WrT.lt hWb; rw [hsg] at this; exact this) (by rw [← hsg]; exact heap_alloc_new _ _) rfl (by decide) (by have h := HLN.out; (try simp only [List.length_append, List.length_cons, List.length_nil, List.length_singleton] at h); (try simp only [List.length_append, List.length_cons, List.length_nil, List.length_singleton]); omega) (Nat.le_trans hB0 hKa.b.size)).mono ?_
  rintro e w_1 ⟨rfl, hW_1, hk_1⟩
  have hK_1 := hKa.trans hk_1
  have hbx := box_keep hk_1 hbxa hbX
  have hB_1 : Below w0.heap.size w0 w_1 := hBs.trans hK_1.b
  obtain ⟨c0, c1, c2, c3, c4, c5⟩ := (cells_box hbx).box
  have hlb := World.block_lt_of_cell? _ _ c0
  have hlX := WrT.lt hW_1
  go_wp2_with fail
  ((try simp only [Exit.inBlock, Exit.then]); first | refine bodyPost_end (results_none rfl _ _ _) rfl ?_ | refine bodyPost_ret (results_none rfl _ _ _) rfl ?_)
  exact ⟨rfl, hW_1.eq (by show _ = l0 ++ simpL T; rw [HTX.out]; try simp only [List.append_assoc, List.append_nil, List.nil_append, List.cons_append, List.singleton_append]), hK_1⟩
set_option maxHeartbeats 8000000 in
theorem ws9 (D : Nat) (w0 : World) (X dep : Nat) (hdp : dep + (D + 1) ≤ 1000000) (T : Nd) (hk : T.kind = 9) (hT : St T) (hD : T.depth ≤ D + 1) (hWt : T.weight ≤ 1000000) : FSays 88 w0 X dep simpL T := by
  intro A c K d l0 w hN hBs hW hlen
  have hdm : dep ≤ 1000000 := by omega
  have hst : (Tx.non.ev T.text && noNumB T && rowB T.kids []) = true := by
    rw [← show _ = (Tx.non.ev T.text && noNumB T && rowB T.kids []) from st_at hk (tx := .non) (fm := .row []) rfl (by decide) (by decide) (by decide)]
    exact hT
  have hro : rowB T.kids [] = true := (Bool.and_eq_true _ _ ▸ hst).2
  have hlen3 : T.kids.length = 0 := row_len hro
  clear hst hro
  have hlen : l0.length + (simpL T).length ≤ 1000000000000 := hlen
  have hts : simpL T = [98, 114, 101, 97, 107] := by simp [simpL, hk]
  rw [hts] at hlen
  have HTX := Lib.hid hts
  have HLN := Lib.hid hlen
  have z3 : (T.kind == 3) = false := by rw [hk]; rfl
  have z4 : (T.kind == 4) = false := by rw [hk]; rfl
  have z5 : (T.kind == 5) = false := by rw [hk]; rfl
  have z6 : (T.kind == 6) = false := by rw [hk]; rfl
  have z7 : (T.kind == 7) = false := by rw [hk]; rfl
  have z8 : (T.kind == 8) = false := by rw [hk]; rfl
  have z9 : (T.kind == 9) = true := by rw [hk]; rfl
  have z10 : (T.kind == 10) = false := by rw [hk]; rfl
  have z11 : (T.kind == 11) = false := by rw [hk]; rfl
  have z12 : (T.kind == 12) = false := by rw [hk]; rfl
  have z13 : (T.kind == 13) = false := by rw [hk]; rfl
  have z14 : (T.kind == 14) = false := by rw [hk]; rfl
  obtain ⟨hm1, hm2, hrm, hw32, hk1, hk2, hk64, ha64, hts', hKs⟩ := hN.parts
  have hk2' := hk2
  unfold maxLen at hm2 hk2 hts'
  obtain ⟨hk64a, hk64b⟩ := hk64
  obtain ⟨ha64a, ha64b⟩ := ha64
  have hB0 : w0.heap.size ≤ w.heap.size := hBs.size
  have hbX : X < w.heap.size := WrT.lt hW
  have hK0 : WK w0.heap.size X w (w.alloc (.cells #[.int .i64 T.kind, .int .i64 T.pos, .string T.text, .bool T.neg, .slice A T.mag.length c, .slice K T.kids.length d] 27)) := (WK.refl _ _ _).alloc hB0 _
  have hWb := hW.alloc (.cells #[.int .i64 T.kind, .int .i64 T.pos, .string T.text, .bool T.neg, .slice A T.mag.length c, .slice K T.kids.length d] 27)
  have hBb : Below w0.heap.size w0 (w.alloc (.cells #[.int .i64 T.kind, .int .i64 T.pos, .string T.text, .bool T.neg, .slice A T.mag.length c, .slice K T.kids.length d] 27)) := hBs.trans hK0.b
  have hbx := heap_alloc_new w (.cells #[.int .i64 T.kind, .int .i64 T.pos, .string T.text, .bool T.neg, .slice A T.mag.length c, .slice K T.kids.length d] 27)
  have hsg : (w.alloc (.cells #[.int .i64 T.kind, .int .i64 T.pos, .string T.text, .bool T.neg, .slice A T.mag.length c, .slice K T.kids.length d] 27)).heap.size = w.heap.size + 1 := by simp
  clear hKs hN hlen hT hD hWt hrm hw32 hk hts hlen3
  obtain ⟨c0, c1, c2, c3, c4, c5⟩ := (cells_box hbx).box
  have hlb := World.block_lt_of_cell? _ _ c0
  have hlX := WrT.lt hWb
  unfold ndV
  go_enter Tryz.func88, Tryz.ntmps88
  go_wp2_with fail
  have hWa := hWb.alloc (.cells #[.string { data := #[98, 114, 101, 97, 107] }] 9)
  have hKa := hK0.alloc (Nat.le_trans hB0 hK0.b.size) (.cells #[.string { data := #[98, 114, 101, 97, 107] }] 9)
  have hbxa := (Lib.alloc_old _ (.cells #[.string { data := #[98, 114, 101, 97, 107] }] 9) _ hlb).trans hbx
  go_at_call 84
  refine (wSayT_ok w0.heap.size X dep _ ([98, 114, 101, 97, 107]) [⟨#[98, 114, 101, 97, 107]⟩] 1 (w.heap.size + 1) _ hWa rfl (by have := WrT.lt hWb; rw [hsg] at this; exact this) (by rw [← hsg]; exact heap_alloc_new _ _) rfl (by decide) (by have h := HLN.out; (try simp only [List.length_append, List.length_cons, List.length_nil, List.length_singleton] at h); (try simp only [List.length_append, List.length_cons, List.length_nil, List.length_singleton]); omega) (Nat.le_trans hB0 hKa.b.size)).mono ?_
  rintro e w_1 ⟨rfl, hW_1, hk_1⟩
  have hK_1 := hKa.trans hk_1
  have hbx := box_keep hk_1 hbxa hbX
  have hB_1 : Below w0.heap.size w0 w_1 := hBs.trans hK_1.b
  obtain ⟨c0, c1, c2, c3, c4, c5⟩ := (cells_box hbx).box
  have hlb := World.block_lt_of_cell? _ _ c0
  have hlX := WrT.lt hW_1
  go_wp2_with fail
  ((try simp only [Exit.inBlock, Exit.then]); first | refine bodyPost_end (results_none rfl _ _ _) rfl ?_ | refine bodyPost_ret (results_none rfl _ _ _) rfl ?_)
  exact ⟨rfl, hW_1.eq (by show _ = l0 ++ simpL T; rw [HTX.out]; try simp only [List.append_assoc, List.append_nil, List.nil_append, List.cons_append, List.singleton_append]), hK_1⟩
set_option maxHeartbeats 8000000 in
theorem ws10 (D : Nat) (w0 : World) (X dep : Nat) (hdp : dep + (D + 1) ≤ 1000000) (T : Nd) (hk : T.kind = 10) (hT : St T) (hD : T.depth ≤ D + 1) (hWt : T.weight ≤ 1000000) : FSays 88 w0 X dep simpL T := by
  intro A c K d l0 w hN hBs hW hlen
  have hdm : dep ≤ 1000000 := by omega
  have hst : (Tx.non.ev T.text && noNumB T && rowB T.kids []) = true := by
    rw [← show _ = (Tx.non.ev T.text && noNumB T && rowB T.kids []) from st_at hk (tx := .non) (fm := .row []) rfl (by decide) (by decide) (by decide)]
    exact hT
  have hro : rowB T.kids [] = true := (Bool.and_eq_true _ _ ▸ hst).2
  have hlen3 : T.kids.length = 0 := row_len hro
  clear hst hro
  have hlen : l0.length + (simpL T).length ≤ 1000000000000 := hlen
  have hts : simpL T = [99, 111, 110, 116, 105, 110, 117, 101] := by simp [simpL, hk]
  rw [hts] at hlen
  have HTX := Lib.hid hts
  have HLN := Lib.hid hlen
  have z3 : (T.kind == 3) = false := by rw [hk]; rfl
  have z4 : (T.kind == 4) = false := by rw [hk]; rfl
  have z5 : (T.kind == 5) = false := by rw [hk]; rfl
  have z6 : (T.kind == 6) = false := by rw [hk]; rfl
  have z7 : (T.kind == 7) = false := by rw [hk]; rfl
  have z8 : (T.kind == 8) = false := by rw [hk]; rfl
  have z9 : (T.kind == 9) = false := by rw [hk]; rfl
  have z10 : (T.kind == 10) = true := by rw [hk]; rfl
  have z11 : (T.kind == 11) = false := by rw [hk]; rfl
  have z12 : (T.kind == 12) = false := by rw [hk]; rfl
  have z13 : (T.kind == 13) = false := by rw [hk]; rfl
  have z14 : (T.kind == 14) = false := by rw [hk]; rfl
  obtain ⟨hm1, hm2, hrm, hw32, hk1, hk2, hk64, ha64, hts', hKs⟩ := hN.parts
  have hk2' := hk2
  unfold maxLen at hm2 hk2 hts'
  obtain ⟨hk64a, hk64b⟩ := hk64
  obtain ⟨ha64a, ha64b⟩ := ha64
  have hB0 : w0.heap.size ≤ w.heap.size := hBs.size
  have hbX : X < w.heap.size := WrT.lt hW
  have hK0 : WK w0.heap.size X w (w.alloc (.cells #[.int .i64 T.kind, .int .i64 T.pos, .string T.text, .bool T.neg, .slice A T.mag.length c, .slice K T.kids.length d] 27)) := (WK.refl _ _ _).alloc hB0 _
  have hWb := hW.alloc (.cells #[.int .i64 T.kind, .int .i64 T.pos, .string T.text, .bool T.neg, .slice A T.mag.length c, .slice K T.kids.length d] 27)
  have hBb : Below w0.heap.size w0 (w.alloc (.cells #[.int .i64 T.kind, .int .i64 T.pos, .string T.text, .bool T.neg, .slice A T.mag.length c, .slice K T.kids.length d] 27)) := hBs.trans hK0.b
  have hbx := heap_alloc_new w (.cells #[.int .i64 T.kind, .int .i64 T.pos, .string T.text, .bool T.neg, .slice A T.mag.length c, .slice K T.kids.length d] 27)
  have hsg : (w.alloc (.cells #[.int .i64 T.kind, .int .i64 T.pos, .string T.text, .bool T.neg, .slice A T.mag.length c, .slice K T.kids.length d] 27)).heap.size = w.heap.size + 1 := by simp
  clear hKs hN hlen hT hD hWt hrm hw32 hk hts hlen3
  obtain ⟨c0, c1, c2, c3, c4, c5⟩ := (cells_box hbx).box
  have hlb := World.block_lt_of_cell? _ _ c0
  have hlX := WrT.lt hWb
  unfold ndV
  go_enter Tryz.func88, Tryz.ntmps88
  go_wp2_with fail
  have hWa := hWb.alloc (.cells #[.string { data := #[99, 111, 110, 116, 105, 110, 117, 101] }] 9)
  have hKa := hK0.alloc (Nat.le_trans hB0 hK0.b.size) (.cells #[.string { data := #[99, 111, 110, 116, 105, 110, 117, 101] }] 9)
  have hbxa := (Lib.alloc_old _ (.cells #[.string { data := #[99, 111, 110, 116, 105, 110, 117, 101] }] 9) _ hlb).trans hbx
  go_at_call 84
  refine (wSayT_ok w0.heap.size X dep _ ([99, 111, 110, 116, 105, 110, 117, 101]) [⟨#[99, 111, 110, 116, 105, 110, 117, 101]⟩] 1 (w.heap.size + 1) _ hWa rfl (by have := WrT.lt hWb; rw [hsg] at this; exact this) (by rw [← hsg]; exact heap_alloc_new _ _) rfl (by decide) (by have h := HLN.out; (try simp only [List.length_append, List.length_cons, List.length_nil, List.length_singleton] at h); (try simp only [List.length_append, List.length_cons, List.length_nil, List.length_singleton]); omega) (Nat.le_trans hB0 hKa.b.size)).mono ?_
  rintro e w_1 ⟨rfl, hW_1, hk_1⟩
  have hK_1 := hKa.trans hk_1
  have hbx := box_keep hk_1 hbxa hbX
  have hB_1 : Below w0.heap.size w0 w_1 := hBs.trans hK_1.b
  obtain ⟨c0, c1, c2, c3, c4, c5⟩ := (cells_box hbx).box
  have hlb := World.block_lt_of_cell? _ _ c0
  have hlX := WrT.lt hW_1
  go_wp2_with fail
  ((try simp only [Exit.inBlock, Exit.then]); first | refine bodyPost_end (results_none rfl _ _ _) rfl ?_ | refine bodyPost_ret (results_none rfl _ _ _) rfl ?_)
  exact ⟨rfl, hW_1.eq (by show _ = l0 ++ simpL T; rw [HTX.out]; try simp only [List.append_assoc, List.append_nil, List.nil_append, List.cons_append, List.singleton_append]), hK_1⟩
set_option maxHeartbeats 8000000 in
theorem ws11 (D : Nat) (w0 : World) (X dep : Nat) (hdp : dep + (D + 1) ≤ 1000000) (T : Nd) (hk : T.kind = 11) (hT : St T) (hD : T.depth ≤ D + 1) (hWt : T.weight ≤ 1000000) : FSays 88 w0 X dep simpL T := by
  intro A c K d l0 w hN hBs hW hlen
  have hdm : dep ≤ 1000000 := by omega
  have hst : (Tx.non.ev T.text && noNumB T && rowB T.kids [Sh.ev Nd.right (.or2 .none .expr)]) = true := by
    rw [← show _ = (Tx.non.ev T.text && noNumB T && rowB T.kids [Sh.ev Nd.right (.or2 .none .expr)]) from st_at hk (tx := .non) (fm := .row [(.or2 .none .expr)]) rfl (by decide) (by decide) (by decide)]
    exact hT
  have hro : rowB T.kids [Sh.ev Nd.right (.or2 .none .expr)] = true := (Bool.and_eq_true _ _ ▸ hst).2
  have hlen3 : T.kids.length = 1 := row_len hro
  obtain ⟨t0, hks⟩ := kids_1 (l := T.kids) hlen3
  rw [hks] at hro
  simp only [rowB, Bool.and_eq_true, Bool.and_true] at hro
  have r0 := hro
  have hg0 : T.kids[0]? = some t0 := by rw [hks]; rfl
  obtain ⟨b, off, A0, c0', K0, d0, hKe0, hC0, hN0⟩ := hN.kid hg0
  have hd0 : t0.depth ≤ D ∧ t0.weight ≤ 1000000 := within_kidsM hD hWt t0 (List.mem_of_getElem? hg0)
  rw [Nat.zero_mul, Nat.add_zero] at hC0
  subst hKe0
  have hm0 := mb_of r0
  have HN0 := Lib.hid hN0
  have i0 : (0 : Int) < (T.kids.length : Int) := by omega
  have i0' : 0 < T.kids.length := by omega
  have HMB := Lib.hid hm0
  have hdd := hd0
  have HDD := Lib.hid hdd
  clear hdd hm0
  have hlen : l0.length + (simpL T).length ≤ 1000000000000 := hlen
  have hts : simpL T = [114, 101, 116, 117, 114, 110] ++ maybeL t0 := by simp [simpL, hk, hks, kd]
  rw [hts] at hlen
  have HTX := Lib.hid hts
  have HLN := Lib.hid hlen
  have z3 : (T.kind == 3) = false := by rw [hk]; rfl
  have z4 : (T.kind == 4) = false := by rw [hk]; rfl
  have z5 : (T.kind == 5) = false := by rw [hk]; rfl
  have z6 : (T.kind == 6) = false := by rw [hk]; rfl
  have z7 : (T.kind == 7) = false := by rw [hk]; rfl
  have z8 : (T.kind == 8) = false := by rw [hk]; rfl
  have z9 : (T.kind == 9) = false := by rw [hk]; rfl
  have z10 : (T.kind == 10) = false := by rw [hk]; rfl
  have z11 : (T.kind == 11) = true := by rw [hk]; rfl
  have z12 : (T.kind == 12) = false := by rw [hk]; rfl
  have z13 : (T.kind == 13) = false := by rw [hk]; rfl
  have z14 : (T.kind == 14) = false := by rw [hk]; rfl
  obtain ⟨hm1, hm2, hrm, hw32, hk1, hk2, hk64, ha64, hts', hKs⟩ := hN.parts
  have hk2' := hk2
  unfold maxLen at hm2 hk2 hts'
  obtain ⟨hk64a, hk64b⟩ := hk64
  obtain ⟨ha64a, ha64b⟩ := ha64
  have hB0 : w0.heap.size ≤ w.heap.size := hBs.size
  have hbX : X < w.heap.size := WrT.lt hW
  have hK0 : WK w0.heap.size X w (w.alloc (.cells #[.int .i64 T.kind, .int .i64 T.pos, .string T.text, .bool T.neg, .slice A T.mag.length c, .slice (some ⟨b, off, none⟩) T.kids.length d] 27)) := (WK.refl _ _ _).alloc hB0 _
  have hWb := hW.alloc (.cells #[.int .i64 T.kind, .int .i64 T.pos, .string T.text, .bool T.neg, .slice A T.mag.length c, .slice (some ⟨b, off, none⟩) T.kids.length d] 27)
  have hBb : Below w0.heap.size w0 (w.alloc (.cells #[.int .i64 T.kind, .int .i64 T.pos, .string T.text, .bool T.neg, .slice A T.mag.length c, .slice (some ⟨b, off, none⟩) T.kids.length d] 27)) := hBs.trans hK0.b
  have hbx := heap_alloc_new w (.cells #[.int .i64 T.kind, .int .i64 T.pos, .string T.text, .bool T.neg, .slice A T.mag.length c, .slice (some ⟨b, off, none⟩) T.kids.length d] 27)
  have hsg : (w.alloc (.cells #[.int .i64 T.kind, .int .i64 T.pos, .string T.text, .bool T.neg, .slice A T.mag.length c, .slice (some ⟨b, off, none⟩) T.kids.length d] 27)).heap.size = w.heap.size + 1 := by simp
  clear hKs hN hlen hT hD hWt hrm hw32 hk hts hst hlen3 hks hg0 hN0 hd0 r0
  obtain ⟨c0, c1, c2, c3, c4, c5⟩ := (cells_box hbx).box
  have hlb := World.block_lt_of_cell? _ _ c0
  obtain ⟨n0_0, n0_1, n0_2, n0_3, n0_4, n0_5⟩ := hC0.later hBb
  have hlk0 := World.block_lt_of_cell? _ _ n0_0
  have hlX := WrT.lt hWb
  unfold ndV
  go_enter Tryz.func88, Tryz.ntmps88
  go_wp2_with fail
  have hI := wWord_ok D w0 X dep (wExpr_ok w0 X dep D) ⟨#[114, 101, 116, 117, 114, 110]⟩ t0 HMB.out HDD.out.1 HDD.out.2 A0 c0' K0 d0 _ _ HN0.out hBb hWb (by have h := HLN.out; (try simp only [List.length_append, List.length_cons, List.length_nil, List.length_singleton] at h); (try simp only [List.length_append, List.length_cons, List.length_nil, List.length_singleton]); omega)
  unfold ndV at hI
  go_at_call 148
  refine hI.mono ?_
  rintro e w_1 ⟨rfl, hW_1, hk_1⟩
  have hK_1 := hK0.trans hk_1
  have hbx := box_keep hk_1 hbx hbX
  clear hI
  have hB_1 : Below w0.heap.size w0 w_1 := hBs.trans hK_1.b
  obtain ⟨c0, c1, c2, c3, c4, c5⟩ := (cells_box hbx).box
  have hlb := World.block_lt_of_cell? _ _ c0
  obtain ⟨n0_0, n0_1, n0_2, n0_3, n0_4, n0_5⟩ := hC0.later hB_1
  have hlk0 := World.block_lt_of_cell? _ _ n0_0
  have hlX := WrT.lt hW_1
  go_wp2_with fail
  ((try simp only [Exit.inBlock, Exit.then]); first | refine bodyPost_end (results_none rfl _ _ _) rfl ?_ | refine bodyPost_ret (results_none rfl _ _ _) rfl ?_)
  exact ⟨rfl, hW_1.eq (by show _ = l0 ++ simpL T; rw [HTX.out]; try simp only [List.append_assoc, List.append_nil, List.nil_append, List.cons_append, List.singleton_append]), hK_1⟩
set_option maxHeartbeats 8000000 in
theorem ws12 (D : Nat) (w0 : World) (X dep : Nat) (hdp : dep + (D + 1) ≤ 1000000) (T : Nd) (hk : T.kind = 12) (hT : St T) (hD : T.depth ≤ D + 1) (hWt : T.weight ≤ 1000000) : FSays 88 w0 X dep simpL T := by
  intro A c K d l0 w hN hBs hW hlen
  have hdm : dep ≤ 1000000 := by omega
  have hst : (Tx.non.ev T.text && noNumB T && rowB T.kids [Sh.ev Nd.right (.or2 .none .expr)]) = true := by
    rw [← show _ = (Tx.non.ev T.text && noNumB T && rowB T.kids [Sh.ev Nd.right (.or2 .none .expr)]) from st_at hk (tx := .non) (fm := .row [(.or2 .none .expr)]) rfl (by decide) (by decide) (by decide)]
    exact hT
  have hro : rowB T.kids [Sh.ev Nd.right (.or2 .none .expr)] = true := (Bool.and_eq_true _ _ ▸ hst).2
  have hlen3 : T.kids.length = 1 := row_len hro
  obtain ⟨t0, hks⟩ := kids_1 (l := T.kids) hlen3
  rw [hks] at hro
  simp only [rowB, Bool.and_eq_true, Bool.and_true] at hro
  have r0 := hro
  have hg0 : T.kids[0]? = some t0 := by rw [hks]; rfl
  obtain ⟨b, off, A0, c0', K0, d0, hKe0, hC0, hN0⟩ := hN.kid hg0
  have hd0 : t0.depth ≤ D ∧ t0.weight ≤ 1000000 := within_kidsM hD hWt t0 (List.mem_of_getElem? hg0)
  rw [Nat.zero_mul, Nat.add_zero] at hC0
  subst hKe0
  have hm0 := mb_of r0
  have HN0 := Lib.hid hN0
  have i0 : (0 : Int) < (T.kids.length : Int) := by omega
  have i0' : 0 < T.kids.length := by omega
  have HMB := Lib.hid hm0
  have hdd := hd0
  have HDD := Lib.hid hdd
  clear hdd hm0
  have hlen : l0.length + (simpL T).length ≤ 1000000000000 := hlen
  have hts : simpL T = [114, 97, 105, 115, 101] ++ maybeL t0 := by simp [simpL, hk, hks, kd]
  rw [hts] at hlen
  have HTX := Lib.hid hts
  have HLN := Lib.hid hlen
  have z3 : (T.kind == 3) = false := by rw [hk]; rfl
  have z4 : (T.kind == 4) = false := by rw [hk]; rfl
  have z5 : (T.kind == 5) = false := by rw [hk]; rfl
  have z6 : (T.kind == 6) = false := by rw [hk]; rfl
  have z7 : (T.kind == 7) = false := by rw [hk]; rfl
  have z8 : (T.kind == 8) = false := by rw [hk]; rfl
  have z9 : (T.kind == 9) = false := by rw [hk]; rfl
  have z10 : (T.kind == 10) = false := by rw [hk]; rfl
  have z11 : (T.kind == 11) = false := by rw [hk]; rfl
  have z12 : (T.kind == 12) = true := by rw [hk]; rfl
  have z13 : (T.kind == 13) = false := by rw [hk]; rfl
  have z14 : (T.kind == 14) = false := by rw [hk]; rfl
  obtain ⟨hm1, hm2, hrm, hw32, hk1, hk2, hk64, ha64, hts', hKs⟩ := hN.parts
  have hk2' := hk2
  unfold maxLen at hm2 hk2 hts'
  obtain ⟨hk64a, hk64b⟩ := hk64
  obtain ⟨ha64a, ha64b⟩ := ha64
  have hB0 : w0.heap.size ≤ w.heap.size := hBs.size
  have hbX : X < w.heap.size := WrT.lt hW
  have hK0 : WK w0.heap.size X w (w.alloc (.cells #[.int .i64 T.kind, .int .i64 T.pos, .string T.text, .bool T.neg, .slice A T.mag.length c, .slice (some ⟨b, off, none⟩) T.kids.length d] 27)) := (WK.refl _ _ _).alloc hB0 _
  have hWb := hW.alloc (.cells #[.int .i64 T.kind, .int .i64 T.pos, .string T.text, .bool T.neg, .slice A T.mag.length c, .slice (some ⟨b, off, none⟩) T.kids.length d] 27)
  have hBb : Below w0.heap.size w0 (w.alloc (.cells #[.int .i64 T.kind, .int .i64 T.pos, .string T.text, .bool T.neg, .slice A T.mag.length c, .slice (some ⟨b, off, none⟩) T.kids.length d] 27)) := hBs.trans hK0.b
  have hbx := heap_alloc_new w (.cells #[.int .i64 T.kind, .int .i64 T.pos, .string T.text, .bool T.neg, .slice A T.mag.length c, .slice (some ⟨b, off, none⟩) T.kids.length d] 27)
  have hsg : (w.alloc (.cells #[.int .i64 T.kind, .int .i64 T.pos, .string T.text, .bool T.neg, .slice A T.mag.length c, .slice (some ⟨b, off, none⟩) T.kids.length d] 27)).heap.size = w.heap.size + 1 := by simp
  clear hKs hN hlen hT hD hWt hrm hw32 hk hts hst hlen3 hks hg0 hN0 hd0 r0
  obtain ⟨c0, c1, c2, c3, c4, c5⟩ := (cells_box hbx).box
  have hlb := World.block_lt_of_cell? _ _ c0
  obtain ⟨n0_0, n0_1, n0_2, n0_3, n0_4, n0_5⟩ := hC0.later hBb
  have hlk0 := World.block_lt_of_cell? _ _ n0_0
  have hlX := WrT.lt hWb
  unfold ndV
  go_enter Tryz.func88, Tryz.ntmps88
  go_wp2_with fail
  have hI := wWord_ok D w0 X dep (wExpr_ok w0 X dep D) ⟨#[114, 97, 105, 115, 101]⟩ t0 HMB.out HDD.out.1 HDD.out.2 A0 c0' K0 d0 _ _ HN0.out hBb hWb (by have h := HLN.out; (try simp only [List.length_append, List.length_cons, List.length_nil, List.length_singleton] at h); (try simp only [List.length_append, List.length_cons, List.length_nil, List.length_singleton]); omega)
  unfold ndV at hI
  go_at_call 148
  refine hI.mono ?_
  rintro e w_1 ⟨rfl, hW_1, hk_1⟩
  have hK_1 := hK0.trans hk_1
  have hbx := box_keep hk_1 hbx hbX
  clear hI
  have hB_1 : Below w0.heap.size w0 w_1 := hBs.trans hK_1.b
  obtain ⟨c0, c1, c2, c3, c4, c5⟩ := (cells_box hbx).box
  have hlb := World.block_lt_of_cell? _ _ c0
  obtain ⟨n0_0, n0_1, n0_2, n0_3, n0_4, n0_5⟩ := hC0.later hB_1
  have hlk0 := World.block_lt_of_cell? _ _ n0_0
  have hlX := WrT.lt hW_1
  go_wp2_with fail
  ((try simp only [Exit.inBlock, Exit.then]); first | refine bodyPost_end (results_none rfl _ _ _) rfl ?_ | refine bodyPost_ret (results_none rfl _ _ _) rfl ?_)
  exact ⟨rfl, hW_1.eq (by show _ = l0 ++ simpL T; rw [HTX.out]; try simp only [List.append_assoc, List.append_nil, List.nil_append, List.cons_append, List.singleton_append]), hK_1⟩
set_option maxHeartbeats 8000000 in
theorem ws13 (D : Nat) (w0 : World) (X dep : Nat) (hdp : dep + (D + 1) ≤ 1000000) (T : Nd) (hk : T.kind = 13) (hT : St T) (hD : T.depth ≤ D + 1) (hWt : T.weight ≤ 1000000) : FSays 88 w0 X dep simpL T := by
  intro A c K d l0 w hN hBs hW hlen
  have hdm : dep ≤ 1000000 := by omega
  have hgl : ∀ t ∈ T.kids, Ex t := by
    have h := st_right hT
    rw [right_at hk (tx := .non) (fm := .some 1 (.of 31)) rfl (by decide)] at h
    simp only [Fm.ev, Bool.and_eq_true] at h
    exact fun t ht => ev_of' (List.all_eq_true.1 h.2.2 t ht) (by decide)
  have HFA := Lib.hid (fun (t : Nd) (ht : t ∈ T.kids) => wExpr_ok w0 X dep D t (hgl t ht) (within_kidsM hD hWt t ht).1 (within_kidsM hD hWt t ht).2)
  have hlen : l0.length + (simpL T).length ≤ 1000000000000 := hlen
  have hts : simpL T = [103, 108, 111, 98, 97, 108, 32] ++ sepL com (T.kids.map Nd.txt) := by simp [simpL, hk]
  rw [hts] at hlen
  have HTX := Lib.hid hts
  have HLN := Lib.hid hlen
  have z3 : (T.kind == 3) = false := by rw [hk]; rfl
  have z4 : (T.kind == 4) = false := by rw [hk]; rfl
  have z5 : (T.kind == 5) = false := by rw [hk]; rfl
  have z6 : (T.kind == 6) = false := by rw [hk]; rfl
  have z7 : (T.kind == 7) = false := by rw [hk]; rfl
  have z8 : (T.kind == 8) = false := by rw [hk]; rfl
  have z9 : (T.kind == 9) = false := by rw [hk]; rfl
  have z10 : (T.kind == 10) = false := by rw [hk]; rfl
  have z11 : (T.kind == 11) = false := by rw [hk]; rfl
  have z12 : (T.kind == 12) = false := by rw [hk]; rfl
  have z13 : (T.kind == 13) = true := by rw [hk]; rfl
  have z14 : (T.kind == 14) = false := by rw [hk]; rfl
  obtain ⟨hm1, hm2, hrm, hw32, hk1, hk2, hk64, ha64, hts', hKs⟩ := hN.parts
  have hk2' := hk2
  unfold maxLen at hm2 hk2 hts'
  obtain ⟨hk64a, hk64b⟩ := hk64
  obtain ⟨ha64a, ha64b⟩ := ha64
  have hB0 : w0.heap.size ≤ w.heap.size := hBs.size
  have hbX : X < w.heap.size := WrT.lt hW
  have hK0 : WK w0.heap.size X w (w.alloc (.cells #[.int .i64 T.kind, .int .i64 T.pos, .string T.text, .bool T.neg, .slice A T.mag.length c, .slice K T.kids.length d] 27)) := (WK.refl _ _ _).alloc hB0 _
  have hWb := hW.alloc (.cells #[.int .i64 T.kind, .int .i64 T.pos, .string T.text, .bool T.neg, .slice A T.mag.length c, .slice K T.kids.length d] 27)
  have hBb : Below w0.heap.size w0 (w.alloc (.cells #[.int .i64 T.kind, .int .i64 T.pos, .string T.text, .bool T.neg, .slice A T.mag.length c, .slice K T.kids.length d] 27)) := hBs.trans hK0.b
  have hbx := heap_alloc_new w (.cells #[.int .i64 T.kind, .int .i64 T.pos, .string T.text, .bool T.neg, .slice A T.mag.length c, .slice K T.kids.length d] 27)
  have hsg : (w.alloc (.cells #[.int .i64 T.kind, .int .i64 T.pos, .string T.text, .bool T.neg, .slice A T.mag.length c, .slice K T.kids.length d] 27)).heap.size = w.heap.size + 1 := by simp
  have HKA := Lib.hid hKs
  clear hKs hN hlen hT hD hWt hrm hw32 hk hts hgl
  obtain ⟨c0, c1, c2, c3, c4, c5⟩ := (cells_box hbx).box
  have hlb := World.block_lt_of_cell? _ _ c0
  have hlX := WrT.lt hWb
  unfold ndV
  go_enter Tryz.func88, Tryz.ntmps88
  go_wp2_with fail
  have hWa := hWb.alloc (.cells #[.string { data := #[103, 108, 111, 98, 97, 108, 32] }] 9)
  have hKa := hK0.alloc (Nat.le_trans hB0 hK0.b.size) (.cells #[.string { data := #[103, 108, 111, 98, 97, 108, 32] }] 9)
  have hbxa := (Lib.alloc_old _ (.cells #[.string { data := #[103, 108, 111, 98, 97, 108, 32] }] 9) _ hlb).trans hbx
  go_at_call 84
  refine (wSayT_ok w0.heap.size X dep _ ([103, 108, 111, 98, 97, 108, 32]) [⟨#[103, 108, 111, 98, 97, 108, 32]⟩] 1 (w.heap.size + 1) _ hWa rfl (by have := WrT.lt hWb; rw [hsg] at this; exact this) (by rw [← hsg]; exact heap_alloc_new _ _) rfl (by decide) (by have h := HLN.out; (try simp only [List.length_append, List.length_cons, List.length_nil, List.length_singleton] at h); (try simp only [List.length_append, List.length_cons, List.length_nil, List.length_singleton]); omega) (Nat.le_trans hB0 hKa.b.size)).mono ?_
  rintro e w_1 ⟨rfl, hW_1, hk_1⟩
  have hK_1 := hKa.trans hk_1
  have hbx := box_keep hk_1 hbxa hbX
  have hB_1 : Below w0.heap.size w0 w_1 := hBs.trans hK_1.b
  obtain ⟨c0, c1, c2, c3, c4, c5⟩ := (cells_box hbx).box
  have hlb := World.block_lt_of_cell? _ _ c0
  have hlX := WrT.lt hW_1
  go_wp2_with fail
  have hI := wList_ok 81 run_expr w0 X dep Nd.txt _ T.kids T.kids.length K d _ rfl HKA.out HFA.out hk1 hk2' hB_1 hW_1 (by have h := HLN.out; (try simp only [List.length_append, List.length_cons, List.length_nil, List.length_singleton] at h); (try simp only [List.length_append, List.length_cons, List.length_nil, List.length_singleton]); omega)
  go_at_call 85
  refine hI.mono ?_
  rintro e w_2 ⟨rfl, hW_2, hk_2⟩
  have hK_2 := hK_1.trans hk_2
  have hbx := box_keep hk_2 hbx hbX
  clear hI
  have hB_2 : Below w0.heap.size w0 w_2 := hBs.trans hK_2.b
  obtain ⟨c0, c1, c2, c3, c4, c5⟩ := (cells_box hbx).box
  have hlb := World.block_lt_of_cell? _ _ c0
  have hlX := WrT.lt hW_2
  go_wp2_with fail
  ((try simp only [Exit.inBlock, Exit.then]); first | refine bodyPost_end (results_none rfl _ _ _) rfl ?_ | refine bodyPost_ret (results_none rfl _ _ _) rfl ?_)
  exact ⟨rfl, hW_2.eq (by show _ = l0 ++ simpL T; rw [HTX.out]; try simp only [List.append_assoc, List.append_nil, List.nil_append, List.cons_append, List.singleton_append]), hK_2⟩
set_option maxHeartbeats 8000000 in
theorem ws14 (D : Nat) (w0 : World) (X dep : Nat) (hdp : dep + (D + 1) ≤ 1000000) (T : Nd) (hk : T.kind = 14) (hT : St T) (hD : T.depth ≤ D + 1) (hWt : T.weight ≤ 1000000) : FSays 88 w0 X dep simpL T := by
  intro A c K d l0 w hN hBs hW hlen
  have hdm : dep ≤ 1000000 := by omega
  have hgl : ∀ t ∈ T.kids, Ex t := by
    have h := st_right hT
    rw [right_at hk (tx := .non) (fm := .some 1 (.of 31)) rfl (by decide)] at h
    simp only [Fm.ev, Bool.and_eq_true] at h
    exact fun t ht => ev_of' (List.all_eq_true.1 h.2.2 t ht) (by decide)
  have HFA := Lib.hid (fun (t : Nd) (ht : t ∈ T.kids) => wExpr_ok w0 X dep D t (hgl t ht) (within_kidsM hD hWt t ht).1 (within_kidsM hD hWt t ht).2)
  have hlen : l0.length + (simpL T).length ≤ 1000000000000 := hlen
  have hts : simpL T = [110, 111, 110, 108, 111, 99, 97, 108, 32] ++ sepL com (T.kids.map Nd.txt) := by simp [simpL, hk]
  rw [hts] at hlen
  have HTX := Lib.hid hts
  have HLN := Lib.hid hlen
  have z3 : (T.kind == 3) = false := by rw [hk]; rfl
  have z4 : (T.kind == 4) = false := by rw [hk]; rfl
  have z5 : (T.kind == 5) = false := by rw [hk]; rfl
  have z6 : (T.kind == 6) = false := by rw [hk]; rfl
  have z7 : (T.kind == 7) = false := by rw [hk]; rfl
  have z8 : (T.kind == 8) = false := by rw [hk]; rfl
  have z9 : (T.kind == 9) = false := by rw [hk]; rfl
  have z10 : (T.kind == 10) = false := by rw [hk]; rfl
  have z11 : (T.kind == 11) = false := by rw [hk]; rfl
  have z12 : (T.kind == 12) = false := by rw [hk]; rfl
  have z13 : (T.kind == 13) = false := by rw [hk]; rfl
  have z14 : (T.kind == 14) = true := by rw [hk]; rfl
  obtain ⟨hm1, hm2, hrm, hw32, hk1, hk2, hk64, ha64, hts', hKs⟩ := hN.parts
  have hk2' := hk2
  unfold maxLen at hm2 hk2 hts'
  obtain ⟨hk64a, hk64b⟩ := hk64
  obtain ⟨ha64a, ha64b⟩ := ha64
  have hB0 : w0.heap.size ≤ w.heap.size := hBs.size
  have hbX : X < w.heap.size := WrT.lt hW
  have hK0 : WK w0.heap.size X w (w.alloc (.cells #[.int .i64 T.kind, .int .i64 T.pos, .string T.text, .bool T.neg, .slice A T.mag.length c, .slice K T.kids.length d] 27)) := (WK.refl _ _ _).alloc hB0 _
  have hWb := hW.alloc (.cells #[.int .i64 T.kind, .int .i64 T.pos, .string T.text, .bool T.neg, .slice A T.mag.length c, .slice K T.kids.length d] 27)
  have hBb : Below w0.heap.size w0 (w.alloc (.cells #[.int .i64 T.kind, .int .i64 T.pos, .string T.text, .bool T.neg, .slice A T.mag.length c, .slice K T.kids.length d] 27)) := hBs.trans hK0.b
  have hbx := heap_alloc_new w (.cells #[.int .i64 T.kind, .int .i64 T.pos, .string T.text, .bool T.neg, .slice A T.mag.length c, .slice K T.kids.length d] 27)
  have hsg : (w.alloc (.cells #[.int .i64 T.kind, .int .i64 T.pos, .string T.text, .bool T.neg, .slice A T.mag.length c, .slice K T.kids.length d] 27)).heap.size = w.heap.size + 1 := by simp
  have HKA := Lib.hid hKs
  clear hKs hN hlen hT hD hWt hrm hw32 hk hts hgl
  obtain ⟨c0, c1, c2, c3, c4, c5⟩ := (cells_box hbx).box
  have hlb := World.block_lt_of_cell? _ _ c0
  have hlX := WrT.lt hWb
  unfold ndV
  go_enter Tryz.func88, Tryz.ntmps88
  go_wp2_with fail
  have hWa := hWb.alloc (.cells #[.string { data := #[110, 111, 110, 108, 111, 99, 97, 108, 32] }] 9)
  have hKa := hK0.alloc (Nat.le_trans hB0 hK0.b.size) (.cells #[.string { data := #[110, 111, 110, 108, 111, 99, 97, 108, 32] }] 9)
  have hbxa := (Lib.alloc_old _ (.cells #[.string { data := #[110, 111, 110, 108, 111, 99, 97, 108, 32] }] 9) _ hlb).trans hbx
  go_at_call 84
  refine (wSayT_ok w0.heap.size X dep _ ([110, 111, 110, 108, 111, 99, 97, 108, 32]) [⟨#[110, 111, 110, 108, 111, 99, 97, 108, 32]⟩] 1 (w.heap.size + 1) _ hWa rfl (by have := WrT.lt hWb; rw [hsg] at this; exact this) (by rw [← hsg]; exact heap_alloc_new _ _) rfl (by decide) (by have h := HLN.out; (try simp only [List.length_append, List.length_cons, List.length_nil, List.length_singleton] at h); (try simp only [List.length_append, List.length_cons, List.length_nil, List.length_singleton]); omega) (Nat.le_trans hB0 hKa.b.size)).mono ?_
  rintro e w_1 ⟨rfl, hW_1, hk_1⟩
  have hK_1 := hKa.trans hk_1
  have hbx := box_keep hk_1 hbxa hbX
  have hB_1 : Below w0.heap.size w0 w_1 := hBs.trans hK_1.b
  obtain ⟨c0, c1, c2, c3, c4, c5⟩ := (cells_box hbx).box
  have hlb := World.block_lt_of_cell? _ _ c0
  have hlX := WrT.lt hW_1
  go_wp2_with fail
  have hI := wList_ok 81 run_expr w0 X dep Nd.txt _ T.kids T.kids.length K d _ rfl HKA.out HFA.out hk1 hk2' hB_1 hW_1 (by have h := HLN.out; (try simp only [List.length_append, List.length_cons, List.length_nil, List.length_singleton] at h); (try simp only [List.length_append, List.length_cons, List.length_nil, List.length_singleton]); omega)
  go_at_call 85
  refine hI.mono ?_
  rintro e w_2 ⟨rfl, hW_2, hk_2⟩
  have hK_2 := hK_1.trans hk_2
  have hbx := box_keep hk_2 hbx hbX
  clear hI
  have hB_2 : Below w0.heap.size w0 w_2 := hBs.trans hK_2.b
  obtain ⟨c0, c1, c2, c3, c4, c5⟩ := (cells_box hbx).box
  have hlb := World.block_lt_of_cell? _ _ c0
  have hlX := WrT.lt hW_2
  go_wp2_with fail
  ((try simp only [Exit.inBlock, Exit.then]); first | refine bodyPost_end (results_none rfl _ _ _) rfl ?_ | refine bodyPost_ret (results_none rfl _ _ _) rfl ?_)
  exact ⟨rfl, hW_2.eq (by show _ = l0 ++ simpL T; rw [HTX.out]; try simp only [List.append_assoc, List.append_nil, List.nil_append, List.cons_append, List.singleton_append]), hK_2⟩
end
end Go.Proofs.YtjefhdlncikhmaaGreatDoor
